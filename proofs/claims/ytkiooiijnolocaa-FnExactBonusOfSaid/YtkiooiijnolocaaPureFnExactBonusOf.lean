/- The program's BonusOf and the reference's answer alike for all arguments, and change none: the law's plain statement, with no condition. -/
import Derived.Test.YtkiooiijnolocaaXFnExactBonusOfx5
import Derived.Test.YtkiooiijnolocaaAx
import Derived.Test.YtkiooiijnolocaaIdx
namespace Go.Proofs.Ytkiooiijnolocaa.Pure
open Go.RowKit Go.Proofs.Ytkiooiijnolocaa.XFnExactBonusOf Go.Proofs.YtkiooiijnolocaaW.PrintWords Go.Proofs.YtkiooiijnolocaaW.PrintLast
open Go.Proofs.YtkiooiijnolocaaW.Ax Go.Proofs.YtkiooiijnolocaaW.Idx
set_option linter.unusedVariables false
set_option linter.unusedSimpArgs false
theorem within_ev (a b c : Int) : impl_within.f a b c = some (decide (b ≤ a ∧ a ≤ c)) := by
  unfold impl_within.f
  by_cases h : a ≥ b
  · rw [if_pos h]; congr 1; rw [decide_eq_decide]; omega
  · rw [if_neg h]; congr 1; symm; rw [decide_eq_false_iff_not]; omega
theorem l01In_ev (a b c : Int) : spec_l01In.f a b c = some (decide (b ≤ a ∧ a ≤ c)) := by
  unfold spec_l01In.f
  by_cases h : a ≥ b
  · rw [if_pos h]; congr 1; rw [decide_eq_decide]; omega
  · rw [if_neg h]; congr 1; symm; rw [decide_eq_false_iff_not]; omega
theorem floor_num (a b : Int) (hb : 1 ≤ b) (ha : -4611686018427387904 ≤ a ∧ a ≤ 4611686018427387904) :
    (if Int.tmod a b < 0 then wrap64 ((wrap64 (Int.tdiv a b)) - 1) else wrap64 (Int.tdiv a b)) = a / b := by
  have h0 : a / b ≤ 4611686018427387904 := by
    by_cases c : 0 ≤ a
    · have := Int.ediv_le_self b c; omega
    · have := Int.ediv_neg_of_neg_of_pos (a := a) (b := b) (by omega) (by omega); omega
  have h1 : -4611686018427387904 ≤ a / b := by
    rw [Int.le_ediv_iff_mul_le (by omega)]
    have := Int.mul_le_mul_of_nonneg_left (show (1 : Int) ≤ b by omega) (show (0 : Int) ≤ 4611686018427387904 by omega)
    omega
  have e1 := Int.emod_nonneg a (show b ≠ 0 by omega)
  have e2 := Int.emod_lt_of_pos a (show 0 < b by omega)
  rw [Int.tmod_eq_emod, Int.tdiv_eq_ediv]
  by_cases c : 0 ≤ a ∨ b ∣ a
  · rw [if_pos c, if_pos c, if_neg (by omega)]
    rw [show a / b + 0 = a / b by omega]
    exact w64 (by omega) (by omega)
  · rw [if_neg c, if_neg c, Int.sign_eq_one_of_pos (by omega)]
    rw [if_pos (by omega), w64 (x := a / b + 1) (by omega) (by omega), w64 (by omega) (by omega)]
    omega
theorem rdR_mid (p : List S57) (x : S57) (r : List S57) : rd_T57 (p ++ x :: r) (p.length : Int) = x := getD_mid p x r z57
theorem rdl_mid (p : List S63) (x : S63) (r : List S63) : rd_T63 (p ++ x :: r) (p.length : Int) = x := getD_mid p x r z63
def toRungV (x : S63) : S57 := ⟨x.f0, ⟨x.f1.f0, x.f1.f1⟩⟩
theorem toRung_ev (x : S63) : laws_toRung.f x.f0 x.f1.f0 x.f1.f1 = some (x.f0, x.f1.f0, x.f1.f1) := rfl
theorem toRungS_l0 : ∀ (a p : List S63) (t : List S57), t.length = a.length → (p ++ a).length < 4611686018427387904 →
    Ev (fun k => laws_toRungS.l0 k (p ++ a) (p.map toRungV ++ t) (p.length : Int)) ((p ++ a).map toRungV) := by
  intro a
  induction a with
  | nil =>
    intro p t ht hl
    obtain rfl : t = [] := List.eq_nil_of_length_eq_zero ht
    exact Ev.step (fun k => rfl) (Ev.neg (len_end p) (Ev.some' (by simp)))
  | cons x a ih =>
    intro p t ht hl
    match t, ht with
    | y :: t, ht =>
      have hl' : (p ++ x :: a).length < 4611686018427387904 := hl
      rw [List.length_append, List.length_cons] at hl'
      refine Ev.step (fun k => rfl) (Ev.pos (len_lt p x a) (Ev.pos (by omega) ?_))
      rw [rdl_mid]
      refine Ev.ret (toRung_ev x) (Ev.pos (by simp; omega) ?_)
      have hs : (p.map toRungV ++ y :: t).set (p.length : Int).toNat ⟨x.f0, ⟨x.f1.f0, x.f1.f1⟩⟩ = p.map toRungV ++ toRungV x :: t := by
        rw [show (p.length : Int) = ((p.map toRungV).length : Int) by simp]
        exact set_mid _ _ _ _
      simp only
      rw [hs, w64 (by omega) (by omega), ← len_snoc p x, snoc p x a, snoc _ (toRungV x) t]
      rw [show p.map toRungV ++ [toRungV x] = (p ++ [x]).map toRungV by simp]
      exact ih (p ++ [x]) t (by simpa using ht) (by rw [← snoc]; exact hl)
theorem toRungS_ev (a : List S63) (hl : a.length ≤ 1048576) : Ev (fun k => laws_toRungS.f k a) (a.map toRungV) := by
  unfold laws_toRungS.f
  refine Ev.pos (by omega) (Ev.pos (by omega) ?_)
  rw [Int.toNat_natCast]
  exact toRungS_l0 a [] (List.replicate a.length z57) (by simp) (by simp; omega)
theorem eqRung_ev (x : S57) : laws_eqRung.f x.f0 x.f1.f0 x.f1.f1 x.f0 x.f1.f0 x.f1.f1 = some true := by
  unfold laws_eqRung.f laws_eqRate.f
  simp
theorem eqRungS_l0 : ∀ (a p : List S57), (p ++ a).length < 4611686018427387904 →
    Ev (fun k => laws_eqRungS.l0 k (p ++ a) (p ++ a) (p.length : Int)) true := by
  intro a
  induction a with
  | nil =>
    intro p hl
    exact Ev.step (fun k => rfl) (Ev.neg (len_end p) (Ev.some' rfl))
  | cons x a ih =>
    intro p hl
    have hl' : (p ++ x :: a).length < 4611686018427387904 := hl
    rw [List.length_append, List.length_cons] at hl'
    refine Ev.step (fun k => rfl) (Ev.pos (len_lt p x a) (Ev.pos (by omega) (Ev.pos (len_lt p x a) ?_)))
    rw [rdR_mid]
    refine Ev.ret (eqRung_ev x) (Ev.pos (by first | rfl | trivial) ?_)
    rw [w64 (by omega) (by omega), ← len_snoc p x, snoc p x a]
    exact ih (p ++ [x]) (by rw [← snoc]; exact hl)
theorem eqRungS_ev (a : List S57) (hl : a.length < 4611686018427387904) : Ev (fun k => laws_eqRungS.f k a a) true := by
  unfold laws_eqRungS.f
  exact Ev.pos (by first | rfl | trivial) (eqRungS_l0 a [] hl)
/-! ### what is answered -/
def rateB (a b : Int) : Bool := decide ((0 ≤ a ∧ a ≤ 10000) ∧ 1 ≤ b ∧ b ≤ 10000)
theorem implRate_ev (a b : Int) : impl_RateOK.f a b = some (rateB a b) := by
  unfold impl_RateOK.f rateB
  rw [within_ev, within_ev]
  simp only [Option.bind_some]
  by_cases c : 0 ≤ a ∧ a ≤ 10000
  · rw [if_pos (by simpa using c)]
    simp [c]
  · rw [if_neg (by simpa using c), decide_eq_false (fun h => c h.1)]
theorem specRate_ev (a b : Int) : spec_RateOK.f a b = some (rateB a b) := by
  unfold spec_RateOK.f rateB
  rw [l01In_ev, l01In_ev]
  simp only [Option.bind_some]
  by_cases c : 0 ≤ a ∧ a ≤ 10000
  · rw [if_pos (by simpa using c)]
    simp [c]
  · rw [if_neg (by simpa using c), decide_eq_false (fun h => c h.1)]
def rungOK (prev : Int) (r : S57) : Prop := (0 ≤ r.f0 ∧ r.f0 ≤ 1000000000) ∧ rateB r.f1.f0 r.f1.f1 = true ∧ r.f1.f0 ≤ r.f1.f1 ∧ prev < r.f0
instance (prev : Int) (r : S57) : Decidable (rungOK prev r) := by unfold rungOK; exact inferInstance
def bV (a : Int) : Int → Int → List S57 → Int × Int
  | _, cur, [] => (cur, 0)
  | prev, cur, r :: rs => if rungOK prev r then bV a r.f0 (if r.f0 ≤ a then a * r.f1.f0 / r.f1.f1 else cur) rs else (0, 1)
theorem rate_nums {a x y : Int} (ha : 0 ≤ a ∧ a ≤ 1000000000) (h : rateB x y = true) : (0 ≤ a * x ∧ a * x ≤ 10000000000000) ∧ 1 ≤ y ∧ 0 ≤ a * x / y ∧ a * x / y ≤ 10000000000000 := by
  have h := of_decide_eq_true h
  have h1 := Int.mul_nonneg ha.1 h.1.1
  have h2 : a * x ≤ 1000000000 * 10000 := Int.mul_le_mul ha.2 h.1.2 h.1.1 (by omega)
  have h3 : 0 ≤ a * x / y := Int.ediv_nonneg h1 (by omega)
  have h4 : a * x / y ≤ a * x := Int.ediv_le_self _ h1
  omega
def prevOf (p : List S57) (prev : Int) : Prop := (p = [] ∧ prev = -1) ∨ ∃ q r, p = q ++ [r] ∧ r.f0 = prev
theorem impl_l0 (a : Int) (ha : 0 ≤ a ∧ a ≤ 1000000000) : ∀ (rs p : List S57) (prev cur : Int), (p ++ rs).length < 1000000 → prevOf p prev →
    Ev (fun k => impl_BonusOf.l0 k (p ++ rs) a cur (p ++ rs) ((p ++ rs).length : Int) (p.length : Int)) (bV a prev cur rs) := by
  intro rs
  induction rs with
  | nil => intro p prev cur hl hp; exact Ev.step (fun k => rfl) (Ev.neg (len_end p) (Ev.some' rfl))
  | cons r rs ih =>
    intro p prev cur hl hp
    have hl' := hl
    rw [List.length_append, List.length_cons] at hl'
    have hnext : rungOK prev r → Ev (fun k => impl_BonusOf.j2 k (p ++ r :: rs) a cur (p ++ r :: rs) ((p ++ r :: rs).length : Int) (p.length : Int) false r.f0 r.f1.f0 r.f1.f1) (bV a prev cur (r :: rs)) := by
      intro h
      rw [bV, if_pos h]
      obtain ⟨n1, n2, n3, n4⟩ := rate_nums ha h.2.1
      have hi := fun c => ih (p ++ [r]) r.f0 c (by rw [← snoc]; exact hl) (.inr ⟨p, r, rfl, rfl⟩)
      rw [len_snoc] at hi
      simp only [← snoc] at hi
      refine Ev.up1 ?_
      simp only [impl_BonusOf.j2, if_neg ff]
      rw [w64 (x := a * r.f1.f0) (by omega) (by omega), Int.tdiv_eq_ediv_of_nonneg n1.1, w64 (x := a * r.f1.f0 / r.f1.f1) (by omega) (by omega), w64 (x := (p.length : Int) + 1) (by omega) (by omega)]
      by_cases c : r.f0 ≤ a
      · rw [if_pos c]
        exact Ev.pos c (Ev.neg (by omega) (hi _))
      · rw [if_neg c]
        exact Ev.neg c (hi _)
    have hbad : ¬ rungOK prev r → Ev (fun k => impl_BonusOf.j2 k (p ++ r :: rs) a cur (p ++ r :: rs) ((p ++ r :: rs).length : Int) (p.length : Int) true r.f0 r.f1.f0 r.f1.f1) (bV a prev cur (r :: rs)) := by
      intro h
      rw [bV, if_neg h]
      exact Ev.via (Ev.some' rfl) (fun k => rfl)
    have hrate : prev < r.f0 → 0 ≤ r.f0 ∧ r.f0 ≤ 1000000000 → Ev (fun k => (impl_RateOK.f r.f1.f0 r.f1.f1).bind fun t => (if t = true then (impl_BonusOf.j2 k (p ++ r :: rs) a cur (p ++ r :: rs) ((p ++ r :: rs).length : Int) (p.length : Int) (decide (r.f1.f0 > r.f1.f1)) r.f0 r.f1.f0 r.f1.f1) else (impl_BonusOf.j2 k (p ++ r :: rs) a cur (p ++ r :: rs) ((p ++ r :: rs).length : Int) (p.length : Int) true r.f0 r.f1.f0 r.f1.f1))) (bV a prev cur (r :: rs)) := by
      intro hpr h0
      refine Ev.ret (implRate_ev _ _) ?_
      by_cases c : rateB r.f1.f0 r.f1.f1 = true
      · refine Ev.pos c ?_
        by_cases d : r.f1.f0 > r.f1.f1
        · rw [decide_eq_true d]
          exact hbad (fun h => by have := h.2.2.1; omega)
        · rw [decide_eq_false d]
          exact hnext ⟨h0, c, by omega, hpr⟩
      · exact Ev.neg c (hbad (fun h => c h.2.1))
    refine Ev.step (fun k => rfl) (Ev.pos (len_lt p r rs) (Ev.pos (by omega) (Ev.pos (len_lt p r rs) ?_)))
    rw [rdR_mid]
    refine Ev.ret (within_ev _ _ _) ?_
    by_cases c : 0 ≤ r.f0 ∧ r.f0 ≤ 1000000000
    · refine Ev.pos (by simpa using c) ?_
      rcases hp with ⟨rfl, hp⟩ | ⟨q, r', rfl, hp⟩
      · exact Ev.neg (show ¬ (([] : List S57).length : Int) > 0 by simp) (hrate (by omega) c)
      · have e : wrap64 (((q ++ [r']).length : Int) - 1) = (q.length : Int) := by
          rw [len_snoc, w64 (by simp at hl'; omega) (by simp at hl'; omega)]; omega
        refine Ev.pos (show ((q ++ [r']).length : Int) > 0 by rw [len_snoc]; omega) ?_
        rw [e]
        refine Ev.pos (by omega) (Ev.pos (by simp; omega) ?_)
        rw [show rd_T57 (q ++ [r'] ++ r :: rs) (q.length : Int) = r' by rw [List.append_assoc]; exact rdR_mid q r' (r :: rs)]
        by_cases d : r'.f0 ≥ r.f0
        · exact Ev.pos d (hbad (fun h => by have := h.2.2.2; omega))
        · exact Ev.neg d (hrate (by omega) c)
    · exact Ev.neg (by simpa using c) (hbad (fun h => c h.1))
def bestOf (l : List S57) (a x cur : Int) : Prop := (x = -1 ∧ cur = 0) ∨ ((0 ≤ x ∧ x < (l.length : Int)) ∧ rateB (rd_T57 l x).f1.f0 (rd_T57 l x).f1.f1 = true ∧ cur = a * (rd_T57 l x).f1.f0 / (rd_T57 l x).f1.f1)
theorem floor01_ev (a b : Int) (hb : 1 ≤ b) (ha : -4611686018427387904 ≤ a ∧ a ≤ 4611686018427387904) : spec_l01Floor.f a b = some (a / b) := by
  have h := floor_num a b hb ha
  unfold spec_l01Floor.f
  rw [if_neg (by omega)]
  by_cases c : Int.tmod a b < 0
  · rw [if_pos c] at h ⊢; rw [h]
  · rw [if_neg c] at h ⊢; rw [h]
theorem round_ev (a b : Int) (hb : 1 ≤ b) (ha : -4611686018427387904 ≤ a ∧ a ≤ 4611686018427387904) : Ev (fun k => spec_l01Round.f k a b 1) (a / b) := by
  unfold spec_l01Round.f
  refine Ev.ret (floor01_ev a b hb ha) ?_
  by_cases c : wrap64 (a - wrap64 (a / b * b)) = 0
  · exact Ev.pos c (Ev.via (Ev.some' rfl) (fun k => rfl))
  · exact Ev.neg c (Ev.via (Ev.some' rfl) (fun k => rfl))
theorem spec_l0 (a : Int) (ha : 0 ≤ a ∧ a ≤ 1000000000) : ∀ (rs p : List S57) (prev cur x : Int), (p ++ rs).length < 1000000 → prevOf p prev → bestOf (p ++ rs) a x cur →
    Ev (fun k => spec_BonusOf.l0 k (p ++ rs) a x (p.length : Int)) (bV a prev cur rs) := by
  intro rs
  induction rs with
  | nil =>
    intro p prev cur x hl hp hb
    refine Ev.step (fun k => rfl) (Ev.neg (len_end p) ?_)
    rcases hb with ⟨rfl, rfl⟩ | ⟨h1, h2, h3⟩
    · exact Ev.pos (by omega) (Ev.some' rfl)
    · obtain ⟨n1, n2, n3, n4⟩ := rate_nums ha h2
      refine Ev.neg (by omega) (Ev.pos h1.1 (Ev.pos h1.2 ?_))
      rw [w64 (x := a * _) (by omega) (by omega)]
      refine Ev.bind (round_ev _ _ n2 (by omega)) (Ev.some' ?_)
      rw [bV, h3]
  | cons r rs ih =>
    intro p prev cur x hl hp hb
    have hl' := hl
    rw [List.length_append, List.length_cons] at hl'
    have hnext : rungOK prev r → Ev (fun k => spec_BonusOf.j2 k (p ++ r :: rs) a x (p.length : Int) false) (bV a prev cur (r :: rs)) := by
      intro h
      rw [bV, if_pos h]
      have hi := fun c y => ih (p ++ [r]) r.f0 c y (by rw [← snoc]; exact hl) (.inr ⟨p, r, rfl, rfl⟩)
      rw [len_snoc] at hi
      simp only [← snoc] at hi
      refine Ev.up1 ?_
      simp only [spec_BonusOf.j2, if_neg ff]
      rw [rdR_mid, w64 (x := (p.length : Int) + 1) (by omega) (by omega)]
      refine Ev.pos (by omega) (Ev.pos (len_lt p r rs) ?_)
      by_cases c : r.f0 ≤ a
      · rw [if_pos c]
        refine Ev.pos c (hi _ _ (.inr ⟨⟨by omega, len_lt p r rs⟩, ?_⟩))
        rw [rdR_mid]
        exact ⟨h.2.1, rfl⟩
      · rw [if_neg c]
        exact Ev.neg c (hi _ _ hb)
    have hbad : ¬ rungOK prev r → Ev (fun k => spec_BonusOf.j2 k (p ++ r :: rs) a x (p.length : Int) true) (bV a prev cur (r :: rs)) := by
      intro h
      rw [bV, if_neg h]
      exact Ev.via (Ev.some' rfl) (fun k => rfl)
    refine Ev.step (fun k => rfl) (Ev.pos (len_lt p r rs) (Ev.pos (by omega) ?_))
    rw [rdR_mid]
    refine Ev.ret (l01In_ev _ _ _) ?_
    by_cases c : 0 ≤ r.f0 ∧ r.f0 ≤ 1000000000
    · refine Ev.pos (by simpa using c) (Ev.ret (specRate_ev _ _) ?_)
      by_cases c2 : rateB r.f1.f0 r.f1.f1 = true
      · refine Ev.pos c2 ?_
        by_cases c3 : r.f1.f0 > r.f1.f1
        · exact Ev.pos c3 (hbad (fun h => by have := h.2.2.1; omega))
        · refine Ev.neg c3 ?_
          rcases hp with ⟨rfl, hp⟩ | ⟨q, r', rfl, hp⟩
          · exact Ev.neg (show ¬ (([] : List S57).length : Int) > 0 by simp) (hnext ⟨c, c2, by omega, by omega⟩)
          · have e : wrap64 (((q ++ [r']).length : Int) - 1) = (q.length : Int) := by
              rw [len_snoc, w64 (by simp at hl'; omega) (by simp at hl'; omega)]; omega
            refine Ev.pos (show ((q ++ [r']).length : Int) > 0 by rw [len_snoc]; omega) ?_
            rw [e]
            refine Ev.pos (by omega) (Ev.pos (by simp; omega) ?_)
            rw [show rd_T57 (q ++ [r'] ++ r :: rs) (q.length : Int) = r' by rw [List.append_assoc]; exact rdR_mid q r' (r :: rs)]
            by_cases d : r.f0 ≤ r'.f0
            · rw [decide_eq_true d]
              exact hbad (fun h => by have := h.2.2.2; omega)
            · rw [decide_eq_false d]
              exact hnext ⟨c, c2, by omega, by omega⟩
      · exact Ev.neg c2 (hbad (fun h => c2 h.2.1))
    · exact Ev.neg (by simpa using c) (hbad (fun h => c h.1))
def bonusV (l : List S57) (a : Int) : Int × Int :=
  if 4096 < l.length then (0, 2) else if l.length ≤ 12 ∧ (0 ≤ a ∧ a ≤ 1000000000) then bV a (-1) 0 l else (0, 1)
theorem implBonus_ev (l : List S57) (a : Int) : Ev (fun k => impl_BonusOf.f k l a) (bonusV l a) := by
  unfold impl_BonusOf.f impl_Rung.f bonusV
  refine Ev.ret rfl ?_
  by_cases c1 : 4096 < l.length
  · rw [if_pos c1]; exact Ev.neg (by simp; omega) (Ev.some' rfl)
  rw [if_neg c1]
  refine Ev.pos (by simp; omega) ?_
  by_cases c2 : l.length ≤ 12
  · refine Ev.neg (by omega) (Ev.ret (within_ev _ _ _) ?_)
    by_cases c3 : 0 ≤ a ∧ a ≤ 1000000000
    · rw [if_pos ⟨c2, c3⟩, show (!decide (0 ≤ a ∧ a ≤ 1000000000)) = false by rw [decide_eq_true c3]; rfl]
      exact Ev.via (impl_l0 a c3 l [] (-1) 0 (by simp; omega) (.inl ⟨rfl, rfl⟩)) (fun k => rfl)
    · rw [if_neg (fun h => c3 h.2), show (!decide (0 ≤ a ∧ a ≤ 1000000000)) = true by rw [decide_eq_false c3]; rfl]
      exact Ev.via (Ev.some' rfl) (fun k => rfl)
  · rw [if_neg (fun h => c2 h.1)]
    exact Ev.pos (by omega) (Ev.via (Ev.some' rfl) (fun k => rfl))
theorem specBonus_ev (l : List S57) (a : Int) : Ev (fun k => spec_BonusOf.f k l a) (bonusV l a) := by
  unfold spec_BonusOf.f bonusV
  by_cases c1 : 4096 < l.length
  · rw [if_pos c1]; exact Ev.pos (by omega) (Ev.some' rfl)
  rw [if_neg c1]
  refine Ev.neg (by omega) ?_
  by_cases c2 : l.length ≤ 12
  · refine Ev.neg (by omega) (Ev.ret (l01In_ev _ _ _) ?_)
    by_cases c3 : 0 ≤ a ∧ a ≤ 1000000000
    · rw [if_pos ⟨c2, c3⟩, show (!decide (0 ≤ a ∧ a ≤ 1000000000)) = false by rw [decide_eq_true c3]; rfl]
      exact Ev.via (spec_l0 a c3 l [] (-1) 0 (-1) (by simp; omega) (.inl ⟨rfl, rfl⟩) (.inl ⟨rfl, rfl⟩)) (fun k => rfl)
    · rw [if_neg (fun h => c3 h.2), show (!decide (0 ≤ a ∧ a ≤ 1000000000)) = true by rw [decide_eq_false c3]; rfl]
      exact Ev.via (Ev.some' rfl) (fun k => rfl)
  · rw [if_neg (fun h => c2 h.1)]
    exact Ev.pos (by omega) (Ev.via (Ev.some' rfl) (fun k => rfl))
theorem szRungS_ev (l : List S63) (hl : l.length ≤ 9223372036854775807) : ∃ t, laws_szRungS.f l 1048576 = some t ∧ (t < 0 ∨ (¬ t < 0 ∧ l.length ≤ 1048576)) := by
  unfold laws_szRungS.f
  rw [w64 (by omega) (by omega)]
  by_cases h : (1048576 : Int) - (l.length : Int) < 0
  · rw [if_pos h]; exact ⟨_, rfl, .inl (by omega)⟩
  · rw [if_neg h]; exact ⟨_, rfl, .inr ⟨by omega, by omega⟩⟩
theorem FnExactBonusOf : laws_FnExactBonusOf.Pure := by
  intro l a hl _
  refine Ev.rounds (?_ : Ev (fun k => laws_FnExactBonusOf.f k l a) true)
  unfold laws_FnExactBonusOf.f
  obtain ⟨t, ht, h⟩ := szRungS_ev l hl.1
  refine Ev.ret ht ?_
  rcases h with h | ⟨h, h2⟩
  · exact Ev.pos h (Ev.some' rfl)
  refine Ev.neg h ?_
  have tR := toRungS_ev l h2
  generalize hL : l.map toRungV = L at tR
  have hlen : L.length = l.length := by rw [← hL]; simp
  have eq := eqRungS_ev L (by omega)
  have sp := specBonus_ev L a
  have im := implBonus_ev L a
  generalize bonusV L a = v at sp im
  obtain ⟨o, c⟩ := v
  repeat' (first
    | exact Ev.some' rfl
    | with_reducible assumption
    | (with_reducible refine Ev.bind (by with_reducible assumption) ?_)
    | (with_reducible refine Ev.ret (by with_reducible assumption) ?_)
    | (refine Ev.pos (by first | with_reducible rfl | with_reducible assumption | omega | (simp; done) | (simp; omega)) ?_)
    | (refine Ev.neg (by first | with_reducible assumption | omega | (simp; done) | (simp; omega)) ?_)
    | (refine Ev.up1 ?_; simp only [laws_FnExactBonusOf.j0]))

end Go.Proofs.Ytkiooiijnolocaa.Pure
