/- The program's PayMix and the reference's answer alike for all arguments, and change none: the law's plain statement, with no condition. -/
import Derived.Test.YthlphmnplfnmnaaXFnExactPayMixx6
import Derived.Test.YthlphmnplfnmnaaAx
import Derived.Test.YthlphmnplfnmnaaIdx
namespace Go.Proofs.Ythlphmnplfnmnaa.Pure
open Go.RowKit Go.Proofs.Ythlphmnplfnmnaa.XFnExactPayMix Go.Proofs.YthlphmnplfnmnaaW.PrintWords Go.Proofs.YthlphmnplfnmnaaW.PrintLast
open Go.Proofs.YthlphmnplfnmnaaW.Ax Go.Proofs.YthlphmnplfnmnaaW.Idx
set_option linter.unusedVariables false
set_option linter.unusedSimpArgs false
theorem within_ev (a b c : Int) : impl_within.f a b c = some (decide (b ≤ a ∧ a ≤ c)) := by
  unfold impl_within.f
  by_cases h : a ≥ b
  · rw [if_pos h]; congr 1; rw [decide_eq_decide]; omega
  · rw [if_neg h]; congr 1; symm; rw [decide_eq_false_iff_not]; omega
theorem l01In_ev (a b c : Int) : spec_l01In.f a b c = some (decide (b ≤ a ∧ a ≤ c)) := by
  unfold spec_l01In.f
  by_cases h : a ≥ b
  · rw [if_pos h]; congr 1; rw [decide_eq_decide]; omega
  · rw [if_neg h]; congr 1; symm; rw [decide_eq_false_iff_not]; omega
theorem floor_num (a b : Int) (hb : 1 ≤ b) (ha : -4611686018427387904 ≤ a ∧ a ≤ 4611686018427387904) :
    (if Int.tmod a b < 0 then wrap64 ((wrap64 (Int.tdiv a b)) - 1) else wrap64 (Int.tdiv a b)) = a / b := by
  have h0 : a / b ≤ 4611686018427387904 := by
    by_cases c : 0 ≤ a
    · have := Int.ediv_le_self b c; omega
    · have := Int.ediv_neg_of_neg_of_pos (a := a) (b := b) (by omega) (by omega); omega
  have h1 : -4611686018427387904 ≤ a / b := by
    rw [Int.le_ediv_iff_mul_le (by omega)]
    have := Int.mul_le_mul_of_nonneg_left (show (1 : Int) ≤ b by omega) (show (0 : Int) ≤ 4611686018427387904 by omega)
    omega
  have e1 := Int.emod_nonneg a (show b ≠ 0 by omega)
  have e2 := Int.emod_lt_of_pos a (show 0 < b by omega)
  rw [Int.tmod_eq_emod, Int.tdiv_eq_ediv]
  by_cases c : 0 ≤ a ∨ b ∣ a
  · rw [if_pos c, if_pos c, if_neg (by omega)]
    rw [show a / b + 0 = a / b by omega]
    exact w64 (by omega) (by omega)
  · rw [if_neg c, if_neg c, Int.sign_eq_one_of_pos (by omega)]
    rw [if_pos (by omega), w64 (x := a / b + 1) (by omega) (by omega), w64 (by omega) (by omega)]
    omega

theorem rdT_mid (p : List S40) (x : S40) (r : List S40) : rd_T40 (p ++ x :: r) (p.length : Int) = x := getD_mid p x r z40
/-- A right tender. -/
def gT (t : S40) : Prop := (1 ≤ t.f0 ∧ t.f0 ≤ 4) ∧ (1 ≤ t.f1 ∧ t.f1 ≤ 1000000000) ∧ (t.f0 = 4 → (0 ≤ t.f2.f0 ∧ t.f2.f0 ≤ 10000) ∧ (1 ≤ t.f2.f1 ∧ t.f2.f1 ≤ 10000)) ∧ (t.f0 ≠ 4 → t.f2.f0 = 0 ∧ t.f2.f1 = 0)
instance (t : S40) : Decidable (gT t) := by unfold gT; exact inferInstance
def pA (t : S40) : Int := if t.f0 = 1 then t.f1 else 0
def pB (t : S40) : Int := if t.f0 = 2 then t.f1 else 0
def pC (t : S40) : Int := if t.f0 = 3 then t.f1 else if t.f0 = 4 then t.f1 * t.f2.f0 / t.f2.f1 else 0
def sumF (f : S40 → Int) : List S40 → Int
  | [] => 0
  | t :: ts => f t + sumF f ts
theorem sumF_append (f : S40 → Int) : ∀ a b, sumF f (a ++ b) = sumF f a + sumF f b := by
  intro a
  induction a with
  | nil => intro b; simp [sumF]
  | cons x a ih => intro b; rw [List.cons_append, sumF, sumF, ih]; omega
theorem sumF_reverse (f : S40 → Int) : ∀ a, sumF f a.reverse = sumF f a := by
  intro a
  induction a with
  | nil => rfl
  | cons x a ih => rw [List.reverse_cons, sumF_append, ih, sumF, sumF, sumF]; omega
theorem rate_part {t : S40} (h : gT t) (h4 : t.f0 = 4) : (0 ≤ t.f1 * t.f2.f0 ∧ t.f1 * t.f2.f0 ≤ 10000000000000) ∧ 0 ≤ t.f1 * t.f2.f0 / t.f2.f1 ∧ t.f1 * t.f2.f0 / t.f2.f1 ≤ 10000000000000 := by
  obtain ⟨h0, h1, h2, h3⟩ := h
  have h2 := h2 h4
  have a1 := Int.mul_nonneg (show 0 ≤ t.f1 by omega) h2.1.1
  have a2 : t.f1 * t.f2.f0 ≤ 1000000000 * 10000 := Int.mul_le_mul h1.2 h2.1.2 h2.1.1 (by omega)
  have a3 : 0 ≤ t.f1 * t.f2.f0 / t.f2.f1 := Int.ediv_nonneg a1 (by omega)
  have a4 : t.f1 * t.f2.f0 / t.f2.f1 ≤ t.f1 * t.f2.f0 := Int.ediv_le_self _ a1
  omega
theorem part_bounds {t : S40} (h : gT t) : (0 ≤ pA t ∧ pA t ≤ 10000000000000) ∧ (0 ≤ pB t ∧ pB t ≤ 10000000000000) ∧ (0 ≤ pC t ∧ pC t ≤ 10000000000000) := by
  have h1 := h.2.1
  refine ⟨?_, ?_, ?_⟩
  · unfold pA; split <;> omega
  · unfold pB; split <;> omega
  · unfold pC
    split
    · omega
    · split
      · rename_i h4
        exact (rate_part h h4).2
      · omega
theorem sums_bounds : ∀ l : List S40, (∀ t ∈ l, gT t) → (0 ≤ sumF pA l ∧ sumF pA l ≤ 10000000000000 * l.length) ∧ (0 ≤ sumF pB l ∧ sumF pB l ≤ 10000000000000 * l.length) ∧ (0 ≤ sumF pC l ∧ sumF pC l ≤ 10000000000000 * l.length) := by
  intro l
  induction l with
  | nil => intro _; simp [sumF]
  | cons x l ih =>
    intro h
    have h1 := part_bounds (h x (by simp))
    have h2 := ih (fun y hy => h y (List.mem_cons_of_mem x hy))
    simp only [sumF, List.length_cons]
    omega
/-- The pay's mix. -/
def payV (t A B C : Int) : Int × Int × Int × Int × Int × Int × Int :=
  if t - min t A - B < 0 then (0, 0, 0, 0, 0, 0, 5) else (min t A, B, min (t - min t A - B) C, A - min t A, C - min (t - min t A - B) C, t - min t A - B - min (t - min t A - B) C, 0)
theorem mn_min (a b : Int) : mn a b = min a b := by unfold mn; split <;> omega
theorem implRate_ev (a b : Int) : impl_RateOK.f a b = some (decide ((0 ≤ a ∧ a ≤ 10000) ∧ (1 ≤ b ∧ b ≤ 10000))) := by
  unfold impl_RateOK.f
  rw [within_ev, within_ev]
  by_cases h1 : 0 ≤ a ∧ a ≤ 10000 <;> by_cases h2 : 1 ≤ b ∧ b ≤ 10000 <;> simp [h1, h2]
theorem specRate_ev (a b : Int) : spec_RateOK.f a b = some (decide ((0 ≤ a ∧ a ≤ 10000) ∧ (1 ≤ b ∧ b ≤ 10000))) := by
  unfold spec_RateOK.f
  rw [l01In_ev, l01In_ev]
  by_cases h1 : 0 ≤ a ∧ a ≤ 10000 <;> by_cases h2 : 1 ≤ b ∧ b ≤ 10000 <;> simp [h1, h2]
theorem gT_foreign {t : S40} (h1 : 1 ≤ t.f1 ∧ t.f1 ≤ 1000000000) (h4 : t.f0 = 4) : gT t ↔ ((0 ≤ t.f2.f0 ∧ t.f2.f0 ≤ 10000) ∧ (1 ≤ t.f2.f1 ∧ t.f2.f1 ≤ 10000)) :=
  ⟨fun h => h.2.2.1 h4, fun h => ⟨by omega, h1, fun _ => h, fun c => absurd h4 c⟩⟩
theorem gT_own {t : S40} (h1 : 1 ≤ t.f1 ∧ t.f1 ≤ 1000000000) (h4 : t.f0 ≠ 4) : gT t ↔ ((1 ≤ t.f0 ∧ t.f0 ≤ 3) ∧ t.f2.f0 = 0 ∧ t.f2.f1 = 0) :=
  ⟨fun h => ⟨by have := h.1; omega, h.2.2.2 h4⟩, fun h => ⟨by omega, h1, fun c => absurd c h4, fun _ => h.2⟩⟩
theorem implTender_ev (t : S40) : impl_isTender.f t.f0 t.f1 t.f2.f0 t.f2.f1 = some (decide (gT t)) := by
  unfold impl_isTender.f
  rw [within_ev, Option.bind_some]
  by_cases h1 : 1 ≤ t.f1 ∧ t.f1 ≤ 1000000000
  · rw [if_pos (decide_eq_true h1)]
    by_cases c : t.f0 = 4
    · rw [if_pos c, implRate_ev, Option.bind_some, decide_eq_decide.2 (gT_foreign h1 c)]
    · rw [if_neg c, within_ev, Option.bind_some, show decide (gT t) = decide ((1 ≤ t.f0 ∧ t.f0 ≤ 3) ∧ t.f2.f0 = 0 ∧ t.f2.f1 = 0) from decide_eq_decide.2 (gT_own h1 c)]
      by_cases h2 : 1 ≤ t.f0 ∧ t.f0 ≤ 3 <;> by_cases h3 : t.f2.f0 = 0 <;> by_cases h4 : t.f2.f1 = 0 <;> simp [h2, h3, h4]
  · rw [if_neg (by simp; omega), decide_eq_false (fun h => h1 h.2.1)]
theorem specTender_ev (t : S40) : spec_l09Tender.f t.f0 t.f1 t.f2.f0 t.f2.f1 = some (decide (gT t)) := by
  unfold spec_l09Tender.f
  rw [l01In_ev, Option.bind_some]
  by_cases h1 : 1 ≤ t.f1 ∧ t.f1 ≤ 1000000000
  · rw [if_pos (decide_eq_true h1)]
    by_cases c : t.f0 = 4
    · rw [if_pos c, specRate_ev, Option.bind_some, decide_eq_decide.2 (gT_foreign h1 c)]
    · rw [if_neg c, l01In_ev, Option.bind_some, show decide (gT t) = decide ((1 ≤ t.f0 ∧ t.f0 ≤ 3) ∧ t.f2.f0 = 0 ∧ t.f2.f1 = 0) from decide_eq_decide.2 (gT_own h1 c)]
      by_cases h2 : 1 ≤ t.f0 ∧ t.f0 ≤ 3 <;> by_cases h3 : t.f2.f0 = 0 <;> by_cases h4 : t.f2.f1 = 0 <;> simp [h2, h3, h4]
  · rw [if_neg (by simp; omega), decide_eq_false (fun h => h1 h.2.1)]
/-- All tenders are right. -/
def allB (l : List S40) : Bool := l.all fun t => decide (gT t)
theorem allB_mem {l : List S40} (h : allB l = true) : ∀ t ∈ l, gT t := by
  intro t ht
  unfold allB at h
  rw [List.all_eq_true] at h
  simpa using h t ht
theorem idx_l0 : ∀ (a p : List S40), (p ++ a).length < 1000000 → ∃ r : Int, Ev (fun k => impl_Tender_51.l0 k (p ++ a) ((p ++ a).length : Int) (p.length : Int)) r ∧ decide (r ≥ 0) = !allB a := by
  intro a
  induction a with
  | nil => intro p hl; exact ⟨-1, Ev.step (fun k => rfl) (Ev.neg (len_end p) (Ev.some' rfl)), rfl⟩
  | cons x a ih =>
    intro p hl
    have hl' := hl
    rw [List.length_append, List.length_cons] at hl'
    have e : impl_PayMix_1.f x.f0 x.f1 x.f2.f0 x.f2.f1 = some (!decide (gT x)) := by unfold impl_PayMix_1.f; rw [implTender_ev]; rfl
    by_cases c : gT x
    · obtain ⟨r, h1, h2⟩ := ih (p ++ [x]) (by rw [← snoc]; exact hl)
      refine ⟨r, Ev.step (fun k => rfl) (Ev.pos (len_lt p x a) (Ev.pos (by omega) (Ev.pos (len_lt p x a) ?_))), ?_⟩
      · rw [rdT_mid]
        refine Ev.ret e (Ev.neg (by rw [decide_eq_true c]; exact ff) ?_)
        rw [w64 (by omega) (by omega), ← len_snoc p x, snoc p x a]
        exact h1
      · rw [h2]; unfold allB; rw [List.all_cons, decide_eq_true c, Bool.true_and]
    · refine ⟨(p.length : Int), Ev.step (fun k => rfl) (Ev.pos (len_lt p x a) (Ev.pos (by omega) (Ev.pos (len_lt p x a) ?_))), ?_⟩
      · rw [rdT_mid]
        exact Ev.ret e (Ev.pos (by rw [decide_eq_false c]; rfl) (Ev.some' rfl))
      · unfold allB; rw [List.all_cons, decide_eq_false c, Bool.false_and]; simp
theorem has_ev (l : List S40) (hl : l.length < 1000000) : Ev (fun k => impl_Tender_38.f k l) (!allB l) := by
  obtain ⟨r, h1, h2⟩ := idx_l0 l [] hl
  rw [← h2]
  exact Ev.bind h1 (Ev.some' rfl)
theorem impl_l0 (t : Int) (ht : 0 ≤ t ∧ t ≤ 1000000000) : ∀ (a p : List S40) (A B C : Int), (p ++ a).length ≤ 20 → (∀ t ∈ a, gT t) → (0 ≤ A ∧ A ≤ 10000000000000 * p.length) → (0 ≤ B ∧ B ≤ 10000000000000 * p.length) → (0 ≤ C ∧ C ≤ 10000000000000 * p.length) →
    Ev (fun k => impl_PayMix.l0 k t A B C (p ++ a) ((p ++ a).length : Int) (p.length : Int)) (payV t (A + sumF pA a) (B + sumF pB a) (C + sumF pC a)) := by
  intro a
  induction a with
  | nil =>
    intro p A B C hl h hA hB hC
    rw [List.append_nil] at hl
    refine Ev.step (fun k => rfl) (Ev.neg (len_end p) ?_)
    simp only [sumF, Int.add_zero, mn_min]
    rw [w64 (x := t - min t A) (by omega) (by omega), w64 (x := t - min t A - B) (by omega) (by omega)]
    unfold payV
    by_cases c : t - min t A - B < 0
    · exact Ev.pos c (Ev.some' (by rw [if_pos c]))
    · refine Ev.neg c (Ev.some' ?_)
      rw [if_neg c, w64 (x := A - min t A) (by omega) (by omega), w64 (by omega) (by omega), w64 (by omega) (by omega)]
  | cons x a ih =>
    intro p A B C hl h hA hB hC
    have hl' := hl
    rw [List.length_append, List.length_cons] at hl'
    have hx := h x (by simp)
    have hb := part_bounds hx
    have hi := fun A' B' C' hA' hB' hC' => ih (p ++ [x]) A' B' C' (by rw [← snoc]; exact hl) (fun t ht => h t (by simp [ht])) hA' hB' hC'
    rw [len_snoc, ← snoc] at hi
    obtain ⟨h0, h1, h2, h3⟩ := hx
    refine Ev.step (fun k => rfl) (Ev.pos (len_lt p x a) (Ev.pos (by omega) (Ev.pos (len_lt p x a) ?_)))
    rw [rdT_mid, w64 (x := (p.length : Int) + 1) (by omega) (by omega)]
    simp only [sumF, ← Int.add_assoc]
    by_cases c1 : x.f0 = 1
    · have e1 : pA x = x.f1 := if_pos c1
      have e2 : pB x = 0 := if_neg (by omega)
      have e3 : pC x = 0 := by unfold pC; rw [if_neg (by omega), if_neg (by omega)]
      rw [e1, e2, e3, Int.add_zero, Int.add_zero]
      refine Ev.pos c1 ?_
      rw [w64 (x := A + x.f1) (by omega) (by omega)]
      exact hi _ _ _ (by omega) (by omega) (by omega)
    refine Ev.neg c1 ?_
    have e1 : pA x = 0 := if_neg c1
    by_cases c2 : x.f0 = 2
    · have e2 : pB x = x.f1 := if_pos c2
      have e3 : pC x = 0 := by unfold pC; rw [if_neg (by omega), if_neg (by omega)]
      rw [e1, e2, e3, Int.add_zero, Int.add_zero]
      refine Ev.pos c2 ?_
      rw [w64 (x := B + x.f1) (by omega) (by omega)]
      exact hi _ _ _ (by omega) (by omega) (by omega)
    refine Ev.neg c2 ?_
    have e2 : pB x = 0 := if_neg c2
    by_cases c3 : x.f0 = 3
    · have e3 : pC x = x.f1 := if_pos c3
      rw [e1, e2, e3, Int.add_zero, Int.add_zero]
      refine Ev.pos c3 ?_
      rw [w64 (x := C + x.f1) (by omega) (by omega)]
      exact hi _ _ _ (by omega) (by omega) (by omega)
    · have c4 : x.f0 = 4 := by omega
      have e3 : pC x = x.f1 * x.f2.f0 / x.f2.f1 := by unfold pC; rw [if_neg c3, if_pos c4]
      obtain ⟨r1, r2, r3⟩ := rate_part (h x (by simp)) c4
      have h2 := h2 c4
      rw [e1, e2, e3, Int.add_zero, Int.add_zero]
      refine Ev.neg c3 (Ev.neg (by omega) ?_)
      rw [w64 (x := x.f1 * x.f2.f0) (by omega) (by omega), Int.tdiv_eq_ediv_of_nonneg r1.1, w64 (x := x.f1 * x.f2.f0 / x.f2.f1) (by omega) (by omega), w64 (by omega) (by omega)]
      exact hi _ _ _ (by omega) (by omega) (by omega)
/-- What both answer. -/
def mixV (t : Int) (l : List S40) : Int × Int × Int × Int × Int × Int × Int :=
  if 4096 < l.length then (0, 0, 0, 0, 0, 0, 2) else if 20 < l.length then (0, 0, 0, 0, 0, 0, 9) else if (0 ≤ t ∧ t ≤ 1000000000) ∧ allB l = true then payV t (sumF pA l) (sumF pB l) (sumF pC l) else (0, 0, 0, 0, 0, 0, 1)
theorem implPay_ev (t : Int) (l : List S40) : Ev (fun k => impl_PayMix.f k t l) (mixV t l) := by
  unfold impl_PayMix.f impl_Tender_37.f mixV
  refine Ev.ret rfl ?_
  by_cases c1 : 4096 < l.length
  · rw [if_pos c1]
    exact Ev.neg (by simp; omega) (Ev.some' rfl)
  rw [if_neg c1]
  refine Ev.pos (by simp; omega) ?_
  by_cases c2 : 20 < l.length
  · rw [if_pos c2]
    exact Ev.pos (by omega) (Ev.some' rfl)
  rw [if_neg c2]
  refine Ev.neg (by omega) (Ev.ret (within_ev _ _ _) ?_)
  by_cases c3 : 0 ≤ t ∧ t ≤ 1000000000
  · refine Ev.pos (decide_eq_true c3) (Ev.bind (has_ev l (by omega)) ?_)
    cases c4 : allB l with
    | false =>
      rw [if_neg (fun h => ff h.2)]
      exact Ev.pos rfl (Ev.some' rfl)
    | true =>
      rw [if_pos ⟨c3, rfl⟩]
      refine Ev.neg ff (Ev.eq (impl_l0 t c3 l [] 0 0 0 (by simpa using c2) (allB_mem c4) (by simp) (by simp) (by simp)) ?_)
      simp only [Int.zero_add]
  · rw [if_neg (fun h => c3 h.1)]
    exact Ev.neg (by rw [decide_eq_false c3]; exact ff) (Ev.some' rfl)
theorem floor01_ev (a b : Int) (hb : 1 ≤ b) (ha : -4611686018427387904 ≤ a ∧ a ≤ 4611686018427387904) : spec_l01Floor.f a b = some (a / b) := by
  have h := floor_num a b hb ha
  unfold spec_l01Floor.f
  rw [if_neg (by omega)]
  by_cases c : Int.tmod a b < 0
  · rw [if_pos c] at h ⊢; rw [h]
  · rw [if_neg c] at h ⊢; rw [h]
theorem round_ev (a b : Int) (hb : 1 ≤ b) (ha : -4611686018427387904 ≤ a ∧ a ≤ 4611686018427387904) : Ev (fun k => spec_l01Round.f k a b 1) (a / b) := by
  unfold spec_l01Round.f
  refine Ev.ret (floor01_ev a b hb ha) ?_
  by_cases c : wrap64 (a - wrap64 (a / b * b)) = 0
  · exact Ev.pos c (Ev.via (Ev.some' rfl) (fun k => rfl))
  · exact Ev.neg c (Ev.via (Ev.some' rfl) (fun k => rfl))
theorem spec_l0 (t : Int) (ht : 0 ≤ t ∧ t ≤ 1000000000) : ∀ (a p : List S40) (A B C : Int), (p ++ a).length ≤ 20 → allB a = true → (0 ≤ A ∧ A ≤ 10000000000000 * p.length) → (0 ≤ B ∧ B ≤ 10000000000000 * p.length) → (0 ≤ C ∧ C ≤ 10000000000000 * p.length) →
    Ev (fun k => spec_PayMix.l0 k t (p ++ a) [0, A, B, C, 0] (p.length : Int)) (payV t (A + sumF pA a) (B + sumF pB a) (C + sumF pC a)) := by
  intro a
  induction a with
  | nil =>
    intro p A B C hl h hA hB hC
    rw [List.append_nil] at hl
    refine Ev.step (fun k => rfl) (Ev.neg (len_end p) (Ev.pos (show (1 : Int) < (([0, A, B, C, 0] : List Int).length : Int) by simp) (Ev.pos (show (2 : Int) < (([0, A, B, C, 0] : List Int).length : Int) by simp) ?_)))
    simp only [sumF, Int.add_zero, mn_min, show rd [0, A, B, C, 0] 1 = A from rfl, show rd [0, A, B, C, 0] 2 = B from rfl, show rd [0, A, B, C, 0] 3 = C from rfl]
    rw [Int.min_comm A t, w64 (x := t - min t A) (by omega) (by omega), w64 (x := t - min t A - B) (by omega) (by omega), Int.min_comm C]
    unfold payV
    by_cases c : t - min t A - B < 0
    · rw [if_pos c]; exact Ev.pos (by omega) (Ev.some' rfl)
    · rw [if_neg c]
      refine Ev.neg (by omega) (Ev.pos (show (3 : Int) < (([0, A, B, C, 0] : List Int).length : Int) by simp) (Ev.some' ?_))
      rw [w64 (x := A - min t A) (by omega) (by omega), w64 (by omega) (by omega), w64 (by omega) (by omega)]
  | cons x a ih =>
    intro p A B C hl h hA hB hC
    have hl' := hl
    rw [List.length_append, List.length_cons] at hl'
    have hm := allB_mem h
    have hx := hm x (by simp)
    have hb := part_bounds hx
    have h2' : allB a = true := by unfold allB at h ⊢; rw [List.all_cons, Bool.and_eq_true] at h; exact h.2
    have hi := fun A' B' C' hA' hB' hC' => ih (p ++ [x]) A' B' C' (by rw [← snoc]; exact hl) h2' hA' hB' hC'
    rw [len_snoc, ← snoc] at hi
    refine Ev.step (fun k => rfl) (Ev.pos (len_lt p x a) (Ev.pos (by omega) ?_))
    rw [rdT_mid, w64 (x := (p.length : Int) + 1) (by omega) (by omega)]
    refine Ev.ret (specTender_ev x) (Ev.pos (decide_eq_true hx) ?_)
    obtain ⟨h0, h1, h2, h3⟩ := hx
    simp only [sumF, ← Int.add_assoc]
    by_cases c4 : x.f0 = 4
    · have e1 : pA x = 0 := if_neg (by omega)
      have e2 : pB x = 0 := if_neg (by omega)
      have e3 : pC x = x.f1 * x.f2.f0 / x.f2.f1 := by unfold pC; rw [if_neg (by omega), if_pos c4]
      obtain ⟨r1, r2, r3⟩ := rate_part (hm x (by simp)) c4
      have h2 := h2 c4
      rw [e1, e2, e3, Int.add_zero, Int.add_zero]
      refine Ev.pos c4 (Ev.pos (show (3 : Int) < (([0, A, B, C, 0] : List Int).length : Int) by simp) ?_)
      rw [w64 (x := x.f1 * x.f2.f0) (by omega) (by omega)]
      refine Ev.bind (round_ev _ _ (by omega) (by omega)) ?_
      rw [show rd [0, A, B, C, 0] 3 = C from rfl, w64 (by omega) (by omega)]
      exact hi A B _ (by omega) (by omega) (by omega)
    · refine Ev.neg c4 (Ev.pos (by omega) (Ev.pos (by simp; omega) ?_))
      have hc : x.f0 = 1 ∨ x.f0 = 2 ∨ x.f0 = 3 := by omega
      rcases hc with c | c | c
      · have e1 : pA x = x.f1 := if_pos c
        have e2 : pB x = 0 := if_neg (by omega)
        have e3 : pC x = 0 := by unfold pC; rw [if_neg (by omega), if_neg (by omega)]
        rw [e1, e2, e3, Int.add_zero, Int.add_zero, c, show rd [0, A, B, C, 0] 1 = A from rfl, w64 (by omega) (by omega)]
        exact hi _ B C (by omega) (by omega) (by omega)
      · have e1 : pA x = 0 := if_neg (by omega)
        have e2 : pB x = x.f1 := if_pos c
        have e3 : pC x = 0 := by unfold pC; rw [if_neg (by omega), if_neg (by omega)]
        rw [e1, e2, e3, Int.add_zero, Int.add_zero, c, show rd [0, A, B, C, 0] 2 = B from rfl, w64 (by omega) (by omega)]
        exact hi A _ C (by omega) (by omega) (by omega)
      · have e1 : pA x = 0 := if_neg (by omega)
        have e2 : pB x = 0 := if_neg (by omega)
        have e3 : pC x = x.f1 := if_pos c
        rw [e1, e2, e3, Int.add_zero, Int.add_zero, c, show rd [0, A, B, C, 0] 3 = C from rfl, w64 (by omega) (by omega)]
        exact hi A B _ (by omega) (by omega) (by omega)
theorem spec_bad (t : Int) : ∀ (a p : List S40) (A B C : Int), (p ++ a).length ≤ 20 → allB a = false → (0 ≤ A ∧ A ≤ 10000000000000 * p.length) → (0 ≤ B ∧ B ≤ 10000000000000 * p.length) → (0 ≤ C ∧ C ≤ 10000000000000 * p.length) →
    Ev (fun k => spec_PayMix.l0 k t (p ++ a) [0, A, B, C, 0] (p.length : Int)) (0, 0, 0, 0, 0, 0, 1) := by
  intro a
  induction a with
  | nil => intro p A B C hl h; exact absurd h (by simp [allB])
  | cons x a ih =>
    intro p A B C hl h hA hB hC
    have hl' := hl
    rw [List.length_append, List.length_cons] at hl'
    refine Ev.step (fun k => rfl) (Ev.pos (len_lt p x a) (Ev.pos (by omega) ?_))
    rw [rdT_mid, w64 (x := (p.length : Int) + 1) (by omega) (by omega)]
    refine Ev.ret (specTender_ev x) ?_
    by_cases hx : gT x
    · have h2' : allB a = false := by unfold allB at h ⊢; rw [List.all_cons, decide_eq_true hx, Bool.true_and] at h; exact h
      have hb := part_bounds hx
      have hi := fun A' B' C' hA' hB' hC' => ih (p ++ [x]) A' B' C' (by rw [← snoc]; exact hl) h2' hA' hB' hC'
      rw [len_snoc, ← snoc] at hi
      have hg := hx
      obtain ⟨h0, h1, h2, h3⟩ := hx
      refine Ev.pos (decide_eq_true hg) ?_
      by_cases c4 : x.f0 = 4
      · obtain ⟨r1, r2, r3⟩ := rate_part hg c4
        have h2 := h2 c4
        refine Ev.pos c4 (Ev.pos (show (3 : Int) < (([0, A, B, C, 0] : List Int).length : Int) by simp) ?_)
        rw [w64 (x := x.f1 * x.f2.f0) (by omega) (by omega)]
        refine Ev.bind (round_ev _ _ (by omega) (by omega)) ?_
        rw [show rd [0, A, B, C, 0] 3 = C from rfl, w64 (by omega) (by omega)]
        exact hi A B _ (by omega) (by omega) (by omega)
      · refine Ev.neg c4 (Ev.pos (by omega) (Ev.pos (by simp; omega) ?_))
        have hc : x.f0 = 1 ∨ x.f0 = 2 ∨ x.f0 = 3 := by omega
        rcases hc with c | c | c
        · rw [c, show rd [0, A, B, C, 0] 1 = A from rfl, w64 (by omega) (by omega)]
          exact hi _ B C (by omega) (by omega) (by omega)
        · rw [c, show rd [0, A, B, C, 0] 2 = B from rfl, w64 (by omega) (by omega)]
          exact hi A _ C (by omega) (by omega) (by omega)
        · rw [c, show rd [0, A, B, C, 0] 3 = C from rfl, w64 (by omega) (by omega)]
          exact hi A B _ (by omega) (by omega) (by omega)
    · exact Ev.neg (by rw [decide_eq_false hx]; exact ff) (Ev.some' rfl)
theorem specPay_ev (t : Int) (l : List S40) : Ev (fun k => spec_PayMix.f k t l) (mixV t l) := by
  unfold spec_PayMix.f mixV
  have h5 : (5 : Nat) ≤ 35184372088832 := by decide
  by_cases c1 : 4096 < l.length
  · rw [if_pos c1]
    exact Ev.pos (by omega) (Ev.some' rfl)
  rw [if_neg c1]
  refine Ev.neg (by omega) ?_
  by_cases c2 : 20 < l.length
  · rw [if_pos c2]
    exact Ev.pos (by omega) (Ev.some' rfl)
  rw [if_neg c2]
  refine Ev.neg (by omega) (Ev.ret (l01In_ev _ _ _) ?_)
  by_cases c3 : 0 ≤ t ∧ t ≤ 1000000000
  · refine Ev.pos (decide_eq_true c3) (Ev.pos h5 ?_)
    cases c4 : allB l with
    | false =>
      rw [if_neg (fun h => ff h.2)]
      exact spec_bad t l [] 0 0 0 (by simpa using c2) c4 (by simp) (by simp) (by simp)
    | true =>
      rw [if_pos ⟨c3, rfl⟩]
      refine Ev.eq (spec_l0 t c3 l [] 0 0 0 (by simpa using c2) c4 (by simp) (by simp) (by simp)) ?_
      simp only [Int.zero_add]
  · rw [if_neg (fun h => c3 h.1)]
    exact Ev.neg (by rw [decide_eq_false c3]; exact ff) (Ev.some' rfl)
/-! ### the law's own -/
theorem rdl_mid (p : List S77) (x : S77) (r : List S77) : rd_T77 (p ++ x :: r) (p.length : Int) = x := getD_mid p x r z77
def toTenderV (x : S77) : S40 := ⟨x.f0, x.f1, ⟨x.f2.f0, x.f2.f1⟩⟩
theorem toTenderS_l0 : ∀ (a p : List S77) (t : List S40), t.length = a.length → (p ++ a).length < 4611686018427387904 →
    Ev (fun k => laws_toTenderS.l0 k (p ++ a) (p.map toTenderV ++ t) (p.length : Int)) ((p ++ a).map toTenderV) := by
  intro a
  induction a with
  | nil =>
    intro p t ht hl
    obtain rfl : t = [] := List.eq_nil_of_length_eq_zero ht
    exact Ev.step (fun k => rfl) (Ev.neg (len_end p) (Ev.some' (by simp)))
  | cons x a ih =>
    intro p t ht hl
    match t, ht with
    | y :: t, ht =>
      have hl' : (p ++ x :: a).length < 4611686018427387904 := hl
      rw [List.length_append, List.length_cons] at hl'
      have ht1 : laws_toTender.f x.f0 x.f1 x.f2.f0 x.f2.f1 = some (x.f0, x.f1, x.f2.f0, x.f2.f1) := rfl
      refine Ev.step (fun k => rfl) (Ev.pos (len_lt p x a) (Ev.pos (by omega) ?_))
      rw [rdl_mid]
      refine Ev.ret ht1 (Ev.pos (by simp; omega) ?_)
      have hs : (p.map toTenderV ++ y :: t).set (p.length : Int).toNat ⟨x.f0, x.f1, ⟨x.f2.f0, x.f2.f1⟩⟩ = p.map toTenderV ++ toTenderV x :: t := by
        rw [show (p.length : Int) = ((p.map toTenderV).length : Int) by simp]
        exact set_mid _ _ _ _
      rw [hs, w64 (by omega) (by omega), ← len_snoc p x, snoc p x a, snoc _ (toTenderV x) t]
      rw [show p.map toTenderV ++ [toTenderV x] = (p ++ [x]).map toTenderV by simp]
      exact ih (p ++ [x]) t (by simpa using ht) (by rw [← snoc]; exact hl)
theorem toTenderS_ev (a : List S77) (hl : a.length ≤ 1048576) : Ev (fun k => laws_toTenderS.f k a) (a.map toTenderV) := by
  unfold laws_toTenderS.f
  refine Ev.pos (by omega) (Ev.pos (by omega) ?_)
  rw [Int.toNat_natCast]
  exact toTenderS_l0 a [] (List.replicate a.length z40) (by simp) (by simp; omega)
theorem eqTenderS_l0 : ∀ (a p : List S40), (p ++ a).length < 4611686018427387904 →
    Ev (fun k => laws_eqTenderS.l0 k (p ++ a) (p ++ a) (p.length : Int)) true := by
  intro a
  induction a with
  | nil => intro p hl; exact Ev.step (fun k => rfl) (Ev.neg (len_end p) (Ev.some' rfl))
  | cons x a ih =>
    intro p hl
    have hl' : (p ++ x :: a).length < 4611686018427387904 := hl
    rw [List.length_append, List.length_cons] at hl'
    have e : laws_eqTender.f x.f0 x.f1 x.f2.f0 x.f2.f1 x.f0 x.f1 x.f2.f0 x.f2.f1 = some true := by unfold laws_eqTender.f laws_eqRate.f; simp
    refine Ev.step (fun k => rfl) (Ev.pos (len_lt p x a) (Ev.pos (by omega) (Ev.pos (len_lt p x a) ?_)))
    rw [rdT_mid]
    refine Ev.ret e (Ev.pos (by first | rfl | trivial) ?_)
    rw [w64 (by omega) (by omega), ← len_snoc p x, snoc p x a]
    exact ih (p ++ [x]) (by rw [← snoc]; exact hl)
theorem eqTenderS_ev (a : List S40) (hl : a.length < 4611686018427387904) : Ev (fun k => laws_eqTenderS.f k a a) true := by
  unfold laws_eqTenderS.f
  exact Ev.pos (by first | rfl | trivial) (eqTenderS_l0 a [] hl)
theorem FnExactPayMix : laws_FnExactPayMix.Pure := by
  intro t l _ hl
  refine Ev.rounds (?_ : Ev (fun k => laws_FnExactPayMix.f k t l) true)
  unfold laws_FnExactPayMix.f laws_szTenderS.f
  rw [w64 (by omega) (by omega)]
  by_cases h : (1048576 : Int) - (l.length : Int) < 0
  · rw [if_pos h]
    exact Ev.ret rfl (Ev.pos (by omega) (Ev.some' rfl))
  rw [if_neg h]
  refine Ev.ret rfl (Ev.neg h ?_)
  have tR := toTenderS_ev l (by omega)
  have sp := specPay_ev t (l.map toTenderV)
  have im := implPay_ev t (l.map toTenderV)
  have eT := eqTenderS_ev (l.map toTenderV) (by simp; omega)
  generalize mixV t (l.map toTenderV) = v at sp im
  obtain ⟨a, b, c, d, e, f, g⟩ := v
  have eP : laws_eqPaid.f a b c d e f a b c d e f = some true := by unfold laws_eqPaid.f; simp
  refine Ev.bind tR (Ev.bind sp (Ev.bind tR (Ev.bind im (Ev.ret eP (Ev.pos (by first | rfl | trivial) ?_)))))
  rw [show (g != g) = false by simp]
  exact Ev.via (Ev.bind tR (Ev.bind eT (Ev.pos (by first | rfl | trivial) (Ev.some' rfl)))) (fun k => rfl)

end Go.Proofs.Ythlphmnplfnmnaa.Pure
