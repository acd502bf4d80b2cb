/- The program's Change and the reference's answer alike for all amounts and coins, and what they answer is the caller's own: the law's plain statement, with no condition. -/
import Derived.Test.YthlphmnplfnmnaaXFnExactChangex9
import Derived.Test.YthlphmnplfnmnaaAx
import Derived.Test.YthlphmnplfnmnaaIdx
namespace Go.Proofs.Ythlphmnplfnmnaa.Pure
open Go.RowKit Go.Proofs.Ythlphmnplfnmnaa.XFnExactChange Go.Proofs.YthlphmnplfnmnaaW.PrintWords Go.Proofs.YthlphmnplfnmnaaW.PrintLast
open Go.Proofs.YthlphmnplfnmnaaW.Ax Go.Proofs.YthlphmnplfnmnaaW.Idx
set_option linter.unusedVariables false
set_option linter.unusedSimpArgs false
theorem within_ev (a b c : Int) : impl_within.f a b c = some (decide (b ≤ a ∧ a ≤ c)) := by
  unfold impl_within.f
  by_cases h : a ≥ b
  · rw [if_pos h]; congr 1; rw [decide_eq_decide]; omega
  · rw [if_neg h]; congr 1; symm; rw [decide_eq_false_iff_not]; omega
theorem l01In_ev (a b c : Int) : spec_l01In.f a b c = some (decide (b ≤ a ∧ a ≤ c)) := by
  unfold spec_l01In.f
  by_cases h : a ≥ b
  · rw [if_pos h]; congr 1; rw [decide_eq_decide]; omega
  · rw [if_neg h]; congr 1; symm; rw [decide_eq_false_iff_not]; omega
theorem rd_Coins_mid (p : List S60) (x : S60) (r : List S60) : rd_T60 (p ++ x :: r) (p.length : Int) = x := getD_mid p x r z60
theorem rd_Coins_nat (l : List S60) (i : Nat) : rd_T60 l (i : Int) = l.getD i z60 := by
  unfold rd_T60
  rw [Int.toNat_natCast]
/-- Coins in their bounds, their values rising. -/
def heldP : Option S60 → List S60 → Bool
  | _, [] => true
  | o, x :: a => (decide (1 ≤ x.f0 ∧ x.f0 ≤ 100000) && decide (0 ≤ x.f1 ∧ x.f1 ≤ 60)) && ((match o with | none => true | some y => decide (y.f0 < x.f0)) && heldP (some x) a)
def heldB (l : List S60) : Bool := heldP none l && decide (l.length ≤ 12)
theorem rdc_prev (q : List S60) (y : S60) (r : List S60) : rd_T60 ((q ++ [y]) ++ r) (((q ++ [y]).length : Int) - 1) = y := by
  rw [len_snoc, show (q.length : Int) + 1 - 1 = (q.length : Int) by omega, ← snoc]
  exact rd_Coins_mid q y r
theorem specHeld_l0 : ∀ (a p : List S60), (p ++ a).length < 4611686018427387904 →
    Ev (fun k => spec_HeldOK.l0 k (p ++ a) (p.length : Int)) (heldP p.getLast? a) := by
  intro a
  induction a with
  | nil => intro p hl; exact Ev.step (fun k => rfl) (Ev.neg (len_end p) (Ev.some' rfl))
  | cons x a ih =>
    intro p hl
    have hl' := hl
    rw [List.length_append, List.length_cons] at hl'
    have hnext := ih (p ++ [x]) (by rw [← snoc]; exact hl)
    rw [← snoc, len_snoc, List.getLast?_concat] at hnext
    refine Ev.step (fun k => rfl) (Ev.pos (len_lt p x a) (Ev.pos (by omega) (Ev.ret (l01In_ev _ _ _) ?_)))
    rw [rd_Coins_mid p x a]
    by_cases h1 : 1 ≤ x.f0 ∧ x.f0 ≤ 100000
    · refine Ev.pos (by simpa using h1) (Ev.ret (l01In_ev _ _ _) ?_)
      by_cases h2 : 0 ≤ x.f1 ∧ x.f1 ≤ 60
      · refine Ev.pos (by simpa using h2) ?_
        rcases List.eq_nil_or_concat p with rfl | ⟨q, y, rfl⟩
        · refine Ev.neg (by simp) ?_
          rw [w64 (by simp) (by simp)]
          refine Ev.eq hnext ?_
          simp [heldP, h1, h2]
        · rw [List.concat_eq_append] at *
          have hlen : ((q ++ [y]).length : Int) = (q.length : Int) + 1 := len_snoc q y
          refine Ev.pos (by omega) ?_
          rw [w64 (x := ((q ++ [y]).length : Int) - 1) (by omega) (by omega), rdc_prev]
          refine Ev.pos (by omega) (Ev.pos (by simp only [List.length_append, List.length_cons, List.length_nil]; omega) ?_)
          by_cases hyx : x.f0 ≤ y.f0
          · refine Ev.pos hyx (Ev.some' ?_)
            simp [heldP, show ¬ y.f0 < x.f0 by omega]
          · refine Ev.neg hyx ?_
            rw [w64 (by omega) (by omega)]
            refine Ev.eq hnext ?_
            simp [heldP, h1, h2, show y.f0 < x.f0 by omega]
      · refine Ev.neg (by simpa using h2) (Ev.some' ?_)
        simp [heldP, h2]
    · refine Ev.neg (by simpa using h1) (Ev.some' ?_)
      simp [heldP, h1]
theorem implHeld_l0 : ∀ (a p : List S60), (p ++ a).length < 4611686018427387904 →
    Ev (fun k => impl_HeldOK.l0 k (p ++ a) (p ++ a) ((p ++ a).length : Int) (p.length : Int)) (heldP p.getLast? a && decide ((p ++ a).length ≤ 12)) := by
  intro a
  induction a with
  | nil =>
    intro p hl
    refine Ev.step (fun k => rfl) (Ev.neg (len_end p) (Ev.some' ?_))
    rw [heldP, Bool.true_and, decide_eq_decide]
    omega
  | cons x a ih =>
    intro p hl
    have hl' := hl
    rw [List.length_append, List.length_cons] at hl'
    have hnext := ih (p ++ [x]) (by rw [← snoc]; exact hl)
    rw [← snoc, len_snoc, List.getLast?_concat] at hnext
    refine Ev.step (fun k => rfl) (Ev.pos (len_lt p x a) (Ev.pos (by omega) (Ev.pos (len_lt p x a) (Ev.ret (within_ev _ _ _) ?_))))
    rw [rd_Coins_mid p x a]
    by_cases h1 : 1 ≤ x.f0 ∧ x.f0 ≤ 100000
    · refine Ev.pos (by simpa using h1) (Ev.ret (within_ev _ _ _) ?_)
      by_cases h2 : 0 ≤ x.f1 ∧ x.f1 ≤ 60
      · refine Ev.pos (by simpa using h2) ?_
        rcases List.eq_nil_or_concat p with rfl | ⟨q, y, rfl⟩
        · refine Ev.neg (by simp) ?_
          rw [w64 (by simp) (by simp)]
          refine Ev.eq hnext ?_
          simp [heldP, h1, h2]
        · rw [List.concat_eq_append] at *
          have hlen : ((q ++ [y]).length : Int) = (q.length : Int) + 1 := len_snoc q y
          refine Ev.pos (by omega) ?_
          rw [w64 (x := ((q ++ [y]).length : Int) - 1) (by omega) (by omega), rdc_prev]
          refine Ev.pos (by omega) (Ev.pos (by simp only [List.length_append, List.length_cons, List.length_nil]; omega) ?_)
          by_cases hyx : y.f0 ≥ x.f0
          · refine Ev.pos hyx (Ev.some' ?_)
            simp [heldP, show ¬ y.f0 < x.f0 by omega]
          · refine Ev.neg hyx ?_
            rw [w64 (by omega) (by omega)]
            refine Ev.eq hnext ?_
            simp [heldP, h1, h2, show y.f0 < x.f0 by omega]
      · refine Ev.neg (by simpa using h2) (Ev.some' ?_)
        simp [heldP, h2]
    · refine Ev.neg (by simpa using h1) (Ev.some' ?_)
      simp [heldP, h1]
theorem specHeld_ev (l : List S60) (hl : l.length < 4611686018427387904) : Ev (fun k => spec_HeldOK.f k l) (heldB l) := by
  unfold spec_HeldOK.f heldB
  by_cases c : l.length ≤ 12
  · exact Ev.neg (by omega) (Ev.eq (specHeld_l0 l [] hl) (by simp [c]))
  · exact Ev.pos (by omega) (Ev.some' (by simp [c]))
theorem implHeld_ev (l : List S60) (hl : l.length < 4611686018427387904) : Ev (fun k => impl_HeldOK.f k l) (heldB l) := by
  unfold impl_HeldOK.f heldB
  exact implHeld_l0 l [] hl
theorem heldP_all : ∀ (l : List S60) (o : Option S60), heldP o l = true → ∀ c ∈ l, (1 ≤ c.f0 ∧ c.f0 ≤ 100000) ∧ 0 ≤ c.f1 ∧ c.f1 ≤ 60 := by
  intro l
  induction l with
  | nil => intro o _ c hc; cases hc
  | cons x l ih =>
    intro o h c hc
    rw [heldP.eq_def] at h
    simp only [Bool.and_eq_true] at h
    rcases List.mem_cons.1 hc with rfl | hc
    · exact ⟨of_decide_eq_true h.1.1, of_decide_eq_true h.1.2⟩
    · exact ih _ h.2.2 c hc
theorem rdc_nat (l : List S60) (i : Nat) : rd_T60 l (i : Int) = l.getD i z60 := by
  unfold rd_T60
  rw [Int.toNat_natCast]
theorem rdl_nat (l : List (List Int)) (i : Nat) : rd_L3 l (i : Int) = l.getD i [] := by
  unfold rd_L3
  rw [Int.toNat_natCast]
/-! ### the two tables -/
theorem itab_at : ∀ (l : List S60) (row : List Int) (k : Nat), k ≤ l.length → (impl_fewest.tab row l).getD k [] = impl_fewest.cur row (l.take k) := by
  intro l
  induction l with
  | nil => intro row k h; obtain rfl : k = 0 := by simpa using h
           rfl
  | cons c l ih =>
    intro row k h
    cases k with
    | zero => rfl
    | succ k => rw [impl_fewest.tab, List.getD_cons_succ, ih _ k (by simpa using h), List.take_succ_cons]; rfl
theorem stab_at : ∀ (l : List S60) (row : List Int) (k : Nat), k ≤ l.length → (spec_l09Fewest.tab row l).getD k [] = spec_l09Fewest.cur row (l.take k) := by
  intro l
  induction l with
  | nil => intro row k h; obtain rfl : k = 0 := by simpa using h
           rfl
  | cons c l ih =>
    intro row k h
    cases k with
    | zero => rfl
    | succ k => rw [spec_l09Fewest.tab, List.getD_cons_succ, ih _ k (by simpa using h), List.take_succ_cons]; rfl
theorem icur_snoc (l : List S60) (row : List Int) (c : S60) : impl_fewest.cur row (l ++ [c]) = impl_fewest.nxt (impl_fewest.cur row l) c := by unfold impl_fewest.cur; rw [List.foldl_append]; rfl
theorem take_at (l : List S60) (k : Nat) (h : k < l.length) : l.take (k + 1) = l.take k ++ [l.getD k z60] := by
  rw [List.take_succ_eq_append_getElem h, List.getD_eq_getElem?_getD, List.getElem?_eq_getElem h]
  rfl
theorem inxt_at (row : List Int) (c : S60) (a : Nat) (h : a < row.length) : rd (impl_fewest.nxt row c) (a : Int) = impl_fewest.fin row c a := by
  rw [rd_nat]
  unfold impl_fewest.nxt
  rw [List.getD_eq_getElem?_getD, List.getElem?_map, List.getElem?_range h]
  rfl
theorem snxt_at (row : List Int) (c : S60) (a : Nat) (h : a < row.length) : rd (spec_l09Fewest.nxt row c) (a : Int) = spec_l09Fewest.fin row c a := by
  rw [rd_nat]
  unfold spec_l09Fewest.nxt
  rw [List.getD_eq_getElem?_getD, List.getElem?_map, List.getElem?_range h]
  rfl
/-- The two rows tell the same. -/
def relR (k : Nat) (ri rs : List Int) : Prop := ri.length = rs.length ∧ ∀ a : Nat, a < ri.length → (rd rs a = -1 ∧ rd ri a = 721) ∨ (0 ≤ rd rs a ∧ rd rs a = rd ri a ∧ rd ri a ≤ 60 * (k : Int))
theorem up_rel {k : Nat} {ri rs : List Int} (h : relR k ri rs) (hk : k ≤ 11) {v : Int} (hv : 1 ≤ v) {a : Nat} (ha : a < ri.length) : ∀ n : Nat, (n : Int) * v ≤ a → n ≤ 60 →
    (spec_l09Fewest.up rs v a (n + 1) = -1 ∧ impl_fewest.up ri v a n = 721) ∨ (0 ≤ spec_l09Fewest.up rs v a (n + 1) ∧ spec_l09Fewest.up rs v a (n + 1) = impl_fewest.up ri v a n ∧ impl_fewest.up ri v a n ≤ 60 * (k : Int) + n) := by
  intro n
  induction n with
  | zero =>
    intro _ _
    rw [spec_l09Fewest.up, impl_fewest.up, spec_l09Fewest.up]
    have e : (a : Int) - ((0 : Nat) : Int) * v = (a : Int) := by simp
    rw [e]
    rcases h.2 a ha with ⟨h1, h2⟩ | ⟨h1, h2, h3⟩
    · exact .inl ⟨if_neg (by omega), h2⟩
    · rw [if_pos ⟨h1, .inl (by decide)⟩]
      exact .inr ⟨by omega, by omega, by omega⟩
  | succ n ih =>
    intro hn h60
    have hnv : (n : Int) * v ≤ ((n + 1 : Nat) : Int) * v := Int.mul_le_mul_of_nonneg_right (by omega) (by omega)
    have ih := ih (Int.le_trans hnv hn) (by omega)
    have hp0 : 0 ≤ ((n + 1 : Nat) : Int) * v := Int.mul_nonneg (by omega) (by omega)
    rw [spec_l09Fewest.up, impl_fewest.up]
    obtain ⟨j, hj⟩ : ∃ j : Nat, (a : Int) - ((n + 1 : Nat) : Int) * v = (j : Int) := ⟨((a : Int) - ((n + 1 : Nat) : Int) * v).toNat, by omega⟩
    rw [hj]
    have hr := h.2 j (by omega)
    generalize spec_l09Fewest.up rs v a (n + 1) = s at ih ⊢
    generalize impl_fewest.up ri v a n = t at ih ⊢
    unfold mn
    rcases hr with ⟨h1, h2⟩ | ⟨h1, h2, h3⟩
    · rw [if_neg (by omega), if_neg (by omega)]
      rcases ih with ih | ih
      · exact .inl ih
      · exact .inr ⟨ih.1, ih.2.1, by omega⟩
    · rcases ih with ih | ih
      · rw [if_pos ⟨h1, .inl (by omega)⟩, if_pos (by omega)]
        exact .inr ⟨by omega, by omega, by omega⟩
      · by_cases c : rd ri (j : Int) + ((n + 1 : Nat) : Int) < t
        · rw [if_pos ⟨h1, .inr (by omega)⟩, if_pos (by omega)]
          exact .inr ⟨by omega, by omega, by omega⟩
        · rw [if_neg (by omega), if_neg (by omega)]
          exact .inr ⟨ih.1, ih.2.1, by omega⟩
theorem nxt_rel {k : Nat} {ri rs : List Int} (h : relR k ri rs) (hk : k ≤ 11) {c : S60} (hc : (1 ≤ c.f0 ∧ c.f0 ≤ 100000) ∧ 0 ≤ c.f1 ∧ c.f1 ≤ 60) : relR (k + 1) (impl_fewest.nxt ri c) (spec_l09Fewest.nxt rs c) := by
  refine ⟨by rw [impl_fewest.nxt_len, spec_l09Fewest.nxt_len]; exact h.1, fun a ha => ?_⟩
  rw [impl_fewest.nxt_len] at ha
  rw [inxt_at _ _ _ ha, snxt_at _ _ _ (by rw [← h.1]; exact ha)]
  unfold impl_fewest.fin spec_l09Fewest.fin
  have h1 := (impl_fewest.cnt (a := a) (n := Nat.min c.f1.toNat (a / c.f0.toNat)) hc.1.1 hc.2.1).1 (Nat.le_refl _)
  rcases up_rel h hk hc.1.1 ha _ h1.2 (by omega) with h2 | h2
  · exact .inl h2
  · exact .inr ⟨h2.1, h2.2.1, by omega⟩
theorem first_rel (n : Nat) : relR 0 (impl_fewest.first (n : Int)) (spec_l09Fewest.first (n : Int)) := by
  refine ⟨by simp [impl_fewest.first, spec_l09Fewest.first, spec_l09Fewest.begun], fun a ha => ?_⟩
  have hl : a < n + 1 := by simpa [impl_fewest.first] using ha
  rw [rd_nat, rd_nat]
  unfold spec_l09Fewest.first spec_l09Fewest.begun impl_fewest.first
  rw [Int.toNat_natCast, List.getD_eq_getElem?_getD, List.getElem?_map, List.getElem?_range hl]
  cases a with
  | zero => exact .inr ⟨by simp, by simp, by simp⟩
  | succ a =>
    refine .inl ⟨by simp; omega, ?_⟩
    rw [List.getD_cons_succ, List.getD_eq_getElem?_getD, List.getElem?_replicate, if_pos (by omega)]
    rfl
theorem cur_rel (l : List S60) (n : Nat) (hl : l.length ≤ 12) (hc : ∀ c ∈ l, (1 ≤ c.f0 ∧ c.f0 ≤ 100000) ∧ 0 ≤ c.f1 ∧ c.f1 ≤ 60) : ∀ k, k ≤ l.length → relR k (impl_fewest.cur (impl_fewest.first (n : Int)) (l.take k)) (spec_l09Fewest.cur (spec_l09Fewest.first (n : Int)) (l.take k)) := by
  intro k
  induction k with
  | zero => intro _; exact first_rel n
  | succ k ih =>
    intro h
    rw [take_at l k (by omega), icur_snoc, spec_l09Fewest.cur_snoc]
    refine nxt_rel (ih (by omega)) (by omega) (hc _ ?_)
    rw [List.getD_eq_getElem?_getD, List.getElem?_eq_getElem (show k < l.length by omega)]
    exact List.getElem_mem _
/-! ### the coins that are taken -/
theorem up_hit (row : List Int) (v : Int) (a : Nat) : ∀ n : Nat, ∃ m, m ≤ n ∧ (m : Int) + rd row ((a : Int) - (m : Int) * v) = impl_fewest.up row v a n := by
  intro n
  induction n with
  | zero => exact ⟨0, Nat.le_refl _, by rw [impl_fewest.up]; simp⟩
  | succ n ih =>
    obtain ⟨m, h1, h2⟩ := ih
    rw [impl_fewest.up]
    unfold mn
    split
    · exact ⟨n + 1, Nat.le_refl _, rfl⟩
    · exact ⟨m, by omega, h2⟩
theorem pick_spec (row rowN : List Int) (v due : Int) : ∀ n : Nat, (∃ m : Nat, m ≤ n ∧ (m : Int) + rd row (due - (m : Int) * v) = rd rowN due) →
    ∃ N, impl_Change.pick row rowN v due n = some N ∧ N ≤ n ∧ (N : Int) + rd row (due - (N : Int) * v) = rd rowN due ∧ ∀ m : Nat, N < m → m ≤ n → ¬ (m : Int) + rd row (due - (m : Int) * v) = rd rowN due := by
  intro n
  induction n with
  | zero =>
    rintro ⟨m, h1, h2⟩
    obtain rfl : m = 0 := by omega
    refine ⟨0, ?_, Nat.le_refl _, h2, fun m h3 h4 => by omega⟩
    rw [impl_Change.pick, if_pos (by simpa using h2)]
  | succ n ih =>
    rintro ⟨m, h1, h2⟩
    by_cases c : ((n + 1 : Nat) : Int) + rd row (due - ((n + 1 : Nat) : Int) * v) = rd rowN due
    · exact ⟨n + 1, by rw [impl_Change.pick, if_pos c], Nat.le_refl _, c, fun m h3 h4 => by omega⟩
    · have : m ≠ n + 1 := by rintro rfl; exact c h2
      obtain ⟨N, g1, g2, g3, g4⟩ := ih ⟨m, by omega, h2⟩
      refine ⟨N, by rw [impl_Change.pick, if_neg c]; exact g1, by omega, g3, fun m h3 h4 => ?_⟩
      by_cases e : m = n + 1
      · rw [e]; exact c
      · exact g4 m h3 (by omega)
abbrev iT (l : List S60) (n : Nat) : List (List Int) := impl_fewest.tab (impl_fewest.first (n : Int)) l
abbrev sT (l : List S60) (n : Nat) : List (List Int) := spec_l09Fewest.tab (spec_l09Fewest.first (n : Int)) l
theorem mem_at (l : List S60) (hc : ∀ c ∈ l, (1 ≤ c.f0 ∧ c.f0 ≤ 100000) ∧ 0 ≤ c.f1 ∧ c.f1 ≤ 60) (k : Nat) (hk : k < l.length) : (1 ≤ (l.getD k z60).f0 ∧ (l.getD k z60).f0 ≤ 100000) ∧ 0 ≤ (l.getD k z60).f1 ∧ (l.getD k z60).f1 ≤ 60 := by
  refine hc _ ?_
  rw [List.getD_eq_getElem?_getD, List.getElem?_eq_getElem hk]
  exact List.getElem_mem _
theorem top_eq (c : S60) (hcc : (1 ≤ c.f0 ∧ c.f0 ≤ 100000) ∧ 0 ≤ c.f1 ∧ c.f1 ≤ 60) (due : Nat) (m : Nat) : m ≤ impl_Change.top c (due : Int) ↔ (m : Int) ≤ c.f1 ∧ (m : Int) * c.f0 ≤ due := by
  unfold impl_Change.top
  have h : (m : Int) * c.f0 ≤ due ↔ (m : Int) ≤ (due : Int) / c.f0 := (Int.le_ediv_iff_mul_le (by omega)).symm
  have h0 : 0 ≤ (due : Int) / c.f0 := Int.ediv_nonneg (by omega) (by omega)
  rw [h]
  split <;> omega
section
variable (l : List S60) (n : Nat) (hl : l.length ≤ 12) (hc : ∀ c ∈ l, (1 ≤ c.f0 ∧ c.f0 ≤ 100000) ∧ 0 ≤ c.f1 ∧ c.f1 ≤ 60)
include hl hc
theorem tab_rel (k : Nat) (hk : k ≤ l.length) : relR k ((iT l n).getD k []) ((sT l n).getD k []) := by
  rw [itab_at _ _ _ hk, stab_at _ _ _ hk]
  exact cur_rel l n hl hc k hk
theorem tab_lens (k : Nat) (hk : k ≤ l.length) : ((iT l n).getD k []).length = n + 1 ∧ ((sT l n).getD k []).length = n + 1 := by
  have h := (tab_rel l n hl hc k hk).1
  have h2 : ((iT l n).getD k []).length = n + 1 := by rw [itab_at _ _ _ hk, impl_fewest.cur_len]; simp [impl_fewest.first]
  exact ⟨h2, by omega⟩
/-- Where an amount can be made, some coins of the last kind are taken, and what is left can be made of the others. -/
theorem step_ok (k : Nat) (hk : k < l.length) (due : Nat) (hd : due ≤ n) (h : rd ((iT l n).getD (k + 1) []) (due : Int) < 721) :
    ∃ N : Nat, impl_Change.pick ((iT l n).getD k []) ((iT l n).getD (k + 1) []) (l.getD k z60).f0 (due : Int) (impl_Change.top (l.getD k z60) (due : Int)) = some N ∧ (N : Int) ≤ (l.getD k z60).f1 ∧ (N : Int) * (l.getD k z60).f0 ≤ due ∧
      (N : Int) + rd ((iT l n).getD k []) ((due : Int) - (N : Int) * (l.getD k z60).f0) = rd ((iT l n).getD (k + 1) []) (due : Int) ∧
      ∀ m : Nat, N < m → m ≤ impl_Change.top (l.getD k z60) (due : Int) → ¬ (m : Int) + rd ((iT l n).getD k []) ((due : Int) - (m : Int) * (l.getD k z60).f0) = rd ((iT l n).getD (k + 1) []) (due : Int) := by
  have hcc := mem_at l hc k hk
  have hlen := tab_lens l n hl hc k (by omega)
  have he : rd ((iT l n).getD (k + 1) []) (due : Int) = impl_fewest.up ((iT l n).getD k []) (l.getD k z60).f0 due (Nat.min (l.getD k z60).f1.toNat (due / (l.getD k z60).f0.toNat)) := by
    rw [itab_at _ _ _ (by omega), take_at l k hk, icur_snoc, itab_at _ _ _ (by omega)] at *
    rw [inxt_at _ _ _ (by rw [hlen.1]; omega)]
    rfl
  obtain ⟨m, hm1, hm2⟩ := up_hit ((iT l n).getD k []) (l.getD k z60).f0 due (Nat.min (l.getD k z60).f1.toNat (due / (l.getD k z60).f0.toNat))
  have hmt := (impl_fewest.cnt hcc.1.1 hcc.2.1).1 hm1
  obtain ⟨N, h1, h2, h3, h4⟩ := pick_spec ((iT l n).getD k []) ((iT l n).getD (k + 1) []) (l.getD k z60).f0 (due : Int) _ ⟨m, (top_eq _ hcc due m).2 hmt, by rw [he]; exact hm2⟩
  have h5 := (top_eq _ hcc due N).1 h2
  exact ⟨N, h1, h5.1, h5.2, h3, h4⟩
/-- The coins of each kind. -/
theorem walk_ok (hn : n ≤ 10000) : ∀ (k : Nat) (due : Nat) (out : List Int), k ≤ l.length → due ≤ n → rd ((iT l n).getD k []) (due : Int) < 721 → out.length = l.length →
    ∃ o, impl_Change.walk (iT l n) l k (due : Int) out = some o ∧ o.length = l.length ∧ Ev (fun q => spec_Change.l0 q l (sT l n) out (due : Int) ((k : Int) - 1)) (o, 0) := by
  intro k
  induction k with
  | zero =>
    intro due out _ _ _ ho
    exact ⟨out, rfl, ho, Ev.via (Ev.some' rfl) (fun q => rfl)⟩
  | succ k ih =>
    intro due out hk hd h ho
    obtain ⟨N, h1, h2, h3, h4, h5⟩ := step_ok l n hl hc k (by omega) due hd h
    have hcc := mem_at l hc k (by omega)
    have hla := tab_lens l n hl hc k (by omega)
    have hlb := tab_lens l n hl hc (k + 1) hk
    have hra := tab_rel l n hl hc k (by omega)
    have hrb := tab_rel l n hl hc (k + 1) hk
    have htl : (sT l n).length = l.length + 1 := spec_l09Fewest.tab_len _ _
    obtain ⟨p, hp⟩ : ∃ p : Int, (N : Int) * (l.getD k z60).f0 = p := ⟨_, rfl⟩
    have hp0 : 0 ≤ p := by rw [← hp]; exact Int.mul_nonneg (by omega) (by omega)
    obtain ⟨j, hj⟩ : ∃ j : Nat, (due : Int) - p = (j : Int) := ⟨((due : Int) - p).toNat, by omega⟩
    rw [hp, hj] at h4
    rw [hp] at h3
    obtain ⟨o, g1, g2, g3⟩ := ih j (out.set k (N : Int)) (by omega) (by omega) (by omega) (by rw [List.length_set]; exact ho)
    refine ⟨o, ?_, g2, ?_⟩
    · rw [impl_Change.walk, rdc_nat, h1, Option.bind_some, hp, hj]
      exact g1
    · have e1 : (((k + 1 : Nat) : Int) - 1) = (k : Int) := by omega
      rw [e1]
      have hdb := hrb.2 due (by omega)
      have hlast : ∀ d : Nat, ∀ c : Nat, c = N + d → (c : Int) ≤ (l.getD k z60).f1 → Ev (fun q => spec_Change.l1 q l (sT l n) out (due : Int) (k : Int) (c : Int)) (o, 0) := by
        intro d
        induction d with
        | zero =>
          intro c hcN hcf
          rw [Nat.add_zero] at hcN
          subst hcN
          refine Ev.step (fun q => rfl) (Ev.pos (by omega) (Ev.pos (by omega) (Ev.pos (by omega) ?_)))
          rw [rdc_nat, rdl_nat, w64 (x := (k : Int) + 1) (by omega) (by omega), show ((k : Int) + 1) = ((k + 1 : Nat) : Int) by omega, rdl_nat, hp, w64 (x := p) (by omega) (by omega), w64 (x := (due : Int) - p) (by omega) (by omega), hj]
          have hja := hra.2 j (by omega)
          have hrj : rd ((sT l n).getD k []) (j : Int) = rd ((iT l n).getD k []) (j : Int) ∧ 0 ≤ rd ((sT l n).getD k []) (j : Int) := by
            rcases hja with g | g
            · omega
            · exact ⟨g.2.1, g.1⟩
          have hrd : rd ((sT l n).getD (k + 1) []) (due : Int) = rd ((iT l n).getD (k + 1) []) (due : Int) := by
            rcases hdb with g | g
            · omega
            · exact g.2.1
          refine Ev.pos (by omega) (Ev.pos (by omega) (Ev.pos (by omega) (Ev.pos (by rw [hla.2]; omega) (Ev.pos (by omega) (Ev.pos (by omega) (Ev.pos (by omega) (Ev.pos (by omega) (Ev.pos (by rw [hlb.2]; omega) (Ev.pos ?_ (Ev.pos (by omega) ?_))))))))))
          · rw [hrj.1, hrd, w64 (by omega) (by omega)]
            omega
          · rw [w64 (x := (k : Int) - 1) (by omega) (by omega), Int.toNat_natCast]
            exact g3
        | succ d ihd =>
          intro c hcN hcf
          have hgo := ihd (N + d) rfl (by omega)
          have e2 : wrap64 ((c : Int) - 1) = ((N + d : Nat) : Int) := by rw [w64 (by omega) (by omega)]; omega
          obtain ⟨s, hs⟩ : ∃ s : Int, (c : Int) * (l.getD k z60).f0 = s := ⟨_, rfl⟩
          have hs0 : 0 ≤ s := by rw [← hs]; exact Int.mul_nonneg (by omega) (by omega)
          have hs1 : s ≤ 60 * 100000 := by rw [← hs]; exact Int.mul_le_mul (by omega) (by omega) (by omega) (by omega)
          refine Ev.step (fun q => rfl) (Ev.pos (by omega) (Ev.pos (by omega) (Ev.pos (by omega) ?_)))
          rw [rdc_nat, rdl_nat, w64 (x := (k : Int) + 1) (by omega) (by omega), show ((k : Int) + 1) = ((k + 1 : Nat) : Int) by omega, rdl_nat, hs, w64 (x := s) (by omega) (by omega), w64 (x := (due : Int) - s) (by omega) (by omega), e2]
          by_cases c1 : (due : Int) - s ≥ 0
          · obtain ⟨i, hi⟩ : ∃ i : Nat, (due : Int) - s = (i : Int) := ⟨((due : Int) - s).toNat, by omega⟩
            rw [hi]
            have hia := hra.2 i (by omega)
            refine Ev.pos (by omega) (Ev.pos (by omega) (Ev.pos (by omega) (Ev.pos (by rw [hla.2]; omega) ?_)))
            by_cases c2 : rd ((sT l n).getD k []) (i : Int) ≥ 0
            · refine Ev.pos c2 (Ev.pos (by omega) (Ev.pos (by omega) (Ev.pos (by omega) (Ev.pos (by rw [hlb.2]; omega) (Ev.neg ?_ hgo)))))
              have hne := h5 c (by omega) ((top_eq _ hcc due c).2 ⟨hcf, by omega⟩)
              rw [hs, hi] at hne
              have hrd : rd ((sT l n).getD (k + 1) []) (due : Int) = rd ((iT l n).getD (k + 1) []) (due : Int) := by
                rcases hdb with g | g
                · omega
                · exact g.2.1
              have hrj : rd ((sT l n).getD k []) (i : Int) = rd ((iT l n).getD k []) (i : Int) ∧ rd ((iT l n).getD k []) (i : Int) ≤ 721 := by
                rcases hia with g | g
                · omega
                · exact ⟨g.2.1, by omega⟩
              rw [hrj.1, hrd, w64 (by omega) (by omega)]
              omega
            · exact Ev.neg c2 hgo
          · exact Ev.neg c1 hgo
      refine Ev.step (fun q => rfl) (Ev.pos (by omega) ?_)
      rw [rdc_nat]
      obtain ⟨f, hf⟩ := Int.eq_ofNat_of_zero_le hcc.2.1
      rw [hf]
      exact hlast (f - N) f (by omega) (by omega)
end
/-- What both answer. -/
theorem change_both (a : Int) (l : List S60) (hl : l.length < 4611686018427387904) : ∃ o c, o.length ≤ 12 ∧ Ev (fun k => impl_Change.f k a l) (o, c) ∧ Ev (fun k => spec_Change.f k a l) (o, c) := by
  unfold impl_Change.f spec_Change.f
  by_cases c1 : (l.length : Int) ≤ 4096
  case neg => exact ⟨[], 2, by simp, Ev.neg c1 (Ev.some' rfl), Ev.pos (by omega) (Ev.some' rfl)⟩
  have im := implHeld_ev l hl
  have sp := specHeld_ev l hl
  cases hh : heldB l with
  | false =>
    rw [hh] at im sp
    exact ⟨[], 1, by simp, Ev.pos c1 (Ev.bind im (Ev.neg ff (Ev.some' rfl))), Ev.neg (by omega) (Ev.bind sp (Ev.neg ff (Ev.some' rfl)))⟩
  | true =>
    rw [hh] at im sp
    unfold heldB at hh
    rw [Bool.and_eq_true] at hh
    have hc := heldP_all l none hh.1
    have hl12 : l.length ≤ 12 := of_decide_eq_true hh.2
    by_cases c2 : 0 ≤ a ∧ a ≤ 10000
    case neg =>
      exact ⟨[], 5, by simp, Ev.pos c1 (Ev.bind im (Ev.pos rfl (Ev.neg c2 (Ev.some' rfl)))), Ev.neg (by omega) (Ev.bind sp (Ev.pos rfl (Ev.ret (l01In_ev _ _ _) (Ev.neg (by simpa using c2) (Ev.some' rfl)))))⟩
    obtain ⟨n, rfl⟩ := Int.eq_ofNat_of_zero_le c2.1
    have hn : n ≤ 10000 := by omega
    have hg : ∀ c ∈ l, 1 ≤ c.f0 ∧ c.f0 ≤ 100000 ∧ 0 ≤ c.f1 ∧ c.f1 ≤ 60 := fun c h => ⟨(hc c h).1.1, (hc c h).1.2, (hc c h).2⟩
    have ti : impl_fewest.f (n : Int) l = some (iT l n) := by unfold impl_fewest.f; rw [if_pos ⟨c2.1, c2.2, hl12, hg⟩]
    have ts : spec_l09Fewest.f (n : Int) l = some (sT l n) := by unfold spec_l09Fewest.f; rw [if_pos ⟨c2.1, c2.2, hl12, hg⟩]
    have hlen := tab_lens l n hl12 hc l.length (Nat.le_refl _)
    have hrel := (tab_rel l n hl12 hc l.length (Nat.le_refl _)).2 n (by omega)
    have htl : (sT l n).length = l.length + 1 := spec_l09Fewest.tab_len _ _
    by_cases c3 : rd ((iT l n).getD l.length []) (n : Int) ≥ 721
    · refine ⟨[], 8, by simp, Ev.pos c1 (Ev.bind im (Ev.pos rfl (Ev.pos c2 (Ev.ret ti (Ev.pos c3 (Ev.some' rfl)))))), Ev.neg (by omega) (Ev.bind sp (Ev.pos rfl (Ev.ret (l01In_ev _ _ _) (Ev.pos (by simpa using c2) (Ev.ret ts ?_)))))⟩
      rw [rdl_nat]
      exact Ev.pos (by omega) (Ev.pos (by omega) (Ev.pos (by omega) (Ev.pos (by rw [hlen.2]; omega) (Ev.pos (by omega) (Ev.some' rfl)))))
    · obtain ⟨o, g1, g2, g3⟩ := walk_ok l n hl12 hc hn l.length n (List.replicate l.length 0) (Nat.le_refl _) (Nat.le_refl _) (by omega) (by simp)
      refine ⟨o, 0, by omega, Ev.pos c1 (Ev.bind im (Ev.pos rfl (Ev.pos c2 (Ev.ret ti (Ev.neg c3 (Ev.ret g1 (Ev.some' rfl))))))), Ev.neg (by omega) (Ev.bind sp (Ev.pos rfl (Ev.ret (l01In_ev _ _ _) (Ev.pos (by simpa using c2) (Ev.ret ts ?_)))))⟩
      rw [rdl_nat]
      refine Ev.pos (by omega) (Ev.pos (by omega) (Ev.pos (by omega) (Ev.pos (by rw [hlen.2]; omega) (Ev.neg (by omega) (Ev.pos (by omega) ?_)))))
      rw [Int.toNat_natCast, w64 (by omega) (by omega)]
      exact g3
theorem rdl_Coins_mid (p : List S65) (x : S65) (r : List S65) : rd_T65 (p ++ x :: r) (p.length : Int) = x := getD_mid p x r z65
def toCoinsV (x : S65) : S60 := ⟨x.f0, x.f1⟩
theorem toCoins_ev (x : S65) : laws_toCoins.f x.f0 x.f1 = some (x.f0, x.f1) := rfl
theorem toCoinsS_l0 : ∀ (a p : List S65) (t : List S60), t.length = a.length → (p ++ a).length < 4611686018427387904 →
    Ev (fun k => laws_toCoinsS.l0 k (p ++ a) (p.map toCoinsV ++ t) (p.length : Int)) ((p ++ a).map toCoinsV) := by
  intro a
  induction a with
  | nil =>
    intro p t ht hl
    obtain rfl : t = [] := List.eq_nil_of_length_eq_zero ht
    exact Ev.step (fun k => rfl) (Ev.neg (len_end p) (Ev.some' (by simp)))
  | cons x a ih =>
    intro p t ht hl
    match t, ht with
    | y :: t, ht =>
      have hl' : (p ++ x :: a).length < 4611686018427387904 := hl
      rw [List.length_append, List.length_cons] at hl'
      refine Ev.step (fun k => rfl) (Ev.pos (len_lt p x a) (Ev.pos (by omega) ?_))
      rw [rdl_Coins_mid]
      refine Ev.ret (toCoins_ev x) (Ev.pos (by simp; omega) ?_)
      have hs : (p.map toCoinsV ++ y :: t).set (p.length : Int).toNat ⟨x.f0, x.f1⟩ = p.map toCoinsV ++ toCoinsV x :: t := by
        rw [show (p.length : Int) = ((p.map toCoinsV).length : Int) by simp]
        exact set_mid _ _ _ _
      rw [hs, w64 (by omega) (by omega), ← len_snoc p x, snoc p x a, snoc _ (toCoinsV x) t]
      rw [show p.map toCoinsV ++ [toCoinsV x] = (p ++ [x]).map toCoinsV by simp]
      exact ih (p ++ [x]) t (by simpa using ht) (by rw [← snoc]; exact hl)
theorem toCoinsS_ev (a : List S65) (hl : a.length ≤ 1048576) : Ev (fun k => laws_toCoinsS.f k a) (a.map toCoinsV) := by
  unfold laws_toCoinsS.f
  refine Ev.pos (by omega) (Ev.pos (by omega) ?_)
  rw [Int.toNat_natCast]
  exact toCoinsS_l0 a [] (List.replicate a.length z60) (by simp) (by simp; omega)
theorem eqCoins_ev (x : S60) : laws_eqCoins.f x.f0 x.f1 x.f0 x.f1 = some true := by
  unfold laws_eqCoins.f
  simp
theorem eqCoinsS_l0 : ∀ (a p : List S60), (p ++ a).length < 4611686018427387904 →
    Ev (fun k => laws_eqCoinsS.l0 k (p ++ a) (p ++ a) (p.length : Int)) true := by
  intro a
  induction a with
  | nil =>
    intro p hl
    exact Ev.step (fun k => rfl) (Ev.neg (len_end p) (Ev.some' rfl))
  | cons x a ih =>
    intro p hl
    have hl' : (p ++ x :: a).length < 4611686018427387904 := hl
    rw [List.length_append, List.length_cons] at hl'
    refine Ev.step (fun k => rfl) (Ev.pos (len_lt p x a) (Ev.pos (by omega) (Ev.pos (len_lt p x a) ?_)))
    rw [rd_Coins_mid]
    refine Ev.ret (eqCoins_ev x) (Ev.pos (by rfl) ?_)
    rw [w64 (by omega) (by omega), ← len_snoc p x, snoc p x a]
    exact ih (p ++ [x]) (by rw [← snoc]; exact hl)
theorem eqCoinsS_ev (a : List S60) (hl : a.length < 4611686018427387904) : Ev (fun k => laws_eqCoinsS.f k a a) true := by
  unfold laws_eqCoinsS.f
  exact Ev.pos (by rfl) (eqCoinsS_l0 a [] hl)
theorem szCoinsS_ev (l : List S65) (hl : l.length ≤ 9223372036854775807) : ∃ t, laws_szCoinsS.f l 1048576 = some t ∧ (t < 0 ∨ (¬ t < 0 ∧ l.length ≤ 1048576)) := by
  unfold laws_szCoinsS.f
  rw [w64 (by omega) (by omega)]
  by_cases h : (1048576 : Int) - (l.length : Int) < 0
  · rw [if_pos h]; exact ⟨_, rfl, .inl (by omega)⟩
  · rw [if_neg h]; exact ⟨_, rfl, .inr ⟨by omega, by omega⟩⟩
/-- Marks: numbers rising by 1, field by field. -/
def markCoinsV (c : Int) : Nat → List S60
  | 0 => []
  | m + 1 => ⟨c, c + 1⟩ :: markCoinsV (c + 2) m
theorem markCoinsV_length (c : Int) (m : Nat) : (markCoinsV c m).length = m := by
  induction m generalizing c with
  | zero => rfl
  | succ m ih => simp [markCoinsV, ih]
theorem markCoinsS_l0 : ∀ (a p : List S60) (c : Int), (p ++ a).length < 4611686018427387904 → 0 ≤ c → c + 2 * a.length < 4611686018427387904 →
    Ev (fun k => laws_markCoinsS.l0 k (p ++ a) c (p.length : Int)) (c + 2 * a.length, p ++ markCoinsV c a.length) := by
  intro a
  induction a with
  | nil =>
    intro p c hl h0 hc
    exact Ev.step (fun k => rfl) (Ev.neg (len_end p) (Ev.some' (by simp [markCoinsV])))
  | cons x a ih =>
    intro p c hl h0 hc
    have hl' : (p ++ x :: a).length < 4611686018427387904 := hl
    rw [List.length_append, List.length_cons] at hl'
    rw [List.length_cons] at hc
    refine Ev.step (fun k => rfl) (Ev.pos (len_lt p x a) (Ev.pos (by omega) ?_))
    refine Ev.ret rfl ?_
    simp only [rd_Coins_mid, set_mid]
    rw [w64 (x := c + 1) (by omega) (by omega), w64 (x := c + 1 + 1) (by omega) (by omega), w64 (x := (p.length : Int) + 1) (by omega) (by omega)]
    rw [show c + 1 + 1 = c + 2 by omega, ← len_snoc p (⟨c, c + 1⟩ : S60), snoc p _ a]
    refine Ev.eq (ih (p ++ [⟨c, c + 1⟩]) (c + 2) (by simp; omega) (by omega) (by omega)) ?_
    rw [← snoc, List.length_cons, markCoinsV]
    congr 1
    omega
theorem markCoinsS_ev (a : List S60) (c : Int) (hl : a.length < 4611686018427387904) (h0 : 0 ≤ c) (hc : c + 2 * a.length < 4611686018427387904) : Ev (fun k => laws_markCoinsS.f k a c) (c + 2 * a.length, markCoinsV c a.length) := by
  unfold laws_markCoinsS.f
  exact markCoinsS_l0 a [] c hl h0 hc
theorem eqIntS_l0 : ∀ (a b p q : List Int), p.length = q.length → a.length = b.length → (p ++ a).length < 4611686018427387904 →
    Ev (fun k => laws_eqIntS.l0 k (p ++ a) (q ++ b) (p.length : Int)) (decide (a = b)) := by
  intro a
  induction a with
  | nil =>
    intro b p q hpq hab hl
    obtain rfl : b = [] := List.eq_nil_of_length_eq_zero hab.symm
    refine Ev.step (fun k => rfl) (Ev.neg (len_end p) (Ev.some' rfl))
  | cons x a ih =>
    intro b p q hpq hab hl
    match b, hab with
    | y :: b, hab =>
      have hq : ((p.length : Int)) < ((q ++ y :: b).length : Int) := by rw [hpq]; exact len_lt q y b
      have hl' : (p ++ x :: a).length < 4611686018427387904 := hl
      rw [List.length_append, List.length_cons] at hl'
      refine Ev.step (fun k => rfl) (Ev.pos (len_lt p x a) (Ev.pos (by omega) (Ev.pos hq ?_)))
      rw [rd_mid p x a, hpq, rd_mid q y b, ← hpq]
      by_cases e : x = y
      · subst e
        refine Ev.pos (by rfl) ?_
        rw [w64 (by omega) (by omega), ← len_snoc p x, snoc p, snoc q]
        exact Ev.eq (ih b (p ++ [x]) (q ++ [x]) (by simp [hpq]) (by simpa using hab) (by rw [← snoc]; exact hl)) (by simp)
      · exact Ev.neg e (Ev.some' (by simp [e]))
theorem eqIntS_ev (a b : List Int) (hl : a.length < 4611686018427387904) : Ev (fun k => laws_eqIntS.f k a b) (decide (a = b)) := by
  unfold laws_eqIntS.f
  by_cases h : (a.length : Int) = (b.length : Int)
  · exact Ev.pos h (eqIntS_l0 a b [] [] rfl (by omega) hl)
  · refine Ev.neg h (Ev.some' ?_)
    symm
    rw [decide_eq_false_iff_not]
    rintro rfl
    exact h rfl
theorem markIntS_l0 : ∀ (a p : List Int) (c : Int), (p ++ a).length < 4611686018427387904 → 0 ≤ c → c + a.length < 4611686018427387904 →
    Ev (fun k => laws_markIntS.l0 k (p ++ a) c (p.length : Int)) (c + a.length, p ++ iota c a.length) := by
  intro a
  induction a with
  | nil =>
    intro p c hl h0 hc
    exact Ev.step (fun k => rfl) (Ev.neg (len_end p) (Ev.some' (by simp [iota])))
  | cons x a ih =>
    intro p c hl h0 hc
    have hl' : (p ++ x :: a).length < 4611686018427387904 := hl
    rw [List.length_append, List.length_cons] at hl'
    rw [List.length_cons] at hc
    refine Ev.step (fun k => rfl) (Ev.pos (len_lt p x a) (Ev.pos (by omega) ?_))
    rw [set_mid, w64 (by omega) (by omega), w64 (by omega) (by omega), ← len_snoc p c, snoc p c a]
    refine Ev.eq (ih (p ++ [c]) (c + 1) (by simp; omega) (by omega) (by omega)) ?_
    rw [← snoc, List.length_cons, iota]
    congr 1
    omega
theorem markIntS_ev (a : List Int) (c : Int) (hl : a.length < 4611686018427387904) (h0 : 0 ≤ c) (hc : c + a.length < 4611686018427387904) : Ev (fun k => laws_markIntS.f k a c) (c + a.length, iota c a.length) := by
  unfold laws_markIntS.f
  exact markIntS_l0 a [] c hl h0 hc
theorem heldIntS_l0 : ∀ (n : Nat) (p : List Int) (c : Int), (p.length + n) < 4611686018427387904 → 0 ≤ c → c + n < 4611686018427387904 →
    Ev (fun k => laws_heldIntS.l0 k (p ++ iota c n) c (p.length : Int)) (c + n) := by
  intro n
  induction n with
  | zero =>
    intro p c hl h0 hc
    exact Ev.step (fun k => rfl) (Ev.neg (len_end p) (Ev.some' (by simp)))
  | succ n ih =>
    intro p c hl h0 hc
    rw [iota]
    refine Ev.step (fun k => rfl) (Ev.pos (len_lt p c _) (Ev.pos (by omega) (Ev.pos (rd_mid p c _) ?_)))
    rw [w64 (by omega) (by omega), w64 (by omega) (by omega), ← len_snoc p c, snoc p c]
    exact Ev.eq (ih (p ++ [c]) (c + 1) (by simp; omega) (by omega) (by omega)) (by omega)
theorem heldIntS_ev (n : Nat) (c : Int) (h0 : 0 ≤ c) (hc : c + n < 4611686018427387904) : Ev (fun k => laws_heldIntS.f k (iota c n) c) (c + n) := by
  unfold laws_heldIntS.f
  exact heldIntS_l0 n [] c (by simp; omega) h0 hc

theorem FnExactChange : laws_FnExactChange.Pure := by
  intro a l _ h
  refine Ev.rounds (?_ : Ev (fun k => laws_FnExactChange.f k a l) true)
  unfold laws_FnExactChange.f
  obtain ⟨t, ht, c⟩ := szCoinsS_ev l h.1
  refine Ev.ret ht ?_
  rcases c with c | ⟨c, hl⟩
  · exact Ev.pos c (Ev.some' rfl)
  refine Ev.neg c ?_
  have tb := toCoinsS_ev l hl
  generalize hL : l.map toCoinsV = L at tb
  have hlen : L.length = l.length := by rw [← hL]; simp
  obtain ⟨o, c0, ho, im, sp⟩ := change_both a L (by omega)
  have eL := eqCoinsS_ev L (by omega)
  have mL := markCoinsS_ev L 1 (by omega) (by omega) (by omega)
  have eq := eqIntS_ev o o (by omega)
  have mo := markIntS_ev o 1 (by omega) (by omega) (by omega)
  have he := heldIntS_ev o.length 1 (by omega) (by omega)
  repeat' (first
    | exact Ev.some' rfl
    | with_reducible assumption
    | (with_reducible refine Ev.bind (by with_reducible assumption) ?_)
    | (with_reducible refine Ev.ret (by with_reducible assumption) ?_)
    | (refine Ev.pos (by first | with_reducible rfl | with_reducible assumption | omega | (simp; done) | (simp; omega)) ?_)
    | (refine Ev.neg (by first | with_reducible assumption | omega | (simp; done) | (simp; omega)) ?_)
    | (refine Ev.up1 ?_; simp only [laws_FnExactChange.j0, laws_FnExactChange.j1, laws_FnExactChange.j2]))

end Go.Proofs.Ythlphmnplfnmnaa.Pure
