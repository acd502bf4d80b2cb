/- Of drawn coins the program makes what some of them come to, of coins that are held and with no more of them, and answers as the reference at a drawn amount: the law's plain statement, with no condition. -/
import Derived.Test.YthlphmnplfnmnaaXFnChangex9
import Derived.Test.YthlphmnplfnmnaaAx
import Derived.Test.YthlphmnplfnmnaaIdx
namespace Go.Proofs.Ythlphmnplfnmnaa.Pure
open Go.RowKit Go.Proofs.Ythlphmnplfnmnaa.XFnChange Go.Proofs.YthlphmnplfnmnaaW.PrintWords Go.Proofs.YthlphmnplfnmnaaW.PrintLast
open Go.Proofs.YthlphmnplfnmnaaW.Ax Go.Proofs.YthlphmnplfnmnaaW.Idx
set_option linter.unusedVariables false
set_option linter.unusedSimpArgs false
theorem within_ev (a b c : Int) : impl_within.f a b c = some (decide (b ≤ a ∧ a ≤ c)) := by
  unfold impl_within.f
  by_cases h : a ≥ b
  · rw [if_pos h]; congr 1; rw [decide_eq_decide]; omega
  · rw [if_neg h]; congr 1; symm; rw [decide_eq_false_iff_not]; omega
theorem l01In_ev (a b c : Int) : spec_l01In.f a b c = some (decide (b ≤ a ∧ a ≤ c)) := by
  unfold spec_l01In.f
  by_cases h : a ≥ b
  · rw [if_pos h]; congr 1; rw [decide_eq_decide]; omega
  · rw [if_neg h]; congr 1; symm; rw [decide_eq_false_iff_not]; omega
theorem rd_Coins_mid (p : List S60) (x : S60) (r : List S60) : rd_T60 (p ++ x :: r) (p.length : Int) = x := getD_mid p x r z60
theorem rd_Coins_nat (l : List S60) (i : Nat) : rd_T60 l (i : Int) = l.getD i z60 := by
  unfold rd_T60
  rw [Int.toNat_natCast]
/-- Coins in their bounds, their values rising. -/
def heldP : Option S60 → List S60 → Bool
  | _, [] => true
  | o, x :: a => (decide (1 ≤ x.f0 ∧ x.f0 ≤ 100000) && decide (0 ≤ x.f1 ∧ x.f1 ≤ 60)) && ((match o with | none => true | some y => decide (y.f0 < x.f0)) && heldP (some x) a)
def heldB (l : List S60) : Bool := heldP none l && decide (l.length ≤ 12)
theorem rdc_prev (q : List S60) (y : S60) (r : List S60) : rd_T60 ((q ++ [y]) ++ r) (((q ++ [y]).length : Int) - 1) = y := by
  rw [len_snoc, show (q.length : Int) + 1 - 1 = (q.length : Int) by omega, ← snoc]
  exact rd_Coins_mid q y r
theorem specHeld_l0 : ∀ (a p : List S60), (p ++ a).length < 4611686018427387904 →
    Ev (fun k => spec_HeldOK.l0 k (p ++ a) (p.length : Int)) (heldP p.getLast? a) := by
  intro a
  induction a with
  | nil => intro p hl; exact Ev.step (fun k => rfl) (Ev.neg (len_end p) (Ev.some' rfl))
  | cons x a ih =>
    intro p hl
    have hl' := hl
    rw [List.length_append, List.length_cons] at hl'
    have hnext := ih (p ++ [x]) (by rw [← snoc]; exact hl)
    rw [← snoc, len_snoc, List.getLast?_concat] at hnext
    refine Ev.step (fun k => rfl) (Ev.pos (len_lt p x a) (Ev.pos (by omega) (Ev.ret (l01In_ev _ _ _) ?_)))
    rw [rd_Coins_mid p x a]
    by_cases h1 : 1 ≤ x.f0 ∧ x.f0 ≤ 100000
    · refine Ev.pos (by simpa using h1) (Ev.ret (l01In_ev _ _ _) ?_)
      by_cases h2 : 0 ≤ x.f1 ∧ x.f1 ≤ 60
      · refine Ev.pos (by simpa using h2) ?_
        rcases List.eq_nil_or_concat p with rfl | ⟨q, y, rfl⟩
        · refine Ev.neg (by simp) ?_
          rw [w64 (by simp) (by simp)]
          refine Ev.eq hnext ?_
          simp [heldP, h1, h2]
        · rw [List.concat_eq_append] at *
          have hlen : ((q ++ [y]).length : Int) = (q.length : Int) + 1 := len_snoc q y
          refine Ev.pos (by omega) ?_
          rw [w64 (x := ((q ++ [y]).length : Int) - 1) (by omega) (by omega), rdc_prev]
          refine Ev.pos (by omega) (Ev.pos (by simp only [List.length_append, List.length_cons, List.length_nil]; omega) ?_)
          by_cases hyx : x.f0 ≤ y.f0
          · refine Ev.pos hyx (Ev.some' ?_)
            simp [heldP, show ¬ y.f0 < x.f0 by omega]
          · refine Ev.neg hyx ?_
            rw [w64 (by omega) (by omega)]
            refine Ev.eq hnext ?_
            simp [heldP, h1, h2, show y.f0 < x.f0 by omega]
      · refine Ev.neg (by simpa using h2) (Ev.some' ?_)
        simp [heldP, h2]
    · refine Ev.neg (by simpa using h1) (Ev.some' ?_)
      simp [heldP, h1]
theorem implHeld_l0 : ∀ (a p : List S60), (p ++ a).length < 4611686018427387904 →
    Ev (fun k => impl_HeldOK.l0 k (p ++ a) (p ++ a) ((p ++ a).length : Int) (p.length : Int)) (heldP p.getLast? a && decide ((p ++ a).length ≤ 12)) := by
  intro a
  induction a with
  | nil =>
    intro p hl
    refine Ev.step (fun k => rfl) (Ev.neg (len_end p) (Ev.some' ?_))
    rw [heldP, Bool.true_and, decide_eq_decide]
    omega
  | cons x a ih =>
    intro p hl
    have hl' := hl
    rw [List.length_append, List.length_cons] at hl'
    have hnext := ih (p ++ [x]) (by rw [← snoc]; exact hl)
    rw [← snoc, len_snoc, List.getLast?_concat] at hnext
    refine Ev.step (fun k => rfl) (Ev.pos (len_lt p x a) (Ev.pos (by omega) (Ev.pos (len_lt p x a) (Ev.ret (within_ev _ _ _) ?_))))
    rw [rd_Coins_mid p x a]
    by_cases h1 : 1 ≤ x.f0 ∧ x.f0 ≤ 100000
    · refine Ev.pos (by simpa using h1) (Ev.ret (within_ev _ _ _) ?_)
      by_cases h2 : 0 ≤ x.f1 ∧ x.f1 ≤ 60
      · refine Ev.pos (by simpa using h2) ?_
        rcases List.eq_nil_or_concat p with rfl | ⟨q, y, rfl⟩
        · refine Ev.neg (by simp) ?_
          rw [w64 (by simp) (by simp)]
          refine Ev.eq hnext ?_
          simp [heldP, h1, h2]
        · rw [List.concat_eq_append] at *
          have hlen : ((q ++ [y]).length : Int) = (q.length : Int) + 1 := len_snoc q y
          refine Ev.pos (by omega) ?_
          rw [w64 (x := ((q ++ [y]).length : Int) - 1) (by omega) (by omega), rdc_prev]
          refine Ev.pos (by omega) (Ev.pos (by simp only [List.length_append, List.length_cons, List.length_nil]; omega) ?_)
          by_cases hyx : y.f0 ≥ x.f0
          · refine Ev.pos hyx (Ev.some' ?_)
            simp [heldP, show ¬ y.f0 < x.f0 by omega]
          · refine Ev.neg hyx ?_
            rw [w64 (by omega) (by omega)]
            refine Ev.eq hnext ?_
            simp [heldP, h1, h2, show y.f0 < x.f0 by omega]
      · refine Ev.neg (by simpa using h2) (Ev.some' ?_)
        simp [heldP, h2]
    · refine Ev.neg (by simpa using h1) (Ev.some' ?_)
      simp [heldP, h1]
theorem specHeld_ev (l : List S60) (hl : l.length < 4611686018427387904) : Ev (fun k => spec_HeldOK.f k l) (heldB l) := by
  unfold spec_HeldOK.f heldB
  by_cases c : l.length ≤ 12
  · exact Ev.neg (by omega) (Ev.eq (specHeld_l0 l [] hl) (by simp [c]))
  · exact Ev.pos (by omega) (Ev.some' (by simp [c]))
theorem implHeld_ev (l : List S60) (hl : l.length < 4611686018427387904) : Ev (fun k => impl_HeldOK.f k l) (heldB l) := by
  unfold impl_HeldOK.f heldB
  exact implHeld_l0 l [] hl
theorem heldP_all : ∀ (l : List S60) (o : Option S60), heldP o l = true → ∀ c ∈ l, (1 ≤ c.f0 ∧ c.f0 ≤ 100000) ∧ 0 ≤ c.f1 ∧ c.f1 ≤ 60 := by
  intro l
  induction l with
  | nil => intro o _ c hc; cases hc
  | cons x l ih =>
    intro o h c hc
    rw [heldP.eq_def] at h
    simp only [Bool.and_eq_true] at h
    rcases List.mem_cons.1 hc with rfl | hc
    · exact ⟨of_decide_eq_true h.1.1, of_decide_eq_true h.1.2⟩
    · exact ih _ h.2.2 c hc
theorem rdc_nat (l : List S60) (i : Nat) : rd_T60 l (i : Int) = l.getD i z60 := by
  unfold rd_T60
  rw [Int.toNat_natCast]
theorem rdl_nat (l : List (List Int)) (i : Nat) : rd_L2 l (i : Int) = l.getD i [] := by
  unfold rd_L2
  rw [Int.toNat_natCast]
/-! ### the two tables -/
theorem itab_at : ∀ (l : List S60) (row : List Int) (k : Nat), k ≤ l.length → (impl_fewest.tab row l).getD k [] = impl_fewest.cur row (l.take k) := by
  intro l
  induction l with
  | nil => intro row k h; obtain rfl : k = 0 := by simpa using h
           rfl
  | cons c l ih =>
    intro row k h
    cases k with
    | zero => rfl
    | succ k => rw [impl_fewest.tab, List.getD_cons_succ, ih _ k (by simpa using h), List.take_succ_cons]; rfl
theorem stab_at : ∀ (l : List S60) (row : List Int) (k : Nat), k ≤ l.length → (spec_l09Fewest.tab row l).getD k [] = spec_l09Fewest.cur row (l.take k) := by
  intro l
  induction l with
  | nil => intro row k h; obtain rfl : k = 0 := by simpa using h
           rfl
  | cons c l ih =>
    intro row k h
    cases k with
    | zero => rfl
    | succ k => rw [spec_l09Fewest.tab, List.getD_cons_succ, ih _ k (by simpa using h), List.take_succ_cons]; rfl
theorem icur_snoc (l : List S60) (row : List Int) (c : S60) : impl_fewest.cur row (l ++ [c]) = impl_fewest.nxt (impl_fewest.cur row l) c := by unfold impl_fewest.cur; rw [List.foldl_append]; rfl
theorem take_at (l : List S60) (k : Nat) (h : k < l.length) : l.take (k + 1) = l.take k ++ [l.getD k z60] := by
  rw [List.take_succ_eq_append_getElem h, List.getD_eq_getElem?_getD, List.getElem?_eq_getElem h]
  rfl
theorem inxt_at (row : List Int) (c : S60) (a : Nat) (h : a < row.length) : rd (impl_fewest.nxt row c) (a : Int) = impl_fewest.fin row c a := by
  rw [rd_nat]
  unfold impl_fewest.nxt
  rw [List.getD_eq_getElem?_getD, List.getElem?_map, List.getElem?_range h]
  rfl
theorem snxt_at (row : List Int) (c : S60) (a : Nat) (h : a < row.length) : rd (spec_l09Fewest.nxt row c) (a : Int) = spec_l09Fewest.fin row c a := by
  rw [rd_nat]
  unfold spec_l09Fewest.nxt
  rw [List.getD_eq_getElem?_getD, List.getElem?_map, List.getElem?_range h]
  rfl
/-- The two rows tell the same. -/
def relR (k : Nat) (ri rs : List Int) : Prop := ri.length = rs.length ∧ ∀ a : Nat, a < ri.length → (rd rs a = -1 ∧ rd ri a = 721) ∨ (0 ≤ rd rs a ∧ rd rs a = rd ri a ∧ rd ri a ≤ 60 * (k : Int))
theorem up_rel {k : Nat} {ri rs : List Int} (h : relR k ri rs) (hk : k ≤ 11) {v : Int} (hv : 1 ≤ v) {a : Nat} (ha : a < ri.length) : ∀ n : Nat, (n : Int) * v ≤ a → n ≤ 60 →
    (spec_l09Fewest.up rs v a (n + 1) = -1 ∧ impl_fewest.up ri v a n = 721) ∨ (0 ≤ spec_l09Fewest.up rs v a (n + 1) ∧ spec_l09Fewest.up rs v a (n + 1) = impl_fewest.up ri v a n ∧ impl_fewest.up ri v a n ≤ 60 * (k : Int) + n) := by
  intro n
  induction n with
  | zero =>
    intro _ _
    rw [spec_l09Fewest.up, impl_fewest.up, spec_l09Fewest.up]
    have e : (a : Int) - ((0 : Nat) : Int) * v = (a : Int) := by simp
    rw [e]
    rcases h.2 a ha with ⟨h1, h2⟩ | ⟨h1, h2, h3⟩
    · exact .inl ⟨if_neg (by omega), h2⟩
    · rw [if_pos ⟨h1, .inl (by decide)⟩]
      exact .inr ⟨by omega, by omega, by omega⟩
  | succ n ih =>
    intro hn h60
    have hnv : (n : Int) * v ≤ ((n + 1 : Nat) : Int) * v := Int.mul_le_mul_of_nonneg_right (by omega) (by omega)
    have ih := ih (Int.le_trans hnv hn) (by omega)
    have hp0 : 0 ≤ ((n + 1 : Nat) : Int) * v := Int.mul_nonneg (by omega) (by omega)
    rw [spec_l09Fewest.up, impl_fewest.up]
    obtain ⟨j, hj⟩ : ∃ j : Nat, (a : Int) - ((n + 1 : Nat) : Int) * v = (j : Int) := ⟨((a : Int) - ((n + 1 : Nat) : Int) * v).toNat, by omega⟩
    rw [hj]
    have hr := h.2 j (by omega)
    generalize spec_l09Fewest.up rs v a (n + 1) = s at ih ⊢
    generalize impl_fewest.up ri v a n = t at ih ⊢
    unfold mn
    rcases hr with ⟨h1, h2⟩ | ⟨h1, h2, h3⟩
    · rw [if_neg (by omega), if_neg (by omega)]
      rcases ih with ih | ih
      · exact .inl ih
      · exact .inr ⟨ih.1, ih.2.1, by omega⟩
    · rcases ih with ih | ih
      · rw [if_pos ⟨h1, .inl (by omega)⟩, if_pos (by omega)]
        exact .inr ⟨by omega, by omega, by omega⟩
      · by_cases c : rd ri (j : Int) + ((n + 1 : Nat) : Int) < t
        · rw [if_pos ⟨h1, .inr (by omega)⟩, if_pos (by omega)]
          exact .inr ⟨by omega, by omega, by omega⟩
        · rw [if_neg (by omega), if_neg (by omega)]
          exact .inr ⟨ih.1, ih.2.1, by omega⟩
theorem nxt_rel {k : Nat} {ri rs : List Int} (h : relR k ri rs) (hk : k ≤ 11) {c : S60} (hc : (1 ≤ c.f0 ∧ c.f0 ≤ 100000) ∧ 0 ≤ c.f1 ∧ c.f1 ≤ 60) : relR (k + 1) (impl_fewest.nxt ri c) (spec_l09Fewest.nxt rs c) := by
  refine ⟨by rw [impl_fewest.nxt_len, spec_l09Fewest.nxt_len]; exact h.1, fun a ha => ?_⟩
  rw [impl_fewest.nxt_len] at ha
  rw [inxt_at _ _ _ ha, snxt_at _ _ _ (by rw [← h.1]; exact ha)]
  unfold impl_fewest.fin spec_l09Fewest.fin
  have h1 := (impl_fewest.cnt (a := a) (n := Nat.min c.f1.toNat (a / c.f0.toNat)) hc.1.1 hc.2.1).1 (Nat.le_refl _)
  rcases up_rel h hk hc.1.1 ha _ h1.2 (by omega) with h2 | h2
  · exact .inl h2
  · exact .inr ⟨h2.1, h2.2.1, by omega⟩
theorem first_rel (n : Nat) : relR 0 (impl_fewest.first (n : Int)) (spec_l09Fewest.first (n : Int)) := by
  refine ⟨by simp [impl_fewest.first, spec_l09Fewest.first, spec_l09Fewest.begun], fun a ha => ?_⟩
  have hl : a < n + 1 := by simpa [impl_fewest.first] using ha
  rw [rd_nat, rd_nat]
  unfold spec_l09Fewest.first spec_l09Fewest.begun impl_fewest.first
  rw [Int.toNat_natCast, List.getD_eq_getElem?_getD, List.getElem?_map, List.getElem?_range hl]
  cases a with
  | zero => exact .inr ⟨by simp, by simp, by simp⟩
  | succ a =>
    refine .inl ⟨by simp; omega, ?_⟩
    rw [List.getD_cons_succ, List.getD_eq_getElem?_getD, List.getElem?_replicate, if_pos (by omega)]
    rfl
theorem cur_rel (l : List S60) (n : Nat) (hl : l.length ≤ 12) (hc : ∀ c ∈ l, (1 ≤ c.f0 ∧ c.f0 ≤ 100000) ∧ 0 ≤ c.f1 ∧ c.f1 ≤ 60) : ∀ k, k ≤ l.length → relR k (impl_fewest.cur (impl_fewest.first (n : Int)) (l.take k)) (spec_l09Fewest.cur (spec_l09Fewest.first (n : Int)) (l.take k)) := by
  intro k
  induction k with
  | zero => intro _; exact first_rel n
  | succ k ih =>
    intro h
    rw [take_at l k (by omega), icur_snoc, spec_l09Fewest.cur_snoc]
    refine nxt_rel (ih (by omega)) (by omega) (hc _ ?_)
    rw [List.getD_eq_getElem?_getD, List.getElem?_eq_getElem (show k < l.length by omega)]
    exact List.getElem_mem _
/-! ### the coins that are taken -/
theorem up_hit (row : List Int) (v : Int) (a : Nat) : ∀ n : Nat, ∃ m, m ≤ n ∧ (m : Int) + rd row ((a : Int) - (m : Int) * v) = impl_fewest.up row v a n := by
  intro n
  induction n with
  | zero => exact ⟨0, Nat.le_refl _, by rw [impl_fewest.up]; simp⟩
  | succ n ih =>
    obtain ⟨m, h1, h2⟩ := ih
    rw [impl_fewest.up]
    unfold mn
    split
    · exact ⟨n + 1, Nat.le_refl _, rfl⟩
    · exact ⟨m, by omega, h2⟩
theorem pick_spec (row rowN : List Int) (v due : Int) : ∀ n : Nat, (∃ m : Nat, m ≤ n ∧ (m : Int) + rd row (due - (m : Int) * v) = rd rowN due) →
    ∃ N, impl_Change.pick row rowN v due n = some N ∧ N ≤ n ∧ (N : Int) + rd row (due - (N : Int) * v) = rd rowN due ∧ ∀ m : Nat, N < m → m ≤ n → ¬ (m : Int) + rd row (due - (m : Int) * v) = rd rowN due := by
  intro n
  induction n with
  | zero =>
    rintro ⟨m, h1, h2⟩
    obtain rfl : m = 0 := by omega
    refine ⟨0, ?_, Nat.le_refl _, h2, fun m h3 h4 => by omega⟩
    rw [impl_Change.pick, if_pos (by simpa using h2)]
  | succ n ih =>
    rintro ⟨m, h1, h2⟩
    by_cases c : ((n + 1 : Nat) : Int) + rd row (due - ((n + 1 : Nat) : Int) * v) = rd rowN due
    · exact ⟨n + 1, by rw [impl_Change.pick, if_pos c], Nat.le_refl _, c, fun m h3 h4 => by omega⟩
    · have : m ≠ n + 1 := by rintro rfl; exact c h2
      obtain ⟨N, g1, g2, g3, g4⟩ := ih ⟨m, by omega, h2⟩
      refine ⟨N, by rw [impl_Change.pick, if_neg c]; exact g1, by omega, g3, fun m h3 h4 => ?_⟩
      by_cases e : m = n + 1
      · rw [e]; exact c
      · exact g4 m h3 (by omega)
abbrev iT (l : List S60) (n : Nat) : List (List Int) := impl_fewest.tab (impl_fewest.first (n : Int)) l
abbrev sT (l : List S60) (n : Nat) : List (List Int) := spec_l09Fewest.tab (spec_l09Fewest.first (n : Int)) l
theorem mem_at (l : List S60) (hc : ∀ c ∈ l, (1 ≤ c.f0 ∧ c.f0 ≤ 100000) ∧ 0 ≤ c.f1 ∧ c.f1 ≤ 60) (k : Nat) (hk : k < l.length) : (1 ≤ (l.getD k z60).f0 ∧ (l.getD k z60).f0 ≤ 100000) ∧ 0 ≤ (l.getD k z60).f1 ∧ (l.getD k z60).f1 ≤ 60 := by
  refine hc _ ?_
  rw [List.getD_eq_getElem?_getD, List.getElem?_eq_getElem hk]
  exact List.getElem_mem _
theorem top_eq (c : S60) (hcc : (1 ≤ c.f0 ∧ c.f0 ≤ 100000) ∧ 0 ≤ c.f1 ∧ c.f1 ≤ 60) (due : Nat) (m : Nat) : m ≤ impl_Change.top c (due : Int) ↔ (m : Int) ≤ c.f1 ∧ (m : Int) * c.f0 ≤ due := by
  unfold impl_Change.top
  have h : (m : Int) * c.f0 ≤ due ↔ (m : Int) ≤ (due : Int) / c.f0 := (Int.le_ediv_iff_mul_le (by omega)).symm
  have h0 : 0 ≤ (due : Int) / c.f0 := Int.ediv_nonneg (by omega) (by omega)
  rw [h]
  split <;> omega
section
variable (l : List S60) (n : Nat) (hl : l.length ≤ 12) (hc : ∀ c ∈ l, (1 ≤ c.f0 ∧ c.f0 ≤ 100000) ∧ 0 ≤ c.f1 ∧ c.f1 ≤ 60)
include hl hc
theorem tab_rel (k : Nat) (hk : k ≤ l.length) : relR k ((iT l n).getD k []) ((sT l n).getD k []) := by
  rw [itab_at _ _ _ hk, stab_at _ _ _ hk]
  exact cur_rel l n hl hc k hk
theorem tab_lens (k : Nat) (hk : k ≤ l.length) : ((iT l n).getD k []).length = n + 1 ∧ ((sT l n).getD k []).length = n + 1 := by
  have h := (tab_rel l n hl hc k hk).1
  have h2 : ((iT l n).getD k []).length = n + 1 := by rw [itab_at _ _ _ hk, impl_fewest.cur_len]; simp [impl_fewest.first]
  exact ⟨h2, by omega⟩
/-- Where an amount can be made, some coins of the last kind are taken, and what is left can be made of the others. -/
theorem step_ok (k : Nat) (hk : k < l.length) (due : Nat) (hd : due ≤ n) (h : rd ((iT l n).getD (k + 1) []) (due : Int) < 721) :
    ∃ N : Nat, impl_Change.pick ((iT l n).getD k []) ((iT l n).getD (k + 1) []) (l.getD k z60).f0 (due : Int) (impl_Change.top (l.getD k z60) (due : Int)) = some N ∧ (N : Int) ≤ (l.getD k z60).f1 ∧ (N : Int) * (l.getD k z60).f0 ≤ due ∧
      (N : Int) + rd ((iT l n).getD k []) ((due : Int) - (N : Int) * (l.getD k z60).f0) = rd ((iT l n).getD (k + 1) []) (due : Int) ∧
      ∀ m : Nat, N < m → m ≤ impl_Change.top (l.getD k z60) (due : Int) → ¬ (m : Int) + rd ((iT l n).getD k []) ((due : Int) - (m : Int) * (l.getD k z60).f0) = rd ((iT l n).getD (k + 1) []) (due : Int) := by
  have hcc := mem_at l hc k hk
  have hlen := tab_lens l n hl hc k (by omega)
  have he : rd ((iT l n).getD (k + 1) []) (due : Int) = impl_fewest.up ((iT l n).getD k []) (l.getD k z60).f0 due (Nat.min (l.getD k z60).f1.toNat (due / (l.getD k z60).f0.toNat)) := by
    rw [itab_at _ _ _ (by omega), take_at l k hk, icur_snoc, itab_at _ _ _ (by omega)] at *
    rw [inxt_at _ _ _ (by rw [hlen.1]; omega)]
    rfl
  obtain ⟨m, hm1, hm2⟩ := up_hit ((iT l n).getD k []) (l.getD k z60).f0 due (Nat.min (l.getD k z60).f1.toNat (due / (l.getD k z60).f0.toNat))
  have hmt := (impl_fewest.cnt hcc.1.1 hcc.2.1).1 hm1
  obtain ⟨N, h1, h2, h3, h4⟩ := pick_spec ((iT l n).getD k []) ((iT l n).getD (k + 1) []) (l.getD k z60).f0 (due : Int) _ ⟨m, (top_eq _ hcc due m).2 hmt, by rw [he]; exact hm2⟩
  have h5 := (top_eq _ hcc due N).1 h2
  exact ⟨N, h1, h5.1, h5.2, h3, h4⟩
/-- The coins of each kind. -/
theorem walk_ok (hn : n ≤ 10000) : ∀ (k : Nat) (due : Nat) (out : List Int), k ≤ l.length → due ≤ n → rd ((iT l n).getD k []) (due : Int) < 721 → out.length = l.length →
    ∃ o, impl_Change.walk (iT l n) l k (due : Int) out = some o ∧ o.length = l.length ∧ Ev (fun q => spec_Change.l0 q l (sT l n) out (due : Int) ((k : Int) - 1)) (o, 0) := by
  intro k
  induction k with
  | zero =>
    intro due out _ _ _ ho
    exact ⟨out, rfl, ho, Ev.via (Ev.some' rfl) (fun q => rfl)⟩
  | succ k ih =>
    intro due out hk hd h ho
    obtain ⟨N, h1, h2, h3, h4, h5⟩ := step_ok l n hl hc k (by omega) due hd h
    have hcc := mem_at l hc k (by omega)
    have hla := tab_lens l n hl hc k (by omega)
    have hlb := tab_lens l n hl hc (k + 1) hk
    have hra := tab_rel l n hl hc k (by omega)
    have hrb := tab_rel l n hl hc (k + 1) hk
    have htl : (sT l n).length = l.length + 1 := spec_l09Fewest.tab_len _ _
    obtain ⟨p, hp⟩ : ∃ p : Int, (N : Int) * (l.getD k z60).f0 = p := ⟨_, rfl⟩
    have hp0 : 0 ≤ p := by rw [← hp]; exact Int.mul_nonneg (by omega) (by omega)
    obtain ⟨j, hj⟩ : ∃ j : Nat, (due : Int) - p = (j : Int) := ⟨((due : Int) - p).toNat, by omega⟩
    rw [hp, hj] at h4
    rw [hp] at h3
    obtain ⟨o, g1, g2, g3⟩ := ih j (out.set k (N : Int)) (by omega) (by omega) (by omega) (by rw [List.length_set]; exact ho)
    refine ⟨o, ?_, g2, ?_⟩
    · rw [impl_Change.walk, rdc_nat, h1, Option.bind_some, hp, hj]
      exact g1
    · have e1 : (((k + 1 : Nat) : Int) - 1) = (k : Int) := by omega
      rw [e1]
      have hdb := hrb.2 due (by omega)
      have hlast : ∀ d : Nat, ∀ c : Nat, c = N + d → (c : Int) ≤ (l.getD k z60).f1 → Ev (fun q => spec_Change.l1 q l (sT l n) out (due : Int) (k : Int) (c : Int)) (o, 0) := by
        intro d
        induction d with
        | zero =>
          intro c hcN hcf
          rw [Nat.add_zero] at hcN
          subst hcN
          refine Ev.step (fun q => rfl) (Ev.pos (by omega) (Ev.pos (by omega) (Ev.pos (by omega) ?_)))
          rw [rdc_nat, rdl_nat, w64 (x := (k : Int) + 1) (by omega) (by omega), show ((k : Int) + 1) = ((k + 1 : Nat) : Int) by omega, rdl_nat, hp, w64 (x := p) (by omega) (by omega), w64 (x := (due : Int) - p) (by omega) (by omega), hj]
          have hja := hra.2 j (by omega)
          have hrj : rd ((sT l n).getD k []) (j : Int) = rd ((iT l n).getD k []) (j : Int) ∧ 0 ≤ rd ((sT l n).getD k []) (j : Int) := by
            rcases hja with g | g
            · omega
            · exact ⟨g.2.1, g.1⟩
          have hrd : rd ((sT l n).getD (k + 1) []) (due : Int) = rd ((iT l n).getD (k + 1) []) (due : Int) := by
            rcases hdb with g | g
            · omega
            · exact g.2.1
          refine Ev.pos (by omega) (Ev.pos (by omega) (Ev.pos (by omega) (Ev.pos (by rw [hla.2]; omega) (Ev.pos (by omega) (Ev.pos (by omega) (Ev.pos (by omega) (Ev.pos (by omega) (Ev.pos (by rw [hlb.2]; omega) (Ev.pos ?_ (Ev.pos (by omega) ?_))))))))))
          · rw [hrj.1, hrd, w64 (by omega) (by omega)]
            omega
          · rw [w64 (x := (k : Int) - 1) (by omega) (by omega), Int.toNat_natCast]
            exact g3
        | succ d ihd =>
          intro c hcN hcf
          have hgo := ihd (N + d) rfl (by omega)
          have e2 : wrap64 ((c : Int) - 1) = ((N + d : Nat) : Int) := by rw [w64 (by omega) (by omega)]; omega
          obtain ⟨s, hs⟩ : ∃ s : Int, (c : Int) * (l.getD k z60).f0 = s := ⟨_, rfl⟩
          have hs0 : 0 ≤ s := by rw [← hs]; exact Int.mul_nonneg (by omega) (by omega)
          have hs1 : s ≤ 60 * 100000 := by rw [← hs]; exact Int.mul_le_mul (by omega) (by omega) (by omega) (by omega)
          refine Ev.step (fun q => rfl) (Ev.pos (by omega) (Ev.pos (by omega) (Ev.pos (by omega) ?_)))
          rw [rdc_nat, rdl_nat, w64 (x := (k : Int) + 1) (by omega) (by omega), show ((k : Int) + 1) = ((k + 1 : Nat) : Int) by omega, rdl_nat, hs, w64 (x := s) (by omega) (by omega), w64 (x := (due : Int) - s) (by omega) (by omega), e2]
          by_cases c1 : (due : Int) - s ≥ 0
          · obtain ⟨i, hi⟩ : ∃ i : Nat, (due : Int) - s = (i : Int) := ⟨((due : Int) - s).toNat, by omega⟩
            rw [hi]
            have hia := hra.2 i (by omega)
            refine Ev.pos (by omega) (Ev.pos (by omega) (Ev.pos (by omega) (Ev.pos (by rw [hla.2]; omega) ?_)))
            by_cases c2 : rd ((sT l n).getD k []) (i : Int) ≥ 0
            · refine Ev.pos c2 (Ev.pos (by omega) (Ev.pos (by omega) (Ev.pos (by omega) (Ev.pos (by rw [hlb.2]; omega) (Ev.neg ?_ hgo)))))
              have hne := h5 c (by omega) ((top_eq _ hcc due c).2 ⟨hcf, by omega⟩)
              rw [hs, hi] at hne
              have hrd : rd ((sT l n).getD (k + 1) []) (due : Int) = rd ((iT l n).getD (k + 1) []) (due : Int) := by
                rcases hdb with g | g
                · omega
                · exact g.2.1
              have hrj : rd ((sT l n).getD k []) (i : Int) = rd ((iT l n).getD k []) (i : Int) ∧ rd ((iT l n).getD k []) (i : Int) ≤ 721 := by
                rcases hia with g | g
                · omega
                · exact ⟨g.2.1, by omega⟩
              rw [hrj.1, hrd, w64 (by omega) (by omega)]
              omega
            · exact Ev.neg c2 hgo
          · exact Ev.neg c1 hgo
      refine Ev.step (fun q => rfl) (Ev.pos (by omega) ?_)
      rw [rdc_nat]
      obtain ⟨f, hf⟩ := Int.eq_ofNat_of_zero_le hcc.2.1
      rw [hf]
      exact hlast (f - N) f (by omega) (by omega)
end
/-- What both answer. -/
theorem change_both (a : Int) (l : List S60) (hl : l.length < 4611686018427387904) : ∃ o c, o.length ≤ 12 ∧ Ev (fun k => impl_Change.f k a l) (o, c) ∧ Ev (fun k => spec_Change.f k a l) (o, c) := by
  unfold impl_Change.f spec_Change.f
  by_cases c1 : (l.length : Int) ≤ 4096
  case neg => exact ⟨[], 2, by simp, Ev.neg c1 (Ev.some' rfl), Ev.pos (by omega) (Ev.some' rfl)⟩
  have im := implHeld_ev l hl
  have sp := specHeld_ev l hl
  cases hh : heldB l with
  | false =>
    rw [hh] at im sp
    exact ⟨[], 1, by simp, Ev.pos c1 (Ev.bind im (Ev.neg ff (Ev.some' rfl))), Ev.neg (by omega) (Ev.bind sp (Ev.neg ff (Ev.some' rfl)))⟩
  | true =>
    rw [hh] at im sp
    unfold heldB at hh
    rw [Bool.and_eq_true] at hh
    have hc := heldP_all l none hh.1
    have hl12 : l.length ≤ 12 := of_decide_eq_true hh.2
    by_cases c2 : 0 ≤ a ∧ a ≤ 10000
    case neg =>
      exact ⟨[], 5, by simp, Ev.pos c1 (Ev.bind im (Ev.pos rfl (Ev.neg c2 (Ev.some' rfl)))), Ev.neg (by omega) (Ev.bind sp (Ev.pos rfl (Ev.ret (l01In_ev _ _ _) (Ev.neg (by simpa using c2) (Ev.some' rfl)))))⟩
    obtain ⟨n, rfl⟩ := Int.eq_ofNat_of_zero_le c2.1
    have hn : n ≤ 10000 := by omega
    have hg : ∀ c ∈ l, 1 ≤ c.f0 ∧ c.f0 ≤ 100000 ∧ 0 ≤ c.f1 ∧ c.f1 ≤ 60 := fun c h => ⟨(hc c h).1.1, (hc c h).1.2, (hc c h).2⟩
    have ti : impl_fewest.f (n : Int) l = some (iT l n) := by unfold impl_fewest.f; rw [if_pos ⟨c2.1, c2.2, hl12, hg⟩]
    have ts : spec_l09Fewest.f (n : Int) l = some (sT l n) := by unfold spec_l09Fewest.f; rw [if_pos ⟨c2.1, c2.2, hl12, hg⟩]
    have hlen := tab_lens l n hl12 hc l.length (Nat.le_refl _)
    have hrel := (tab_rel l n hl12 hc l.length (Nat.le_refl _)).2 n (by omega)
    have htl : (sT l n).length = l.length + 1 := spec_l09Fewest.tab_len _ _
    by_cases c3 : rd ((iT l n).getD l.length []) (n : Int) ≥ 721
    · refine ⟨[], 8, by simp, Ev.pos c1 (Ev.bind im (Ev.pos rfl (Ev.pos c2 (Ev.ret ti (Ev.pos c3 (Ev.some' rfl)))))), Ev.neg (by omega) (Ev.bind sp (Ev.pos rfl (Ev.ret (l01In_ev _ _ _) (Ev.pos (by simpa using c2) (Ev.ret ts ?_)))))⟩
      rw [rdl_nat]
      exact Ev.pos (by omega) (Ev.pos (by omega) (Ev.pos (by omega) (Ev.pos (by rw [hlen.2]; omega) (Ev.pos (by omega) (Ev.some' rfl)))))
    · obtain ⟨o, g1, g2, g3⟩ := walk_ok l n hl12 hc hn l.length n (List.replicate l.length 0) (Nat.le_refl _) (Nat.le_refl _) (by omega) (by simp)
      refine ⟨o, 0, by omega, Ev.pos c1 (Ev.bind im (Ev.pos rfl (Ev.pos c2 (Ev.ret ti (Ev.neg c3 (Ev.ret g1 (Ev.some' rfl))))))), Ev.neg (by omega) (Ev.bind sp (Ev.pos rfl (Ev.ret (l01In_ev _ _ _) (Ev.pos (by simpa using c2) (Ev.ret ts ?_)))))⟩
      rw [rdl_nat]
      refine Ev.pos (by omega) (Ev.pos (by omega) (Ev.pos (by omega) (Ev.pos (by rw [hlen.2]; omega) (Ev.neg (by omega) (Ev.pos (by omega) ?_)))))
      rw [Int.toNat_natCast, w64 (by omega) (by omega)]
      exact g3
/-- A source of draws: its code's bytes, its place (at most N), its seed. -/
def Srd (c : List Int) (a s N : Int) : Prop := (∀ x ∈ c, 0 ≤ x ∧ x ≤ 255) ∧ 0 ≤ a ∧ a ≤ N ∧ 0 ≤ s ∧ s ≤ 2147483647
theorem Srd.mono {c : List Int} {a s N M : Int} (h : Srd c a s N) (hM : N ≤ M) : Srd c a s M := ⟨h.1, h.2.1, by have := h.2.2.1; omega, h.2.2.2⟩
theorem rd_byte {c : List Int} (hc : ∀ x ∈ c, 0 ≤ x ∧ x ≤ 255) (i : Int) : 0 ≤ rd c i ∧ rd c i ≤ 255 := by
  unfold rd
  rw [List.getD_eq_getElem?_getD]
  cases h : c[i.toNat]? with
  | none => simp
  | some x => simpa using hc x (List.mem_of_getElem? h)
theorem byte_ok {c : List Int} {a s N : Int} (h : Srd c a s N) (hN : N ≤ 1000000000) : ∃ v s', spec_l00Src_byte.f c a s = some (v, a + 1, s') ∧ 0 ≤ v ∧ v ≤ 255 ∧ Srd c (a + 1) s' (N + 1) := by
  obtain ⟨hc, h0, h1, h2, h3⟩ := h
  unfold spec_l00Src_byte.f
  rw [w64 (x := a + 1) (by omega) (by omega), w64 (x := a + 1 - 1) (by omega) (by omega), show a + 1 - 1 = a by omega]
  have hb := rd_byte hc a
  generalize rd c a = b at hb
  rw [w64 (x := b) (by omega) (by omega), w64 (x := s * 31) (by omega) (by omega), w64 (x := s * 31 + b) (by omega) (by omega), w64 (x := s * 31 + b + 7) (by omega) (by omega), Int.tmod_eq_emod_of_nonneg (show 0 ≤ s * 31 + b + 7 by omega)]
  rw [w64 (x := s * 1103515245) (by omega) (by omega), w64 (x := s * 1103515245 + 12345) (by omega) (by omega), Int.tmod_eq_emod_of_nonneg (show 0 ≤ s * 1103515245 + 12345 by omega)]
  have e := Int.emod_nonneg (s * 1103515245 + 12345) (show (2147483648 : Int) ≠ 0 by decide)
  have e2 := Int.emod_lt_of_pos (s * 1103515245 + 12345) (show (0 : Int) < 2147483648 by decide)
  have f := Int.emod_nonneg (s * 31 + b + 7) (show (2147483648 : Int) ≠ 0 by decide)
  have f2 := Int.emod_lt_of_pos (s * 31 + b + 7) (show (0 : Int) < 2147483648 by decide)
  generalize (s * 1103515245 + 12345) % 2147483648 = t at e e2 ⊢
  generalize (s * 31 + b + 7) % 2147483648 = u at f f2 ⊢
  by_cases c1 : a + 1 ≤ (c.length : Int)
  · rw [if_pos c1, if_pos h0, if_pos (by omega)]
    exact ⟨_, _, rfl, hb.1, hb.2, hc, by omega, by omega, by omega, by omega⟩
  · rw [if_neg c1]
    by_cases c2 : a + 1 > 3000
    · rw [if_pos c2]
      exact ⟨_, _, rfl, by omega, by omega, hc, by omega, by omega, by omega, by omega⟩
    · rw [if_neg c2, Int.tdiv_eq_ediv_of_nonneg (by omega), w64 (by omega) (by omega), Int.tmod_eq_emod_of_nonneg (by omega)]
      exact ⟨_, _, rfl, by omega, by omega, hc, by omega, by omega, by omega, by omega⟩
theorem next_ok {c : List Int} {a s N : Int} (n : Int) (h : Srd c a s N) (hN : N ≤ 900000000) (h1 : 1 ≤ n) (h2 : n ≤ 16777216) : ∃ v a' s', spec_l00Src_next.f c a s n = some (v, a', s') ∧ 0 ≤ v ∧ v < n ∧ Srd c a' s' (N + 3) := by
  unfold spec_l00Src_next.f
  by_cases c1 : n ≤ 1
  · rw [if_pos c1]
    exact ⟨_, _, _, rfl, by omega, by omega, h.mono (by omega)⟩
  · rw [if_neg c1]
    obtain ⟨v, s1, hv, v0, v1, S1⟩ := byte_ok h (by omega)
    simp only [hv, Option.bind_some]
    have g := Int.emod_nonneg v (show n ≠ 0 by omega)
    have g2 := Int.emod_lt_of_pos v (show 0 < n by omega)
    by_cases c2 : n ≤ 256
    · rw [if_pos c2, if_neg (by omega), Int.tmod_eq_emod_of_nonneg (by omega)]
      exact ⟨_, _, _, rfl, g, g2, S1.mono (by omega)⟩
    · rw [if_neg c2]
      obtain ⟨x, s2, hx, x0, x1, S2⟩ := byte_ok S1 (by omega)
      simp only [hx, Option.bind_some]
      obtain ⟨y, s3, hy, y0, y1, S3⟩ := byte_ok S2 (by omega)
      simp only [hy, Option.bind_some]
      rw [if_neg (by omega)]
      rw [w64 (x := v * 65536) (by omega) (by omega), w64 (x := x * 256) (by omega) (by omega), w64 (x := v * 65536 + x * 256) (by omega) (by omega), w64 (by omega) (by omega), Int.tmod_eq_emod_of_nonneg (by omega)]
      exact ⟨_, _, _, rfl, Int.emod_nonneg _ (by omega), Int.emod_lt_of_pos _ (by omega), S3.mono (by omega)⟩
theorem source_ok (l : List Int) (h : ∀ x ∈ l, (Lit.int .u8 x).wf = true) : ∃ s, spec_l00Source.f l = some (l, 0, s) ∧ Srd l 0 s 0 := by
  refine ⟨_, rfl, fun x hx => bounds_u8 (h x hx), by omega, by omega, ?_, ?_⟩ <;> omega
theorem at_ok {c : List Int} (hc : ∀ x ∈ c, 0 ≤ x ∧ x ≤ 255) (i n : Int) (h0 : 0 ≤ i) (h1 : i ≤ 1000000) (hn : 1 ≤ n) : ∃ v, laws_at.f c i n = some v ∧ 0 ≤ v ∧ v < n := by
  unfold laws_at.f
  by_cases c1 : n ≤ 1
  · rw [if_pos c1]
    exact ⟨_, rfl, by omega, by omega⟩
  rw [if_neg c1]
  by_cases c2 : (c.length : Int) = 0
  · rw [if_pos c2, if_neg (by omega), w64 (by omega) (by omega), Int.tmod_eq_emod_of_nonneg (by omega)]
    exact ⟨_, rfl, Int.emod_nonneg _ (by omega), Int.emod_lt_of_pos _ (by omega)⟩
  · rw [if_neg c2]
    have e1 := Int.emod_nonneg i c2
    have e2 := Int.emod_lt_of_pos i (show (0 : Int) < (c.length : Int) by omega)
    have f1 := Int.emod_nonneg (i + 1) c2
    have f2 := Int.emod_lt_of_pos (i + 1) (show (0 : Int) < (c.length : Int) by omega)
    have g1 : 0 ≤ i / (c.length : Int) := Int.ediv_nonneg h0 (by omega)
    have g2 : i / (c.length : Int) ≤ i := Int.ediv_le_self _ h0
    rw [w64 (x := i + 1) (by omega) (by omega), Int.tmod_eq_emod_of_nonneg h0, Int.tmod_eq_emod_of_nonneg (show 0 ≤ i + 1 by omega), Int.tdiv_eq_ediv_of_nonneg h0]
    have b1 := rd_byte hc (i % (c.length : Int))
    have b2 := rd_byte hc ((i + 1) % (c.length : Int))
    generalize rd c (i % (c.length : Int)) = x at b1 ⊢
    generalize rd c ((i + 1) % (c.length : Int)) = y at b2 ⊢
    generalize i / (c.length : Int) = z at g1 g2 ⊢
    rw [if_pos e1, if_pos e2, if_pos f1, if_pos f2, if_neg (by omega), w64 (x := x) (by omega) (by omega), w64 (x := y) (by omega) (by omega), w64 (x := z) (by omega) (by omega), w64 (x := x * 31) (by omega) (by omega), w64 (x := x * 31 + y) (by omega) (by omega), w64 (by omega) (by omega), Int.tmod_eq_emod_of_nonneg (by omega)]
    exact ⟨_, rfl, Int.emod_nonneg _ (by omega), Int.emod_lt_of_pos _ (by omega)⟩
theorem sameInts_l0 : ∀ (a p : List Int), (p ++ a).length < 4611686018427387904 → Ev (fun k => laws_sameInts.l0 k (p ++ a) (p ++ a) (p.length : Int)) true := by
  intro a
  induction a with
  | nil => intro p hl; exact Ev.step (fun k => rfl) (Ev.neg (len_end p) (Ev.some' rfl))
  | cons x a ih =>
    intro p hl
    have hl' := hl
    rw [List.length_append, List.length_cons] at hl'
    refine Ev.step (fun k => rfl) (Ev.pos (len_lt p x a) (Ev.pos (by omega) (Ev.pos (len_lt p x a) (Ev.pos rfl ?_))))
    rw [w64 (by omega) (by omega), ← len_snoc p x, snoc p x a]
    exact ih (p ++ [x]) (by rw [← snoc]; exact hl)
theorem sameInts_ev (a : List Int) (hl : a.length < 4611686018427387904) : Ev (fun k => laws_sameInts.f k a a) true := by
  unfold laws_sameInts.f
  exact Ev.pos rfl (sameInts_l0 a [] hl)

def sumTo : Nat → (Nat → Int) → Int
  | 0, _ => 0
  | n + 1, f => sumTo n f + f n
theorem sumTo_nonneg (f : Nat → Int) : ∀ n, (∀ i, i < n → 0 ≤ f i) → 0 ≤ sumTo n f := by
  intro n
  induction n with
  | zero => intro _; exact Int.le_refl _
  | succ n ih => intro h; have := ih (fun i hi => h i (by omega)); have := h n (by omega); rw [sumTo]; omega
theorem sumTo_le (f : Nat → Int) (B : Int) : ∀ n, (∀ i, i < n → f i ≤ B) → sumTo n f ≤ B * n := by
  intro n
  induction n with
  | zero => intro _; simp [sumTo]
  | succ n ih =>
    intro h
    have := ih (fun i hi => h i (by omega))
    have h2 := h n (by omega)
    rw [sumTo, Int.natCast_add, Int.mul_add]
    simp
    omega
theorem sumTo_congr (f g : Nat → Int) : ∀ n, (∀ i, i < n → f i = g i) → sumTo n f = sumTo n g := by
  intro n
  induction n with
  | zero => intro _; rfl
  | succ n ih => intro h; rw [sumTo, sumTo, ih (fun i hi => h i (by omega)), h n (by omega)]
def wv (H : List S60) (S : List Int) (i : Nat) : Int := (H.getD i z60).f0 * S.getD i 0
/-- Coins that are drawn. -/
def gH (H : List S60) : Prop := heldB H = true ∧ H.length ≤ 9 ∧ ∀ c ∈ H, c.f0 ≤ 500 ∧ c.f1 ≤ 5
theorem gH_at {H : List S60} (h : gH H) (i : Nat) (hi : i < H.length) : (1 ≤ (H.getD i z60).f0 ∧ (H.getD i z60).f0 ≤ 500) ∧ 0 ≤ (H.getD i z60).f1 ∧ (H.getD i z60).f1 ≤ 5 := by
  obtain ⟨h1, h2, h3⟩ := h
  unfold heldB at h1
  rw [Bool.and_eq_true] at h1
  have hm : H.getD i z60 ∈ H := by
    rw [List.getD_eq_getElem?_getD, List.getElem?_eq_getElem hi]
    exact List.getElem_mem _
  have g1 := heldP_all H none h1.1 _ hm
  have g2 := h3 _ hm
  omega
def okS (H : List S60) (S : List Int) : Prop := S.length = H.length ∧ ∀ i, i < H.length → 0 ≤ S.getD i 0 ∧ S.getD i 0 ≤ (H.getD i z60).f1
theorem wv_bd {H : List S60} (h : gH H) {S : List Int} (hS : okS H S) (i : Nat) (hi : i < H.length) : 0 ≤ wv H S i ∧ wv H S i ≤ 2500 := by
  have h1 := gH_at h i hi
  have h2 := hS.2 i hi
  unfold wv
  exact ⟨Int.mul_nonneg (by omega) (by omega), Int.le_trans (Int.mul_le_mul (c := 500) (d := 5) (by omega) (by omega) (by omega) (by omega)) (by decide)⟩
theorem W_bd {H : List S60} (h : gH H) {S : List Int} (hS : okS H S) (n : Nat) (hn : n ≤ H.length) : 0 ≤ sumTo n (wv H S) ∧ sumTo n (wv H S) ≤ 22500 := by
  have h9 := h.2.1
  have h1 := sumTo_nonneg (wv H S) n (fun i hi => (wv_bd h hS i (by omega)).1)
  have h2 := sumTo_le (wv H S) 2500 n (fun i hi => (wv_bd h hS i (by omega)).2)
  omega
theorem lawWorth_l0 {H : List S60} (h : gH H) {S : List Int} (hS : okS H S) : ∀ d i, i + d = H.length → Ev (fun k => laws_worth.l0 k H S (sumTo i (wv H S)) (i : Int)) (sumTo H.length (wv H S)) := by
  intro d
  have h9 := h.2.1
  have hl := hS.1
  induction d with
  | zero =>
    intro i hi
    obtain rfl : i = H.length := by omega
    exact Ev.step (fun k => rfl) (Ev.neg (by omega) (Ev.some' rfl))
  | succ d ih =>
    intro i hi
    have hw := wv_bd h hS i (by omega)
    have hs := W_bd h hS i (by omega)
    refine Ev.step (fun k => rfl) (Ev.pos (by omega) (Ev.pos (by omega) (Ev.pos (by omega) ?_)))
    rw [rdc_nat, rd_nat, w64n (by omega), show (H.getD i z60).f0 * S.getD i 0 = wv H S i from rfl, w64 (x := wv H S i) (by omega) (by omega), w64 (by omega) (by omega)]
    exact ih (i + 1) (by omega)
theorem lawWorth_ev {H : List S60} (h : gH H) {S : List Int} (hS : okS H S) : Ev (fun k => laws_worth.f k H S) (sumTo H.length (wv H S)) := lawWorth_l0 h hS H.length 0 (by omega)
theorem specWorth_l0 {H : List S60} (h : gH H) {S : List Int} (hS : okS H S) : ∀ d i, i + d = H.length → Ev (fun k => spec_l24Worth.l0 k H S (sumTo i (wv H S)) (i : Int)) (sumTo H.length (wv H S)) := by
  intro d
  have h9 := h.2.1
  have hl := hS.1
  induction d with
  | zero =>
    intro i hi
    obtain rfl : i = H.length := by omega
    exact Ev.step (fun k => rfl) (Ev.neg (by omega) (Ev.some' rfl))
  | succ d ih =>
    intro i hi
    have hw := wv_bd h hS i (by omega)
    have hs := W_bd h hS i (by omega)
    refine Ev.step (fun k => rfl) (Ev.pos (by omega) (Ev.pos (by omega) (Ev.pos (by omega) ?_)))
    rw [rdc_nat, rd_nat, w64n (by omega), show (H.getD i z60).f0 * S.getD i 0 = wv H S i from rfl, w64 (x := wv H S i) (by omega) (by omega), w64 (by omega) (by omega)]
    exact ih (i + 1) (by omega)
theorem specWorth_ev {H : List S60} (h : gH H) {S : List Int} (hS : okS H S) : Ev (fun k => spec_l24Worth.f k H S) (sumTo H.length (wv H S)) := specWorth_l0 h hS H.length 0 (by omega)
theorem lawSum_l0 {S : List Int} (hl : S.length ≤ 12) (hS : ∀ i, i < S.length → 0 ≤ S.getD i 0 ∧ S.getD i 0 ≤ 60) : ∀ d i, i + d = S.length → Ev (fun k => laws_sum.l0 k S (sumTo i (fun j => S.getD j 0)) (i : Int)) (sumTo S.length (fun j => S.getD j 0)) := by
  intro d
  induction d with
  | zero =>
    intro i hi
    obtain rfl : i = S.length := by omega
    exact Ev.step (fun k => rfl) (Ev.neg (by omega) (Ev.some' rfl))
  | succ d ih =>
    intro i hi
    have h1 := hS i (by omega)
    have h2 := sumTo_nonneg (fun j => S.getD j 0) i (fun j hj => (hS j (by omega)).1)
    have h3 := sumTo_le (fun j => S.getD j 0) 60 i (fun j hj => (hS j (by omega)).2)
    refine Ev.step (fun k => rfl) (Ev.pos (by omega) (Ev.pos (by omega) ?_))
    rw [rd_nat, w64n (by omega), w64 (by omega) (by omega)]
    exact ih (i + 1) (by omega)
theorem lawSum_ev {S : List Int} (hl : S.length ≤ 12) (hS : ∀ i, i < S.length → 0 ≤ S.getD i 0 ∧ S.getD i 0 ≤ 60) : Ev (fun k => laws_sum.f k S) (sumTo S.length (fun j => S.getD j 0)) := lawSum_l0 hl hS S.length 0 (by omega)
/-! ### what is drawn -/
theorem heldP_of : ∀ (a : List S60) (o : Option S60), (∀ x ∈ a, (1 ≤ x.f0 ∧ x.f0 ≤ 500) ∧ 0 ≤ x.f1 ∧ x.f1 ≤ 5) → a.Pairwise (fun x y => x.f0 < y.f0) → (∀ y, o = some y → ∀ x ∈ a, y.f0 < x.f0) → heldP o a = true := by
  intro a
  induction a with
  | nil => intro o _ _ _; cases o <;> rfl
  | cons x a ih =>
    intro o hb hp ho
    have hx := hb x (by simp)
    rw [List.pairwise_cons] at hp
    have h1 := ih (some x) (fun y hy => hb y (List.mem_cons_of_mem x hy)) hp.2 (fun y hy z hz => by cases hy; exact hp.1 z hz)
    rw [heldP.eq_def]
    simp only [Bool.and_eq_true]
    refine ⟨⟨decide_eq_true (by omega), decide_eq_true (by omega)⟩, ?_, h1⟩
    cases o with
    | none => rfl
    | some y => exact decide_eq_true (ho y rfl x (by simp))
theorem chance_ok {c : List Int} {a s N : Int} (n : Int) (h : Srd c a s N) (hN : N ≤ 900000000) (h1 : 1 ≤ n) (h2 : n ≤ 16777216) : ∃ v a' s', spec_l00Src_chance.f c a s n = some (v, a', s') ∧ Srd c a' s' (N + 3) := by
  obtain ⟨v, a1, s1, e1, _, _, S1⟩ := next_ok n h hN h1 h2
  unfold spec_l00Src_chance.f
  rw [e1]
  exact ⟨_, _, _, rfl, S1⟩
theorem held_l0 (c : List Int) (V : List Int) (hV : V.length ≤ 9) : ∀ (a p : List Int) (acc : List S60) (i s N : Int), p ++ a = V → a.Pairwise (· < ·) → (∀ v ∈ a, 1 ≤ v ∧ v ≤ 500) → acc.length ≤ p.length → (∀ x ∈ acc, (1 ≤ x.f0 ∧ x.f0 ≤ 500) ∧ 0 ≤ x.f1 ∧ x.f1 ≤ 5) → acc.Pairwise (fun x y => x.f0 < y.f0) → (∀ x ∈ acc, ∀ v ∈ a, x.f0 < v) → Srd c i s N → N + 10 * a.length ≤ 1000000 →
    ∃ L i' s', Ev (fun k => spec_l00Src_held.l0 k acc V (p.length : Int) c i s) (L, i', s') ∧ gH L ∧ Srd c i' s' (N + 10 * a.length) := by
  intro a
  induction a with
  | nil =>
    intro p acc i s N hp hpw hvb hal hb hpa hlt hS hN
    rw [List.append_nil] at hp
    subst hp
    refine ⟨acc, i, s, Ev.step (fun k => rfl) (Ev.neg (by omega) (Ev.some' rfl)), ⟨?_, by omega, fun x hx => by have := hb x hx; omega⟩, hS.mono (by simp)⟩
    unfold heldB
    rw [heldP_of acc none hb hpa (fun y hy => by cases hy), Bool.true_and]
    exact decide_eq_true (by omega)
  | cons v a ih =>
    intro p acc i s N hp hpw hvb hal hb hpa hlt hS hN
    rw [List.pairwise_cons] at hpw
    rw [List.length_cons] at hN
    have hvv := hvb v (by simp)
    have hvl : (p.length : Int) < (V.length : Int) := by rw [← hp]; exact len_lt p v a
    have hvr : rd V (p.length : Int) = v := by rw [← hp]; exact rd_mid p v a
    have hw : wrap64 ((p.length : Int) + 1) = ((p ++ [v]).length : Int) := by rw [w64 (by omega) (by omega), len_snoc]
    obtain ⟨b, i1, s1, e1, S1⟩ := chance_ok 3 hS (by omega) (by omega) (by omega)
    obtain ⟨x, i2, s2, e2, l2, u2, S2⟩ := next_ok 6 S1 (by omega) (by omega) (by omega)
    cases b with
    | true =>
      obtain ⟨L, i', s', h1, h2, h3⟩ := ih (p ++ [v]) acc i1 s1 _ (by rw [← snoc]; exact hp) hpw.2 (fun u hu => hvb u (List.mem_cons_of_mem v hu)) (by simp; omega) hb hpa (fun y hy u hu => hlt y hy u (List.mem_cons_of_mem v hu)) S1 (by omega)
      refine ⟨L, i', s', Ev.step (fun k => rfl) (Ev.pos hvl (Ev.ret e1 (Ev.pos rfl ?_))), h2, h3.mono (by rw [List.length_cons]; omega)⟩
      simp only [hw]
      exact h1
    | false =>
      obtain ⟨L, i', s', h1, h2, h3⟩ := ih (p ++ [v]) (acc ++ [⟨v, x⟩]) i2 s2 _ (by rw [← snoc]; exact hp) hpw.2 (fun u hu => hvb u (List.mem_cons_of_mem v hu)) (by simp; omega) (by
          intro y hy
          rcases List.mem_append.1 hy with hy | hy
          · exact hb y hy
          · rw [List.mem_singleton.1 hy]; simp only; omega) (by
          rw [List.pairwise_append]
          refine ⟨hpa, List.pairwise_singleton _ _, fun y hy z hz => ?_⟩
          rw [List.mem_singleton.1 hz]
          exact hlt y hy v (by simp)) (by
          intro y hy u hu
          rcases List.mem_append.1 hy with hy | hy
          · exact hlt y hy u (List.mem_cons_of_mem v hu)
          · rw [List.mem_singleton.1 hy]; exact hpw.1 u hu) S2 (by omega)
      refine ⟨L, i', s', Ev.step (fun k => rfl) (Ev.pos hvl (Ev.ret e1 (Ev.neg ff (Ev.pos (by omega) (Ev.ret e2 (Ev.pos (by omega) ?_)))))), h2, h3.mono (by rw [List.length_cons]; omega)⟩
      simp only [hw, hvr]
      exact h1
theorem held_ok (c : List Int) (s : Int) (hS : Srd c 0 s 0) : ∃ L i' s', Ev (fun k => spec_l00Src_held.f k c 0 s) (L, i', s') ∧ gH L ∧ Srd c i' s' 100 := by
  obtain ⟨b, i1, s1, e1, S1⟩ := chance_ok 3 hS (by omega) (by omega) (by omega)
  unfold spec_l00Src_held.f
  cases b with
  | true =>
    obtain ⟨L, i', s', h1, h2, h3⟩ := held_l0 c [1, 7, 9, 30, 44, 90] (by decide) [1, 7, 9, 30, 44, 90] [] [] i1 s1 _ rfl (by decide) (by decide) (by simp) (by simp) (by simp) (by simp) S1 (by simp)
    exact ⟨L, i', s', Ev.ret rfl (Ev.ret e1 (Ev.pos rfl (Ev.step (fun k => rfl) h1))), h2, h3.mono (by simp)⟩
  | false =>
    obtain ⟨L, i', s', h1, h2, h3⟩ := held_l0 c [1, 2, 5, 10, 20, 50, 100, 200, 500] (by decide) [1, 2, 5, 10, 20, 50, 100, 200, 500] [] [] i1 s1 _ rfl (by decide) (by decide) (by simp) (by simp) (by simp) (by simp) S1 (by simp)
    exact ⟨L, i', s', Ev.ret rfl (Ev.ret e1 (Ev.neg ff (Ev.step (fun k => rfl) h1))), h2, h3.mono (by simp)⟩
theorem heldOf_l1 {H : List S60} (h : gH H) : ∀ (k : Nat) (S : List Int), k ≤ H.length → okS H S → (sumTo H.length (wv H S) ≤ 10000 ∨ ∀ j, k ≤ j → S.getD j 0 = 0) → ∃ S', Ev (fun q => spec_HeldOf.l1 q H S ((k : Int) - 1)) (H, S') ∧ okS H S' ∧ sumTo H.length (wv H S') ≤ 10000 := by
  intro k
  have h9 := h.2.1
  induction k with
  | zero =>
    intro S hk hS hz
    refine ⟨S, Ev.via (Ev.some' rfl) (fun q => rfl), hS, ?_⟩
    rcases hz with hz | hz
    · exact hz
    · rw [sumTo_congr _ (fun _ => 0) _ (fun i hi => by unfold wv; rw [hz i (by omega), Int.mul_zero])]
      have := sumTo_le (fun _ => (0 : Int)) 0 H.length (fun i _ => Int.le_refl _)
      omega
  | succ k ih =>
    have e1 : (((k + 1 : Nat) : Int) - 1) = (k : Int) := by omega
    have hin : ∀ (m : Nat) (S : List Int), okS H S → S.getD k 0 ≤ m → (sumTo H.length (wv H S) ≤ 10000 ∨ ∀ j, k + 1 ≤ j → S.getD j 0 = 0) → k < H.length → ∃ S', Ev (fun q => spec_HeldOf.l2 q H S (k : Int)) (H, S') ∧ okS H S' ∧ sumTo H.length (wv H S') ≤ 10000 := by
      intro m
      induction m with
      | zero =>
        intro S hS hm hz hk
        have h0 := (hS.2 k hk).1
        obtain ⟨S', g1, g2⟩ := ih S (by omega) hS (by
          rcases hz with hz | hz
          · exact .inl hz
          · refine .inr (fun j hj => ?_)
            by_cases e : j = k
            · rw [e]; omega
            · exact hz j (by omega))
        refine ⟨S', Ev.step (fun q => rfl) (Ev.bind (specWorth_ev h hS) ?_), g2⟩
        by_cases c : sumTo H.length (wv H S) > 10000
        · refine Ev.pos c (Ev.pos (by omega) (Ev.pos (by rw [hS.1]; omega) ?_))
          rw [rd_nat]
          refine Ev.neg (by omega) ?_
          rw [w64 (by omega) (by omega)]
          exact g1
        · refine Ev.neg c ?_
          rw [w64 (by omega) (by omega)]
          exact g1
      | succ m ihm =>
        intro S hS hm hz hk
        have h0 := hS.2 k hk
        have hb := gH_at h k hk
        by_cases c : sumTo H.length (wv H S) > 10000
        · by_cases c2 : S.getD k 0 > 0
          · have hS2 : okS H (S.set k (S.getD k 0 - 1)) := by
              refine ⟨by rw [List.length_set]; exact hS.1, fun i hi => ?_⟩
              have hi2 := hS.2 i hi
              rw [List.getD_eq_getElem?_getD, List.getElem?_set]
              by_cases e : k = i
              · subst e
                rw [if_pos rfl, if_pos (by rw [hS.1]; exact hk)]
                simp only [Option.getD_some]
                omega
              · rw [if_neg e, ← List.getD_eq_getElem?_getD]
                exact hi2
            obtain ⟨S', g1, g2⟩ := ihm _ hS2 (by
              rw [List.getD_eq_getElem?_getD, List.getElem?_set, if_pos rfl, if_pos (by rw [hS.1]; exact hk)]
              simp only [Option.getD_some]
              omega) (by
              rcases hz with hz | hz
              · omega
              · refine .inr (fun j hj => ?_)
                rw [List.getD_eq_getElem?_getD, List.getElem?_set, if_neg (by omega), ← List.getD_eq_getElem?_getD]
                exact hz j hj) hk
            refine ⟨S', Ev.step (fun q => rfl) (Ev.bind (specWorth_ev h hS) (Ev.pos c (Ev.pos (by omega) (Ev.pos (by rw [hS.1]; omega) ?_)))), g2⟩
            rw [rd_nat]
            refine Ev.pos c2 ?_
            rw [Int.toNat_natCast, w64 (by omega) (by omega)]
            exact g1
          · obtain ⟨S', g1, g2⟩ := ih S (by omega) hS (by
              rcases hz with hz | hz
              · exact .inl hz
              · refine .inr (fun j hj => ?_)
                by_cases e : j = k
                · rw [e]; omega
                · exact hz j (by omega))
            refine ⟨S', Ev.step (fun q => rfl) (Ev.bind (specWorth_ev h hS) (Ev.pos c (Ev.pos (by omega) (Ev.pos (by rw [hS.1]; omega) ?_)))), g2⟩
            rw [rd_nat]
            refine Ev.neg c2 ?_
            rw [w64 (by omega) (by omega)]
            exact g1
        · obtain ⟨S', g1, g2⟩ := ih S (by omega) hS (.inl (by omega))
          refine ⟨S', Ev.step (fun q => rfl) (Ev.bind (specWorth_ev h hS) (Ev.neg c ?_)), g2⟩
          rw [w64 (by omega) (by omega)]
          exact g1
    intro S hk hS hz
    have h0 := hS.2 k (by omega)
    obtain ⟨S', g1, g2⟩ := hin (S.getD k 0).toNat S hS (by omega) hz (by omega)
    rw [e1]
    exact ⟨S', Ev.via g1 (fun q => rfl), g2⟩
theorem heldOf_l0 (c : List Int) {H : List S60} (h : gH H) : ∀ (d : Nat) (S : List Int) (i s N : Int), S.length + d = H.length → (∀ j, j < S.length → 0 ≤ S.getD j 0 ∧ S.getD j 0 ≤ (H.getD j z60).f1) → Srd c i s N → N + 10 * d ≤ 1000000 →
    ∃ S', Ev (fun k => spec_HeldOf.l0 k H S (S.length : Int) c i s) (H, S') ∧ okS H S' ∧ sumTo H.length (wv H S') ≤ 10000 := by
  intro d
  have h9 := h.2.1
  induction d with
  | zero =>
    intro S i s N hl hb hS hN
    obtain ⟨S', g1, g2⟩ := heldOf_l1 h H.length S (Nat.le_refl _) ⟨by omega, fun i hi => hb i (by omega)⟩ (.inr (fun j hj => by rw [List.getD_eq_getElem?_getD, List.getElem?_eq_none (by omega)]; rfl))
    refine ⟨S', Ev.step (fun k => rfl) (Ev.neg (by omega) ?_), g2⟩
    rw [w64 (by omega) (by omega)]
    exact g1
  | succ d ih =>
    intro S i s N hl hb hS hN
    have hc := gH_at h S.length (by omega)
    obtain ⟨x, i2, s2, e2, l2, u2, S2⟩ := next_ok ((H.getD S.length z60).f1 + 1) hS (by omega) (by omega) (by omega)
    obtain ⟨S', g1, g2⟩ := ih (S ++ [x]) i2 s2 _ (by simp; omega) (by
      intro j hj
      rw [List.length_append, List.length_singleton] at hj
      by_cases e : j = S.length
      · subst e
        have e3 := getD_mid S x [] 0
        rw [Int.toNat_natCast] at e3
        rw [e3]
        omega
      · have := hb j (by omega)
        rw [List.getD_eq_getElem?_getD, List.getElem?_append_left (by omega), ← List.getD_eq_getElem?_getD]
        exact this) S2 (by omega)
    refine ⟨S', Ev.step (fun k => rfl) (Ev.pos (by omega) (Ev.pos (by omega) ?_)), g2⟩
    rw [rdc_nat, w64 (x := (H.getD S.length z60).f1 + 1) (by omega) (by omega)]
    refine Ev.ret e2 (Ev.pos (by omega) ?_)
    rw [w64 (by omega) (by omega), ← len_snoc S x]
    exact g1
theorem heldOf_ok (l : List Int) (h : ∀ x ∈ l, (Lit.int .u8 x).wf = true) : ∃ H S, Ev (fun k => spec_HeldOf.f k l) (H, S) ∧ gH H ∧ okS H S ∧ sumTo H.length (wv H S) ≤ 10000 := by
  obtain ⟨s, hs, S0⟩ := source_ok l h
  obtain ⟨H, i', s', h1, h2, h3⟩ := held_ok l s S0
  obtain ⟨S, g1, g2⟩ := heldOf_l0 l h2 H.length [] i' s' _ (by simp) (by simp) h3 (by have := h2.2.1; omega)
  refine ⟨H, S, ?_, h2, g2⟩
  unfold spec_HeldOf.f
  exact Ev.ret hs (Ev.bind h1 g1)
/-! ### what the program makes is right and least -/
theorem up_le (row : List Int) (v : Int) (a : Nat) : ∀ n m : Nat, m ≤ n → impl_fewest.up row v a n ≤ (m : Int) + rd row ((a : Int) - (m : Int) * v) := by
  intro n
  induction n with
  | zero => intro m h; obtain rfl : m = 0 := by omega
            rw [impl_fewest.up]; simp
  | succ n ih =>
    intro m h
    rw [impl_fewest.up]
    unfold mn
    by_cases e : m = n + 1
    · subst e
      split <;> omega
    · have := ih m (by omega)
      split <;> omega
section
variable (l : List S60) (n : Nat) (hl : l.length ≤ 12) (hc : ∀ c ∈ l, (1 ≤ c.f0 ∧ c.f0 ≤ 100000) ∧ 0 ≤ c.f1 ∧ c.f1 ≤ 60)
include hl hc
theorem row_next (k : Nat) (hk : k < l.length) (due : Nat) (hd : due ≤ n) : rd ((iT l n).getD (k + 1) []) (due : Int) = impl_fewest.up ((iT l n).getD k []) (l.getD k z60).f0 due (Nat.min (l.getD k z60).f1.toNat (due / (l.getD k z60).f0.toNat)) := by
  have hlen := tab_lens l n hl hc k (by omega)
  rw [itab_at _ _ _ (by omega), take_at l k hk, icur_snoc, itab_at _ _ _ (by omega)] at *
  rw [inxt_at _ _ _ (by rw [hlen.1]; omega)]
  rfl
theorem least (S : List Int) (hS : ∀ i, i < l.length → 0 ≤ S.getD i 0 ∧ S.getD i 0 ≤ (l.getD i z60).f1) : ∀ (k : Nat) (due : Nat), k ≤ l.length → due ≤ n → sumTo k (wv l S) = due → rd ((iT l n).getD k []) (due : Int) ≤ sumTo k (fun i => S.getD i 0) := by
  intro k
  induction k with
  | zero =>
    intro due _ _ h
    rw [sumTo] at h
    rw [← h, sumTo]
    rw [itab_at _ _ _ (by omega)]
    show rd (impl_fewest.first (n : Int)) 0 ≤ 0
    simp [impl_fewest.first, rd]
  | succ k ih =>
    intro due hk hd h
    have hcc := mem_at l hc k (by omega)
    have hs := hS k (by omega)
    rw [sumTo] at h
    have hw0 : 0 ≤ sumTo k (wv l S) := sumTo_nonneg _ _ (fun i hi => by
      have h1 := mem_at l hc i (by omega)
      have h2 := hS i (by omega)
      exact Int.mul_nonneg (by omega) (by omega))
    obtain ⟨m, hm⟩ := Int.eq_ofNat_of_zero_le hs.1
    have hp : wv l S k = (m : Int) * (l.getD k z60).f0 := by unfold wv; rw [hm, Int.mul_comm]
    have hp0 : 0 ≤ (m : Int) * (l.getD k z60).f0 := Int.mul_nonneg (by omega) (by omega)
    rw [hp] at h
    have hcnt := (impl_fewest.cnt (a := due) (n := m) hcc.1.1 hcc.2.1).2 ⟨by omega, by omega⟩
    have h1 := up_le ((iT l n).getD k []) (l.getD k z60).f0 due _ m hcnt
    rw [← row_next l n hl hc k (by omega) due hd] at h1
    obtain ⟨j, hj⟩ : ∃ j : Nat, (due : Int) - (m : Int) * (l.getD k z60).f0 = (j : Int) := ⟨((due : Int) - (m : Int) * (l.getD k z60).f0).toNat, by omega⟩
    rw [hj] at h1
    have h2 := ih j (by omega) (by omega) (by omega)
    rw [sumTo]
    simp only [hm]
    omega
theorem walk_more : ∀ (k : Nat) (due : Nat) (out o : List Int), k ≤ l.length → due ≤ n → rd ((iT l n).getD k []) (due : Int) < 721 → out.length = l.length → impl_Change.walk (iT l n) l k (due : Int) out = some o →
    (∀ i, k ≤ i → o.getD i 0 = out.getD i 0) ∧ (∀ i, i < k → 0 ≤ o.getD i 0 ∧ o.getD i 0 ≤ (l.getD i z60).f1) ∧ sumTo k (wv l o) = due ∧ sumTo k (fun i => o.getD i 0) = rd ((iT l n).getD k []) (due : Int) := by
  intro k
  induction k with
  | zero =>
    intro due out o _ hd h ho hw
    rw [impl_Change.walk] at hw
    obtain rfl := Option.some.inj hw
    rw [itab_at _ _ _ (by omega)] at h ⊢
    have h0 : due = 0 ∧ rd (impl_fewest.first (n : Int)) (due : Int) = 0 := by
      have h2 : rd (impl_fewest.first (n : Int)) (due : Int) < 721 := h
      rw [rd_nat] at h2 ⊢
      unfold impl_fewest.first at h2 ⊢
      rw [Int.toNat_natCast] at h2 ⊢
      cases due with
      | zero => exact ⟨rfl, rfl⟩
      | succ d =>
        rw [List.getD_cons_succ, List.getD_eq_getElem?_getD, List.getElem?_replicate, if_pos (by omega)] at h2
        exact absurd h2 (by decide)
    refine ⟨fun i _ => rfl, fun i hi => absurd hi (Nat.not_lt_zero i), by rw [h0.1]; rfl, ?_⟩
    show (0 : Int) = rd (impl_fewest.first (n : Int)) (due : Int)
    exact h0.2.symm
  | succ k ih =>
    intro due out o hk hd h ho hw
    obtain ⟨N, h1, h2, h3, h4, _⟩ := step_ok l n hl hc k (by omega) due hd h
    have hcc := mem_at l hc k (by omega)
    have hra := tab_rel l n hl hc k (by omega)
    rw [impl_Change.walk, rdc_nat, h1, Option.bind_some] at hw
    obtain ⟨p, hp⟩ : ∃ p : Int, (N : Int) * (l.getD k z60).f0 = p := ⟨_, rfl⟩
    have hp0 : 0 ≤ p := by rw [← hp]; exact Int.mul_nonneg (by omega) (by omega)
    obtain ⟨j, hj⟩ : ∃ j : Nat, (due : Int) - p = (j : Int) := ⟨((due : Int) - p).toNat, by omega⟩
    rw [hp, hj] at hw h4
    rw [hp] at h3
    obtain ⟨g1, g2, g3, g4⟩ := ih j (out.set k (N : Int)) o (by omega) (by omega) (by omega) (by rw [List.length_set]; exact ho) hw
    have hok : o.getD k 0 = (N : Int) := by
      rw [g1 k (Nat.le_refl _), List.getD_eq_getElem?_getD, List.getElem?_set, if_pos rfl, if_pos (by omega)]
      rfl
    refine ⟨fun i hi => ?_, fun i hi => ?_, ?_, ?_⟩
    · rw [g1 i (by omega), List.getD_eq_getElem?_getD, List.getElem?_set, if_neg (by omega), ← List.getD_eq_getElem?_getD]
    · by_cases e : i = k
      · rw [e, hok]; omega
      · exact g2 i (by omega)
    · rw [sumTo, g3]
      unfold wv
      rw [hok, Int.mul_comm, hp]
      omega
    · rw [sumTo, g4]
      simp only [hok]
      omega
end
theorem change_good {H : List S60} (h : gH H) {S : List Int} (hS : okS H S) (hW : sumTo H.length (wv H S) ≤ 10000) :
    ∃ o, Ev (fun k => impl_Change.f k (sumTo H.length (wv H S)) H) (o, 0) ∧ okS H o ∧ sumTo H.length (wv H o) = sumTo H.length (wv H S) ∧ sumTo H.length (fun i => o.getD i 0) ≤ sumTo H.length (fun i => S.getD i 0) := by
  have h9 := h.2.1
  have hb := h.1
  have im := implHeld_ev H (by omega)
  rw [hb] at im
  unfold heldB at hb
  rw [Bool.and_eq_true] at hb
  have hc := heldP_all H none hb.1
  have hl12 : H.length ≤ 12 := of_decide_eq_true hb.2
  have hw0 := (W_bd h hS H.length (Nat.le_refl _)).1
  obtain ⟨n, hn⟩ := Int.eq_ofNat_of_zero_le hw0
  rw [hn] at hW ⊢
  have hg : ∀ c ∈ H, 1 ≤ c.f0 ∧ c.f0 ≤ 100000 ∧ 0 ≤ c.f1 ∧ c.f1 ≤ 60 := fun c h => ⟨(hc c h).1.1, (hc c h).1.2, (hc c h).2⟩
  have ti : impl_fewest.f (n : Int) H = some (iT H n) := by unfold impl_fewest.f; rw [if_pos ⟨by omega, hW, hl12, hg⟩]
  have hle := least H n hl12 hc S hS.2 H.length n (Nat.le_refl _) (Nat.le_refl _) hn
  have hsum := sumTo_le (fun i => S.getD i 0) 5 H.length (fun i hi => by have h1 := hS.2 i hi; have h2 := gH_at h i hi; omega)
  obtain ⟨o, g1, g2, _⟩ := walk_ok H n hl12 hc (by omega) H.length n (List.replicate H.length 0) (Nat.le_refl _) (Nat.le_refl _) (by omega) (by simp)
  obtain ⟨_, w2, w3, w4⟩ := walk_more H n hl12 hc H.length n (List.replicate H.length 0) o (Nat.le_refl _) (Nat.le_refl _) (by omega) (by simp) g1
  refine ⟨o, ?_, ⟨g2, w2⟩, w3, by omega⟩
  unfold impl_Change.f
  exact Ev.pos (by omega) (Ev.bind im (Ev.pos rfl (Ev.pos ⟨by omega, hW⟩ (Ev.ret ti (Ev.neg (by omega) (Ev.ret g1 (Ev.some' rfl)))))))
theorem FnChange : laws_FnChange.Pure := by
  intro l m h hm
  refine Ev.rounds (?_ : Ev (fun k => laws_FnChange.f k l m) true)
  unfold laws_FnChange.f
  by_cases c1 : (l.length : Int) > 1048576
  · exact Ev.pos c1 (Ev.via (Ev.some' rfl) (fun k => rfl))
  refine Ev.neg c1 ?_
  by_cases c2 : (m.length : Int) > 1048576
  · rw [decide_eq_true c2]
    exact Ev.via (Ev.some' rfl) (fun k => rfl)
  rw [decide_eq_false c2]
  obtain ⟨H, S, hd, hH, hS, hW⟩ := heldOf_ok l h.2
  obtain ⟨o, g1, g2, g3, g4⟩ := change_good hH hS hW
  have h9 := hH.2.1
  have im := implHeld_ev H (by omega)
  rw [hH.1] at im
  have hlo : o.length ≤ 12 := by rw [g2.1]; omega
  have so := lawSum_ev hlo (fun i hi => by have h1 := g2.2 i (by rw [← g2.1]; exact hi); have h2 := gH_at hH i (by rw [← g2.1]; exact hi); omega)
  have ss := lawSum_ev (S := S) (by rw [hS.1]; omega) (fun i hi => by have h1 := hS.2 i (by rw [← hS.1]; exact hi); have h2 := gH_at hH i (by rw [← hS.1]; exact hi); omega)
  have wo := lawWorth_ev hH g2
  rw [g3] at wo
  rw [g2.1] at so
  rw [hS.1] at ss
  refine Ev.step (fun k => rfl) (Ev.bind hd (Ev.bind (lawWorth_ev hH hS) (Ev.bind g1 (Ev.bind im (Ev.pos rfl (Ev.pos rfl (Ev.pos (by rw [g2.1]) (Ev.bind wo (Ev.pos rfl (Ev.bind so (Ev.bind ss ?_)))))))))))
  rw [decide_eq_false (show ¬ sumTo H.length (fun j => o.getD j 0) > sumTo H.length (fun j => S.getD j 0) by omega)]
  refine Ev.step (fun k => rfl) ?_
  have hloop : ∀ d i, i + d = o.length → Ev (fun k => laws_FnChange.l0 k m H o (i : Int)) true := by
    intro d
    induction d with
    | zero =>
      intro i hi
      obtain ⟨v, e1, v0, v1⟩ := at_ok (c := m) (fun x hx => bounds_u8 (hm.2 x hx)) 0 200 (by omega) (by omega) (by omega)
      obtain ⟨o2, c0, q0, q1, q2⟩ := change_both v H (by omega)
      refine Ev.step (fun k => rfl) (Ev.neg (by omega) (Ev.ret e1 (Ev.bind q1 (Ev.bind q2 (Ev.pos rfl (Ev.bind (sameInts_ev o2 (by omega)) (Ev.some' rfl)))))))
    | succ d ih =>
      intro i hi
      have h1 := g2.2 i (by rw [← g2.1]; omega)
      have hol := g2.1
      refine Ev.step (fun k => rfl) (Ev.pos (by omega) (Ev.pos (by omega) ?_))
      rw [rd_nat, rdc_nat]
      refine Ev.neg (by omega) (Ev.pos (by omega) (Ev.neg (by omega) ?_))
      rw [w64n (by omega)]
      exact ih (i + 1) (by omega)
  exact hloop o.length 0 (by omega)

end Go.Proofs.Ythlphmnplfnmnaa.Pure
