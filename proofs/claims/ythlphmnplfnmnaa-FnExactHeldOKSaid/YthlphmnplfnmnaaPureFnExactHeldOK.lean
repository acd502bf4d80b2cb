/- The program's HeldOK and the reference's answer alike for all coins and change none: the law's plain statement, with no condition. -/
import Derived.Test.YthlphmnplfnmnaaXFnExactHeldOKx4
import Derived.Test.YthlphmnplfnmnaaAx
import Derived.Test.YthlphmnplfnmnaaIdx
namespace Go.Proofs.Ythlphmnplfnmnaa.Pure
open Go.RowKit Go.Proofs.Ythlphmnplfnmnaa.XFnExactHeldOK Go.Proofs.YthlphmnplfnmnaaW.PrintWords Go.Proofs.YthlphmnplfnmnaaW.PrintLast
open Go.Proofs.YthlphmnplfnmnaaW.Ax Go.Proofs.YthlphmnplfnmnaaW.Idx
set_option linter.unusedVariables false
set_option linter.unusedSimpArgs false
theorem within_ev (a b c : Int) : impl_within.f a b c = some (decide (b ≤ a ∧ a ≤ c)) := by
  unfold impl_within.f
  by_cases h : a ≥ b
  · rw [if_pos h]; congr 1; rw [decide_eq_decide]; omega
  · rw [if_neg h]; congr 1; symm; rw [decide_eq_false_iff_not]; omega
theorem l01In_ev (a b c : Int) : spec_l01In.f a b c = some (decide (b ≤ a ∧ a ≤ c)) := by
  unfold spec_l01In.f
  by_cases h : a ≥ b
  · rw [if_pos h]; congr 1; rw [decide_eq_decide]; omega
  · rw [if_neg h]; congr 1; symm; rw [decide_eq_false_iff_not]; omega
theorem rd_Coins_mid (p : List S60) (x : S60) (r : List S60) : rd_T60 (p ++ x :: r) (p.length : Int) = x := getD_mid p x r z60
theorem rd_Coins_nat (l : List S60) (i : Nat) : rd_T60 l (i : Int) = l.getD i z60 := by
  unfold rd_T60
  rw [Int.toNat_natCast]
/-- Coins in their bounds, their values rising. -/
def heldP : Option S60 → List S60 → Bool
  | _, [] => true
  | o, x :: a => (decide (1 ≤ x.f0 ∧ x.f0 ≤ 100000) && decide (0 ≤ x.f1 ∧ x.f1 ≤ 60)) && ((match o with | none => true | some y => decide (y.f0 < x.f0)) && heldP (some x) a)
def heldB (l : List S60) : Bool := heldP none l && decide (l.length ≤ 12)
theorem rdc_prev (q : List S60) (y : S60) (r : List S60) : rd_T60 ((q ++ [y]) ++ r) (((q ++ [y]).length : Int) - 1) = y := by
  rw [len_snoc, show (q.length : Int) + 1 - 1 = (q.length : Int) by omega, ← snoc]
  exact rd_Coins_mid q y r
theorem specHeld_l0 : ∀ (a p : List S60), (p ++ a).length < 4611686018427387904 →
    Ev (fun k => spec_HeldOK.l0 k (p ++ a) (p.length : Int)) (heldP p.getLast? a) := by
  intro a
  induction a with
  | nil => intro p hl; exact Ev.step (fun k => rfl) (Ev.neg (len_end p) (Ev.some' rfl))
  | cons x a ih =>
    intro p hl
    have hl' := hl
    rw [List.length_append, List.length_cons] at hl'
    have hnext := ih (p ++ [x]) (by rw [← snoc]; exact hl)
    rw [← snoc, len_snoc, List.getLast?_concat] at hnext
    refine Ev.step (fun k => rfl) (Ev.pos (len_lt p x a) (Ev.pos (by omega) (Ev.ret (l01In_ev _ _ _) ?_)))
    rw [rd_Coins_mid p x a]
    by_cases h1 : 1 ≤ x.f0 ∧ x.f0 ≤ 100000
    · refine Ev.pos (by simpa using h1) (Ev.ret (l01In_ev _ _ _) ?_)
      by_cases h2 : 0 ≤ x.f1 ∧ x.f1 ≤ 60
      · refine Ev.pos (by simpa using h2) ?_
        rcases List.eq_nil_or_concat p with rfl | ⟨q, y, rfl⟩
        · refine Ev.neg (by simp) ?_
          rw [w64 (by simp) (by simp)]
          refine Ev.eq hnext ?_
          simp [heldP, h1, h2]
        · rw [List.concat_eq_append] at *
          have hlen : ((q ++ [y]).length : Int) = (q.length : Int) + 1 := len_snoc q y
          refine Ev.pos (by omega) ?_
          rw [w64 (x := ((q ++ [y]).length : Int) - 1) (by omega) (by omega), rdc_prev]
          refine Ev.pos (by omega) (Ev.pos (by simp only [List.length_append, List.length_cons, List.length_nil]; omega) ?_)
          by_cases hyx : x.f0 ≤ y.f0
          · refine Ev.pos hyx (Ev.some' ?_)
            simp [heldP, show ¬ y.f0 < x.f0 by omega]
          · refine Ev.neg hyx ?_
            rw [w64 (by omega) (by omega)]
            refine Ev.eq hnext ?_
            simp [heldP, h1, h2, show y.f0 < x.f0 by omega]
      · refine Ev.neg (by simpa using h2) (Ev.some' ?_)
        simp [heldP, h2]
    · refine Ev.neg (by simpa using h1) (Ev.some' ?_)
      simp [heldP, h1]
theorem implHeld_l0 : ∀ (a p : List S60), (p ++ a).length < 4611686018427387904 →
    Ev (fun k => impl_HeldOK.l0 k (p ++ a) (p ++ a) ((p ++ a).length : Int) (p.length : Int)) (heldP p.getLast? a && decide ((p ++ a).length ≤ 12)) := by
  intro a
  induction a with
  | nil =>
    intro p hl
    refine Ev.step (fun k => rfl) (Ev.neg (len_end p) (Ev.some' ?_))
    rw [heldP, Bool.true_and, decide_eq_decide]
    omega
  | cons x a ih =>
    intro p hl
    have hl' := hl
    rw [List.length_append, List.length_cons] at hl'
    have hnext := ih (p ++ [x]) (by rw [← snoc]; exact hl)
    rw [← snoc, len_snoc, List.getLast?_concat] at hnext
    refine Ev.step (fun k => rfl) (Ev.pos (len_lt p x a) (Ev.pos (by omega) (Ev.pos (len_lt p x a) (Ev.ret (within_ev _ _ _) ?_))))
    rw [rd_Coins_mid p x a]
    by_cases h1 : 1 ≤ x.f0 ∧ x.f0 ≤ 100000
    · refine Ev.pos (by simpa using h1) (Ev.ret (within_ev _ _ _) ?_)
      by_cases h2 : 0 ≤ x.f1 ∧ x.f1 ≤ 60
      · refine Ev.pos (by simpa using h2) ?_
        rcases List.eq_nil_or_concat p with rfl | ⟨q, y, rfl⟩
        · refine Ev.neg (by simp) ?_
          rw [w64 (by simp) (by simp)]
          refine Ev.eq hnext ?_
          simp [heldP, h1, h2]
        · rw [List.concat_eq_append] at *
          have hlen : ((q ++ [y]).length : Int) = (q.length : Int) + 1 := len_snoc q y
          refine Ev.pos (by omega) ?_
          rw [w64 (x := ((q ++ [y]).length : Int) - 1) (by omega) (by omega), rdc_prev]
          refine Ev.pos (by omega) (Ev.pos (by simp only [List.length_append, List.length_cons, List.length_nil]; omega) ?_)
          by_cases hyx : y.f0 ≥ x.f0
          · refine Ev.pos hyx (Ev.some' ?_)
            simp [heldP, show ¬ y.f0 < x.f0 by omega]
          · refine Ev.neg hyx ?_
            rw [w64 (by omega) (by omega)]
            refine Ev.eq hnext ?_
            simp [heldP, h1, h2, show y.f0 < x.f0 by omega]
      · refine Ev.neg (by simpa using h2) (Ev.some' ?_)
        simp [heldP, h2]
    · refine Ev.neg (by simpa using h1) (Ev.some' ?_)
      simp [heldP, h1]
theorem specHeld_ev (l : List S60) (hl : l.length < 4611686018427387904) : Ev (fun k => spec_HeldOK.f k l) (heldB l) := by
  unfold spec_HeldOK.f heldB
  by_cases c : l.length ≤ 12
  · exact Ev.neg (by omega) (Ev.eq (specHeld_l0 l [] hl) (by simp [c]))
  · exact Ev.pos (by omega) (Ev.some' (by simp [c]))
theorem implHeld_ev (l : List S60) (hl : l.length < 4611686018427387904) : Ev (fun k => impl_HeldOK.f k l) (heldB l) := by
  unfold impl_HeldOK.f heldB
  exact implHeld_l0 l [] hl
theorem rdl_Coins_mid (p : List S65) (x : S65) (r : List S65) : rd_T65 (p ++ x :: r) (p.length : Int) = x := getD_mid p x r z65
def toCoinsV (x : S65) : S60 := ⟨x.f0, x.f1⟩
theorem toCoins_ev (x : S65) : laws_toCoins.f x.f0 x.f1 = some (x.f0, x.f1) := rfl
theorem toCoinsS_l0 : ∀ (a p : List S65) (t : List S60), t.length = a.length → (p ++ a).length < 4611686018427387904 →
    Ev (fun k => laws_toCoinsS.l0 k (p ++ a) (p.map toCoinsV ++ t) (p.length : Int)) ((p ++ a).map toCoinsV) := by
  intro a
  induction a with
  | nil =>
    intro p t ht hl
    obtain rfl : t = [] := List.eq_nil_of_length_eq_zero ht
    exact Ev.step (fun k => rfl) (Ev.neg (len_end p) (Ev.some' (by simp)))
  | cons x a ih =>
    intro p t ht hl
    match t, ht with
    | y :: t, ht =>
      have hl' : (p ++ x :: a).length < 4611686018427387904 := hl
      rw [List.length_append, List.length_cons] at hl'
      refine Ev.step (fun k => rfl) (Ev.pos (len_lt p x a) (Ev.pos (by omega) ?_))
      rw [rdl_Coins_mid]
      refine Ev.ret (toCoins_ev x) (Ev.pos (by simp; omega) ?_)
      have hs : (p.map toCoinsV ++ y :: t).set (p.length : Int).toNat ⟨x.f0, x.f1⟩ = p.map toCoinsV ++ toCoinsV x :: t := by
        rw [show (p.length : Int) = ((p.map toCoinsV).length : Int) by simp]
        exact set_mid _ _ _ _
      rw [hs, w64 (by omega) (by omega), ← len_snoc p x, snoc p x a, snoc _ (toCoinsV x) t]
      rw [show p.map toCoinsV ++ [toCoinsV x] = (p ++ [x]).map toCoinsV by simp]
      exact ih (p ++ [x]) t (by simpa using ht) (by rw [← snoc]; exact hl)
theorem toCoinsS_ev (a : List S65) (hl : a.length ≤ 1048576) : Ev (fun k => laws_toCoinsS.f k a) (a.map toCoinsV) := by
  unfold laws_toCoinsS.f
  refine Ev.pos (by omega) (Ev.pos (by omega) ?_)
  rw [Int.toNat_natCast]
  exact toCoinsS_l0 a [] (List.replicate a.length z60) (by simp) (by simp; omega)
theorem eqCoins_ev (x : S60) : laws_eqCoins.f x.f0 x.f1 x.f0 x.f1 = some true := by
  unfold laws_eqCoins.f
  simp
theorem eqCoinsS_l0 : ∀ (a p : List S60), (p ++ a).length < 4611686018427387904 →
    Ev (fun k => laws_eqCoinsS.l0 k (p ++ a) (p ++ a) (p.length : Int)) true := by
  intro a
  induction a with
  | nil =>
    intro p hl
    exact Ev.step (fun k => rfl) (Ev.neg (len_end p) (Ev.some' rfl))
  | cons x a ih =>
    intro p hl
    have hl' : (p ++ x :: a).length < 4611686018427387904 := hl
    rw [List.length_append, List.length_cons] at hl'
    refine Ev.step (fun k => rfl) (Ev.pos (len_lt p x a) (Ev.pos (by omega) (Ev.pos (len_lt p x a) ?_)))
    rw [rd_Coins_mid]
    refine Ev.ret (eqCoins_ev x) (Ev.pos (by rfl) ?_)
    rw [w64 (by omega) (by omega), ← len_snoc p x, snoc p x a]
    exact ih (p ++ [x]) (by rw [← snoc]; exact hl)
theorem eqCoinsS_ev (a : List S60) (hl : a.length < 4611686018427387904) : Ev (fun k => laws_eqCoinsS.f k a a) true := by
  unfold laws_eqCoinsS.f
  exact Ev.pos (by rfl) (eqCoinsS_l0 a [] hl)
theorem szCoinsS_ev (l : List S65) (hl : l.length ≤ 9223372036854775807) : ∃ t, laws_szCoinsS.f l 1048576 = some t ∧ (t < 0 ∨ (¬ t < 0 ∧ l.length ≤ 1048576)) := by
  unfold laws_szCoinsS.f
  rw [w64 (by omega) (by omega)]
  by_cases h : (1048576 : Int) - (l.length : Int) < 0
  · rw [if_pos h]; exact ⟨_, rfl, .inl (by omega)⟩
  · rw [if_neg h]; exact ⟨_, rfl, .inr ⟨by omega, by omega⟩⟩
theorem FnExactHeldOK : laws_FnExactHeldOK.Pure := by
  intro l h
  refine Ev.rounds (?_ : Ev (fun k => laws_FnExactHeldOK.f k l) true)
  unfold laws_FnExactHeldOK.f
  obtain ⟨t, ht, c⟩ := szCoinsS_ev l h.1
  refine Ev.ret ht ?_
  rcases c with c | ⟨c, hl⟩
  · exact Ev.pos c (Ev.some' rfl)
  refine Ev.neg c ?_
  have tb := toCoinsS_ev l hl
  have sp := specHeld_ev (l.map toCoinsV) (by simp; omega)
  have im := implHeld_ev (l.map toCoinsV) (by simp; omega)
  have eq := eqCoinsS_ev (l.map toCoinsV) (by simp; omega)
  repeat' (first
    | exact Ev.some' rfl
    | with_reducible assumption
    | (with_reducible refine Ev.bind (by with_reducible assumption) ?_)
    | (with_reducible refine Ev.ret (by with_reducible assumption) ?_)
    | (refine Ev.pos (by first | with_reducible rfl | with_reducible assumption | omega | (simp; done) | (simp; omega)) ?_)
    | (refine Ev.neg (by first | with_reducible assumption | omega | (simp; done) | (simp; omega)) ?_)
    | (refine Ev.up1 ?_; simp only [laws_FnExactHeldOK.f]))

end Go.Proofs.Ythlphmnplfnmnaa.Pure
