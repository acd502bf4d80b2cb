/- The program's OrderFor and the reference's answer alike for every need: the law's plain statement, with no condition. -/
import Derived.Test.YthhdcjdlcfbkdaaXFnExactOrderForx1
import Derived.Test.YthhdcjdlcfbkdaaAx
import Derived.Test.YthhdcjdlcfbkdaaIdx
namespace Go.Proofs.Ythhdcjdlcfbkdaa.Pure
open Go.RowKit Go.Proofs.Ythhdcjdlcfbkdaa.XFnExactOrderFor Go.Proofs.YthhdcjdlcfbkdaaW.PrintWords Go.Proofs.YthhdcjdlcfbkdaaW.PrintLast
open Go.Proofs.YthhdcjdlcfbkdaaW.Ax Go.Proofs.YthhdcjdlcfbkdaaW.Idx
set_option linter.unusedVariables false
set_option linter.unusedSimpArgs false
theorem l01In_ev (a b c : Int) : spec_l01In.f a b c = some (decide (b ≤ a ∧ a ≤ c)) := by
  unfold spec_l01In.f
  by_cases h : a ≥ b
  · rw [if_pos h]; congr 1; rw [decide_eq_decide]; omega
  · rw [if_neg h]; congr 1; symm; rw [decide_eq_false_iff_not]; omega
theorem iteAnd (c x : Bool) : (if c = true then some x else some false) = some (c && x) := by cases c <;> rfl
def needB (a b c d e f : Int) : Bool := decide (0 ≤ a ∧ a ≤ 100000) && (decide (0 ≤ b ∧ b ≤ 100000) && (decide (0 ≤ c ∧ c ≤ 100000) && (decide (1 ≤ d ∧ d ≤ 100000) && (decide (0 ≤ e ∧ e ≤ 100000) && decide (0 ≤ f ∧ f ≤ 100000)))))
theorem specNeed (a b c d e f : Int) : spec_NeedOK.f a b c d e f = some (needB a b c d e f) := by
  unfold spec_NeedOK.f needB
  simp only [l01In_ev, Option.bind_some, iteAnd]
theorem needEq (a b c d e f : Int) : impl_NeedOK.f a b c d e f = some (needB a b c d e f) := by
  unfold impl_NeedOK.f impl_areFrom.f needB
  simp only [Option.bind_some, iteAnd, List.all_cons, List.all_nil, Bool.and_true]
  congr 1
  rw [Bool.eq_iff_iff]
  simp only [Bool.and_eq_true, decide_eq_true_eq]
  omega
theorem needB_iff (a b c d e f : Int) : needB a b c d e f = true ↔ (0 ≤ a ∧ a ≤ 100000) ∧ (0 ≤ b ∧ b ≤ 100000) ∧ (0 ≤ c ∧ c ≤ 100000) ∧ (1 ≤ d ∧ d ≤ 100000) ∧ (0 ≤ e ∧ e ≤ 100000) ∧ (0 ≤ f ∧ f ≤ 100000) := by
  unfold needB
  simp only [Bool.and_eq_true, decide_eq_true_eq]
/-- The answer, with the packs p wanted and the packs r that have room. -/
def orderV (L H O P M S p r : Int) : Int × Bool × Int :=
  if needB L H O P M S = true then (if L ≤ H + O then (0, false, 0) else if p ≤ r then (p * P, false, 0) else if r * P < max M 1 then (0, false, 14) else (r * P, true, 0)) else (0, false, 1)
theorem order_bounds {L H O P M S : Int} (h : needB L H O P M S = true) (hL : ¬ L ≤ H + O) : ∃ W p r : Int, W = max (L - (H + O)) M ∧ p = (W + P - 1) / P ∧ r = max 0 (S - (H + O)) / P ∧
    1 ≤ p ∧ 0 ≤ r ∧ W ≤ p * P ∧ p * P ≤ W + P - 1 ∧ 0 ≤ r * P ∧ r * P ≤ max 0 (S - (H + O)) ∧ max 0 (S - (H + O)) < r * P + P ∧ p ≤ 300000 ∧ r ≤ 100000 ∧ 1 ≤ W ∧ W ≤ 100000 := by
  rw [needB_iff] at h
  refine ⟨_, _, _, rfl, rfl, rfl, ?_⟩
  generalize hW : max (L - (H + O)) M = W
  generalize hR : max 0 (S - (H + O)) = R
  have hW1 : 1 ≤ W := by omega
  have hW2 : W ≤ 100000 := by omega
  have hR1 : 0 ≤ R := by omega
  have hR2 : R ≤ 100000 := by omega
  have hP : 0 < P := by omega
  have e1 := Int.mul_ediv_add_emod (W + P - 1) P
  have e2 := Int.emod_nonneg (W + P - 1) (show P ≠ 0 by omega)
  have e3 := Int.emod_lt_of_pos (W + P - 1) hP
  have f1 := Int.mul_ediv_add_emod R P
  have f2 := Int.emod_nonneg R (show P ≠ 0 by omega)
  have f3 := Int.emod_lt_of_pos R hP
  have g1 : 1 ≤ (W + P - 1) / P := (Int.le_ediv_iff_mul_le hP).2 (by omega)
  have g2 : 0 ≤ R / P := Int.ediv_nonneg hR1 (by omega)
  have g3 : (W + P - 1) / P ≤ W + P - 1 := Int.ediv_le_self _ (by omega)
  have g4 : R / P ≤ R := Int.ediv_le_self _ hR1
  rw [Int.mul_comm P] at e1 f1
  have g5 : 0 ≤ R / P * P := Int.mul_nonneg g2 (by omega)
  refine ⟨g1, g2, ?_, ?_, ?_, ?_, ?_, ?_, ?_, ?_, ?_⟩ <;> omega
theorem mx_max (a b : Int) : mx a b = max a b := by unfold mx; omega
theorem specOrder (L H O P M S : Int) : spec_OrderFor.f L H O P M S = some (orderV L H O P M S ((max (L - (H + O)) M + P - 1) / P) (max 0 (S - (H + O)) / P)) := by
  unfold spec_OrderFor.f orderV
  simp only [specNeed, Option.bind_some]
  by_cases h : needB L H O P M S = true
  · rw [if_pos h, if_pos h]
    have hb := (needB_iff L H O P M S).1 h
    rw [w64 (x := H + O) (by omega) (by omega)]
    by_cases hL : L ≤ H + O
    · rw [if_pos hL, if_pos hL]
    · rw [if_neg hL, if_neg hL, if_neg (show ¬ P = 0 by omega)]
      obtain ⟨W, p, r, hW, hp, hr, b⟩ := order_bounds h hL
      rw [w64 (x := L - (H + O)) (by omega) (by omega), w64 (x := S - (H + O)) (by omega) (by omega), mx_max, mx_max, mx_max, ← hW]
      rw [w64 (x := W + P) (by omega) (by omega), w64 (x := W + P - 1) (by omega) (by omega), Int.tdiv_eq_ediv_of_nonneg (show 0 ≤ W + P - 1 by omega), Int.tdiv_eq_ediv_of_nonneg (show 0 ≤ max 0 (S - (H + O)) by omega), ← hp, ← hr]
      rw [w64 (x := p) (by omega) (by omega), w64 (x := r) (by omega) (by omega), w64 (x := p * P) (by omega) (by omega), w64 (x := r * P) (by omega) (by omega)]
      by_cases c : p ≤ r
      · rw [if_pos c, if_pos c]
      · rw [if_neg c, if_neg c]
        by_cases d : r * P < max M 1
        · rw [if_pos d, if_pos d]
        · rw [if_neg d, if_neg d]
  · rw [if_neg h, if_neg h]
theorem implOrder (L H O P M S : Int) : impl_OrderFor.f L H O P M S = some (orderV L H O P M S ((max (L - (H + O)) M + P - 1) / P) (max 0 (S - (H + O)) / P)) := by
  unfold impl_OrderFor.f orderV
  simp only [needEq, Option.bind_some]
  by_cases h : needB L H O P M S = true
  · rw [if_pos h, if_pos h]
    have hb := (needB_iff L H O P M S).1 h
    rw [w64 (x := H + O) (by omega) (by omega)]
    by_cases hL : L ≤ H + O
    · rw [if_pos hL, if_pos hL]
    · rw [if_neg hL, if_neg hL, if_neg (show ¬ P = 0 by omega)]
      obtain ⟨W, p, r, hW, hp, hr, b⟩ := order_bounds h hL
      rw [w64 (x := L - (H + O)) (by omega) (by omega), w64 (x := S - (H + O)) (by omega) (by omega), mx_max, mx_max, ← hW]
      rw [w64 (x := W + P) (by omega) (by omega), w64 (x := W + P - 1) (by omega) (by omega), Int.tdiv_eq_ediv_of_nonneg (show 0 ≤ W + P - 1 by omega), Int.tdiv_eq_ediv_of_nonneg (show 0 ≤ max 0 (S - (H + O)) by omega), ← hp, ← hr]
      rw [w64 (x := p) (by omega) (by omega), w64 (x := r) (by omega) (by omega), w64 (x := p * P) (by omega) (by omega), w64 (x := r * P) (by omega) (by omega), w64 (x := H + O + p * P) (by omega) (by omega)]
      have hpr : p ≤ r ↔ p * P ≤ max 0 (S - (H + O)) := by rw [hr]; exact Int.le_ediv_iff_mul_le (by omega)
      by_cases c : p ≤ r
      · rw [if_pos c, if_pos (by omega)]
      · rw [if_neg c, if_neg (by omega)]
        by_cases d : r * P = 0
        · rw [if_pos d, if_pos (by omega)]
        · rw [if_neg d]
          by_cases d2 : r * P < M
          · rw [if_pos d2, if_pos (by omega)]
          · rw [if_neg d2, if_neg (by omega)]
  · rw [if_neg h, if_neg h]
theorem FnExactOrderFor : laws_FnExactOrderFor.Pure := by
  intro a b c d e f _ _ _ _ _ _
  unfold laws_FnExactOrderFor.f laws_toNeed.f
  simp only [Option.bind_some, implOrder, specOrder]
  simp

end Go.Proofs.Ythhdcjdlcfbkdaa.Pure
