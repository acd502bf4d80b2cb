/- The program's NeedOK and the reference's answer alike for every need: the law's plain statement, with no condition. -/
import Derived.Test.YthhdcjdlcfbkdaaXFnExactNeedOKx1
import Derived.Test.YthhdcjdlcfbkdaaAx
import Derived.Test.YthhdcjdlcfbkdaaIdx
namespace Go.Proofs.Ythhdcjdlcfbkdaa.Pure
open Go.RowKit Go.Proofs.Ythhdcjdlcfbkdaa.XFnExactNeedOK Go.Proofs.YthhdcjdlcfbkdaaW.PrintWords Go.Proofs.YthhdcjdlcfbkdaaW.PrintLast
open Go.Proofs.YthhdcjdlcfbkdaaW.Ax Go.Proofs.YthhdcjdlcfbkdaaW.Idx
set_option linter.unusedVariables false
set_option linter.unusedSimpArgs false
theorem l01In_ev (a b c : Int) : spec_l01In.f a b c = some (decide (b ≤ a ∧ a ≤ c)) := by
  unfold spec_l01In.f
  by_cases h : a ≥ b
  · rw [if_pos h]; congr 1; rw [decide_eq_decide]; omega
  · rw [if_neg h]; congr 1; symm; rw [decide_eq_false_iff_not]; omega
theorem iteAnd (c x : Bool) : (if c = true then some x else some false) = some (c && x) := by cases c <;> rfl
def needB (a b c d e f : Int) : Bool := decide (0 ≤ a ∧ a ≤ 100000) && (decide (0 ≤ b ∧ b ≤ 100000) && (decide (0 ≤ c ∧ c ≤ 100000) && (decide (1 ≤ d ∧ d ≤ 100000) && (decide (0 ≤ e ∧ e ≤ 100000) && decide (0 ≤ f ∧ f ≤ 100000)))))
theorem specNeed (a b c d e f : Int) : spec_NeedOK.f a b c d e f = some (needB a b c d e f) := by
  unfold spec_NeedOK.f needB
  simp only [l01In_ev, Option.bind_some, iteAnd]
theorem needEq (a b c d e f : Int) : impl_NeedOK.f a b c d e f = some (needB a b c d e f) := by
  unfold impl_NeedOK.f impl_areFrom.f needB
  simp only [Option.bind_some, iteAnd, List.all_cons, List.all_nil, Bool.and_true]
  congr 1
  rw [Bool.eq_iff_iff]
  simp only [Bool.and_eq_true, decide_eq_true_eq]
  omega
theorem FnExactNeedOK : laws_FnExactNeedOK.Pure := by
  intro a b c d e f _ _ _ _ _ _
  unfold laws_FnExactNeedOK.f laws_toNeed.f
  simp only [Option.bind_some, needEq, specNeed]
  simp

end Go.Proofs.Ythhdcjdlcfbkdaa.Pure
