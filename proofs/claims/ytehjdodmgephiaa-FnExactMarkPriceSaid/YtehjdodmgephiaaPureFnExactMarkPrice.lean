/- The program's MarkPrice and the reference's answer alike for all arguments: the law's plain statement, with no condition. -/
import Derived.Test.YtehjdodmgephiaaXFnExactMarkPricex1
import Derived.Test.YtehjdodmgephiaaAx
import Derived.Test.YtehjdodmgephiaaIdx
namespace Go.Proofs.Ytehjdodmgephiaa.Pure
open Go.RowKit Go.Proofs.Ytehjdodmgephiaa.XFnExactMarkPrice Go.Proofs.YtehjdodmgephiaaW.PrintWords Go.Proofs.YtehjdodmgephiaaW.PrintLast
open Go.Proofs.YtehjdodmgephiaaW.Ax Go.Proofs.YtehjdodmgephiaaW.Idx
set_option linter.unusedVariables false
set_option linter.unusedSimpArgs false
theorem within_ev (a b c : Int) : impl_within.f a b c = some (decide (b ≤ a ∧ a ≤ c)) := by
  unfold impl_within.f
  by_cases h : a ≥ b
  · rw [if_pos h]; congr 1; rw [decide_eq_decide]; omega
  · rw [if_neg h]; congr 1; symm; rw [decide_eq_false_iff_not]; omega
theorem l01In_ev (a b c : Int) : spec_l01In.f a b c = some (decide (b ≤ a ∧ a ≤ c)) := by
  unfold spec_l01In.f
  by_cases h : a ≥ b
  · rw [if_pos h]; congr 1; rw [decide_eq_decide]; omega
  · rw [if_neg h]; congr 1; symm; rw [decide_eq_false_iff_not]; omega
theorem markEq (a b : Int) : impl_MarkPrice.f a b = spec_MarkPrice.f a b := by
  unfold impl_MarkPrice.f spec_MarkPrice.f impl_markPrice.f spec_l15Price.f
  simp only [within_ev, l01In_ev, Option.bind_some]
theorem specMark (a b : Int) : ∃ r, spec_MarkPrice.f a b = some r := by
  unfold spec_MarkPrice.f spec_l15Price.f
  simp only [l01In_ev, Option.bind_some]
  repeat' split
  all_goals exact ⟨_, rfl⟩
theorem FnExactMarkPrice : laws_FnExactMarkPrice.Pure := by
  intro a b _ _
  obtain ⟨r, hr⟩ := specMark a b
  unfold laws_FnExactMarkPrice.f
  simp only [markEq, hr, Option.bind_some]
  simp

end Go.Proofs.Ytehjdodmgephiaa.Pure
