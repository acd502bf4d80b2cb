/- The law FnExactOrderFor: for every input the call returns true and leaves its arguments as they were. The row, out of its pure statement and the walk. -/
import Derived.Test.YthhdcjdlcfbkdaaRows
import Derived.Test.YthhdcjdlcfbkdaaXFnExactOrderForx1
import Derived.Test.YthhdcjdlcfbkdaaPureFnExactOrderFor
import Derived.Test.YthhdcjdlcfbkdaaOpens
import Derived.WalkKit
import Derived.ProofKit
import Derived.OpenShut
import Derived.ShutString
import Derived.ChangeOld
import Derived.Below
import Derived.SizedLaws
import Derived.WideShapes
namespace Go.Proofs.Ythhdcjdlcfbkdaa.fnExactOrderFor
open Go.ChangeShapes Go.WideShapes Go.ChangeAt Go.RowKit Go.Proofs.YthhdcjdlcfbkdaaW.PrintWords Go.Proofs.YthhdcjdlcfbkdaaW.Opens Go.Proofs.Ythhdcjdlcfbkdaa.XFnExactOrderFor
open Go.ChangeMaps (open_string shut_string)
set_option linter.unusedVariables false
theorem own : ownKnob Try.prog.godebug = none := by kernel_rfl
theorem laidOut : laidOutB Try.prog = true := by kernel_rfl
theorem opensT23 : Opens Try.prog 23 k23 wfT23 := Opens.iso (g := fun a => ⟨a.1, a.2.1, a.2.2.1, a.2.2.2.1, a.2.2.2.2.1, a.2.2.2.2.2⟩) (fun _ => rfl) (Opens.struct Try.underlying23 (OpensFs.cons rfl (Opens.int Try.underlying3) (by kernel_rfl) (OpensFs.cons rfl (Opens.int Try.underlying3) (by kernel_rfl) (OpensFs.cons rfl (Opens.int Try.underlying3) (by kernel_rfl) (OpensFs.cons rfl (Opens.int Try.underlying3) (by kernel_rfl) (OpensFs.cons rfl (Opens.int Try.underlying3) (by kernel_rfl) (OpensFs.one rfl (Opens.int Try.underlying3) (by kernel_rfl))))))) (by kernel_rfl))
set_option maxRecDepth 100000 in
theorem lifted (os : Os) (started : os.Started) (H : Type) (enc : TypeId × Value → H) :
    ReturnsInHanded {} Try.checked os 4 .any (Rows.fnExactOrderForSpec.pre6 enc Try.prog Try.f4 Rows.fnExactOrderForRow.domain false) (Rows.fnExactOrderForSpec.post enc Try.prog Try.f4 false true false false) := by
  refine returnsInHanded_of_change_sized (C := Try.checked) own started (by kernel_rfl) Try.func4
    (ChangeSpec.witness6 (enc := enc) (C := Try.checked) false ⟨#[], #[.agg #[.int .i64 0, .int .i64 0, .int .i64 0, .int .i64 0, .int .i64 0, .int .i64 0]], []⟩ 8 (by kernel_rfl) (by kernel_rfl) (by kernel_rfl) (by kernel_rfl)) ?_
  intro W base args ds gs before hval0 hW hcnd hsz0 _
  have hval : ∀ (j : Nat) t v, Try.f4.params[j]? = some t → args[j]? = some v → Value.okWide Try.prog W .any base t v := hval0
  have hW' := hW
  obtain ⟨p, q, hA0, hV, rfl, hfz, hnd⟩ := hW
  have hA : DataW.TrodAll enc Try.prog W 0 (fun _ => true) true Try.f4.params.toList args.toList ds p := hA0
  rw [Try.params4] at hA hval
  obtain ⟨v0, vs0, d0, ds0, p0, q0, hargs, rfl, rfl, h0, r0⟩ := trodAll_cons hA
  obtain ⟨rfl, rfl, rfl⟩ := trodAll_nil r0
  obtain rfl : args = #[v0] := by cases args; simp_all
  obtain ⟨rfl, rfl⟩ := trodVars_none hV
  have k0 := h0
  have lt0 : ∀ x ∈ p0, x.block < W.heap.size := by obtain ⟨m, hm⟩ := k0; exact DataW.trod_lt m _ _ _ hm
  obtain ⟨cs0, rfl, hsz0⟩ := okWide_struct Try.underlying23 (hval 0 23 v0 rfl rfl)
  obtain ⟨x0, hx0, hw0⟩ := Opens.arg opensT23 k0
  have hcs0 := k23_open hx0
  obtain ⟨cl0⟩ := cs0
  simp only [Value.cells] at hcs0
  subst hcs0
  clear hA0 hval0 hsz0
  refine (XFnExactOrderFor.laws_FnExactOrderFor.walk Pure.FnExactOrderFor x0.f0 x0.f1 x0.f2 x0.f3 x0.f4 x0.f5 W  hw0.1 hw0.2.1 hw0.2.2.1 hw0.2.2.2.1 hw0.2.2.2.2.1 hw0.2.2.2.2.2).mono fun e W' ⟨he, bel⟩ => ?_
  subst he
  exact ⟨_, rfl, _, _, _, [], _, [], hW', trodAll_mk1 (shut_bool Try.underlying4 _), (trodAll_cons_mk (Below.trod laidOut (by kernel_rfl) (of_decide_eq_true (by kernel_rfl)) k0 bel lt0) trodAll_mk0), rfl, bel.frame _, fun h => by cases h⟩
theorem over : Rows.fnExactOrderForRow.holds Try.pinned (OpenSpec.ofChange Rows.fnExactOrderForSpec) :=
  OpenClaim.holds_of_wide 4 Try.f4 rfl rfl rfl rfl rfl rfl rfl ⟨rfl, rfl, rfl, rfl, rfl⟩ rfl rfl rfl rfl rfl (by kernel_rfl) Try.func4 (by kernel_rfl)
    (of_decide_eq_true (by kernel_rfl)) (by unfold Func.isWrapper; first | (rw [if_pos (by decide +kernel)]; kernel_rfl) | (rw [if_neg (by decide +kernel)]; exact ⟨rfl, rfl⟩))
    (fun os started H enc _ => lifted os started H enc)
theorem proved : Rows.FnExactOrderForSaid := over
#print axioms proved
end Go.Proofs.Ythhdcjdlcfbkdaa.fnExactOrderFor
namespace Go.Proofs.Ythhdcjdlcfbkdaa
/-- The row, under a short name, for the claim. -/
theorem fnExactOrderFor_holds : Rows.FnExactOrderForSaid := fnExactOrderFor.proved
end Go.Proofs.Ythhdcjdlcfbkdaa
