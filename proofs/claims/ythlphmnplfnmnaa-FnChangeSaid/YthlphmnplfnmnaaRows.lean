/-
  No cell of these rows narrows 'for every input' (looked for: loops, veiled, ifaces, maps, wideKeys, modest, calm, conditions, laid).
  DERIVED. THE GIVEN ROWS OF THIS SEAT. 5 by the template 'for every input the law returns true; each argument reads behind the call as it read before'; 0 by the template 'total and deterministic' (their statements: YthlphmnplfnmnaaTotals.lean).
  GIVEN WITH THE SEED: the statements are not yours to turn. If you find one false, say at which input.
  Laid BY PROGRAM, IN A SANDBOX (cutbox-rows.mjs): the forced cells as the released guide's own fill.sh prints them over the translation 9c2d9ba809d75756… (all of the seat's roots in one cut). By AI agents, Wed Nov 11 2026. No macro, syntax, notation, axiom, sorry.
-/
import Derived.Test.YthlphmnplfnmnaaChecked
import GoSem.Claim
import GoSem.ClaimJoined
import GoSem.ClaimMapViews
import Derived.JoinedTies
import Derived.KernelRfl
namespace Go.Proofs.Ythlphmnplfnmnaa
/- THE CELL 'sum', in the pinned program and in every row, IS THE sha256 OF THE DUMP (.gsa) THAT YthlphmnplfnmnaaProg.lean LOADS. Nothing in Lean hashes anything: it is a label: what it is worth is what the hold of that sum in a sandbox is worth. -/
noncomputable def Try.pinned : Pinned := { name := "ythlphmnplfnmnaa", sum := "9c2d9ba809d7575673953ea55e12f90e582fbafca855f42e1a609a4b0a49df42", checked := Try.checked }
namespace Rows
def none {H : Type} : Left H := { results := [], args := [] }

/-- 'laws.FnExactHeldOK': WHATEVER THE INPUT: true; the input reads as it did. -/
def fnExactHeldOKSpec : ChangeSpec := { name := "fnExactHeldOK", fn := fun _ => fun
  | [d] => { results := [.lit (.bool true)], args := [d] }
  | _ => none }
def fnExactHeldOKRow : OpenClaim := { program := "ythlphmnplfnmnaa", sum := "9c2d9ba809d7575673953ea55e12f90e582fbafca855f42e1a609a4b0a49df42", func := "loop.example/g00067/laws.FnExactHeldOK", spec := "fnExactHeldOK", apart := false }
def FnExactHeldOKSaid : Prop := fnExactHeldOKRow.holds Try.pinned (OpenSpec.ofChange fnExactHeldOKSpec)

/-- ITS FALSE NEIGHBOUR: 'it returns false'. Refute it at one input. -/
def fnExactHeldOKWrong : ChangeSpec := { name := "fnExactHeldOK", fn := fun _ => fun
  | [d] => { results := [.lit (.bool false)], args := [d] }
  | _ => none }
def FnExactHeldOKWrongFalsely : Prop := fnExactHeldOKRow.holds Try.pinned (OpenSpec.ofChange fnExactHeldOKWrong)

/-- 'laws.FnPaid': WHATEVER THE INPUT: true; the input reads as it did. -/
def fnPaidSpec : ChangeSpec := { name := "fnPaid", fn := fun _ => fun
  | [d] => { results := [.lit (.bool true)], args := [d] }
  | _ => none }
def fnPaidRow : OpenClaim := { program := "ythlphmnplfnmnaa", sum := "9c2d9ba809d7575673953ea55e12f90e582fbafca855f42e1a609a4b0a49df42", func := "loop.example/g00067/laws.FnPaid", spec := "fnPaid", unfollowed := true, recurses := true, apart := false }
def FnPaidSaid : Prop := fnPaidRow.holds Try.pinned (OpenSpec.ofChange fnPaidSpec)

/-- ITS FALSE NEIGHBOUR: 'it returns false'. Refute it at one input. -/
def fnPaidWrong : ChangeSpec := { name := "fnPaid", fn := fun _ => fun
  | [d] => { results := [.lit (.bool false)], args := [d] }
  | _ => none }
def FnPaidWrongFalsely : Prop := fnPaidRow.holds Try.pinned (OpenSpec.ofChange fnPaidWrong)

/-- 'laws.FnExactPayMix': WHATEVER THE INPUT: true; the input reads as it did. -/
def fnExactPayMixSpec : ChangeSpec := { name := "fnExactPayMix", fn := fun _ => fun
  | [d1, d2] => { results := [.lit (.bool true)], args := [d1, d2] }
  | _ => none }
def fnExactPayMixRow : OpenClaim := { program := "ythlphmnplfnmnaa", sum := "9c2d9ba809d7575673953ea55e12f90e582fbafca855f42e1a609a4b0a49df42", func := "loop.example/g00067/laws.FnExactPayMix", spec := "fnExactPayMix", unfollowed := true, recurses := true, apart := false }
def FnExactPayMixSaid : Prop := fnExactPayMixRow.holds Try.pinned (OpenSpec.ofChange fnExactPayMixSpec)

/-- ITS FALSE NEIGHBOUR: 'it returns false'. Refute it at one input. -/
def fnExactPayMixWrong : ChangeSpec := { name := "fnExactPayMix", fn := fun _ => fun
  | [d1, d2] => { results := [.lit (.bool false)], args := [d1, d2] }
  | _ => none }
def FnExactPayMixWrongFalsely : Prop := fnExactPayMixRow.holds Try.pinned (OpenSpec.ofChange fnExactPayMixWrong)

/-- 'laws.FnExactChange': WHATEVER THE INPUT: true; the input reads as it did. -/
def fnExactChangeSpec : ChangeSpec := { name := "fnExactChange", fn := fun _ => fun
  | [d1, d2] => { results := [.lit (.bool true)], args := [d1, d2] }
  | _ => none }
def fnExactChangeRow : OpenClaim := { program := "ythlphmnplfnmnaa", sum := "9c2d9ba809d7575673953ea55e12f90e582fbafca855f42e1a609a4b0a49df42", func := "loop.example/g00067/laws.FnExactChange", spec := "fnExactChange", apart := false }
def FnExactChangeSaid : Prop := fnExactChangeRow.holds Try.pinned (OpenSpec.ofChange fnExactChangeSpec)

/-- ITS FALSE NEIGHBOUR: 'it returns false'. Refute it at one input. -/
def fnExactChangeWrong : ChangeSpec := { name := "fnExactChange", fn := fun _ => fun
  | [d1, d2] => { results := [.lit (.bool false)], args := [d1, d2] }
  | _ => none }
def FnExactChangeWrongFalsely : Prop := fnExactChangeRow.holds Try.pinned (OpenSpec.ofChange fnExactChangeWrong)

/-- 'laws.FnChange': WHATEVER THE INPUT: true; the input reads as it did. -/
def fnChangeSpec : ChangeSpec := { name := "fnChange", fn := fun _ => fun
  | [d1, d2] => { results := [.lit (.bool true)], args := [d1, d2] }
  | _ => none }
def fnChangeRow : OpenClaim := { program := "ythlphmnplfnmnaa", sum := "9c2d9ba809d7575673953ea55e12f90e582fbafca855f42e1a609a4b0a49df42", func := "loop.example/g00067/laws.FnChange", spec := "fnChange", apart := false }
def FnChangeSaid : Prop := fnChangeRow.holds Try.pinned (OpenSpec.ofChange fnChangeSpec)

/-- ITS FALSE NEIGHBOUR: 'it returns false'. Refute it at one input. -/
def fnChangeWrong : ChangeSpec := { name := "fnChange", fn := fun _ => fun
  | [d1, d2] => { results := [.lit (.bool false)], args := [d1, d2] }
  | _ => none }
def FnChangeWrongFalsely : Prop := fnChangeRow.holds Try.pinned (OpenSpec.ofChange fnChangeWrong)

/- THE SECOND FORM. 'bulk': how many values and letters a reading holds, each counted each time it is reached (what is shared counts as often as it is met; a slice's spare places count too). A statement '..UptoSaid' is the law's where the arguments, and the package variables that the reading takes, are together of bulk at most 1048576: NARROWER than '..Said'. Prove '..Said' where nothing that the law and all that it calls make is longer than what came in: it says more and counts as full. Else prove '..UptoSaid'. A law counts once. -/
mutual
def uptoBulk {H : Type} : DataW H → Nat
  | .lit (.string bytes) => bytes.length + 1
  | .lit _ => 1
  | .nil => 1
  | .ptr d => uptoBulk d + 1
  | .slice elems spare => uptoBulkAll elems + uptoBulkAll spare + 1
  | .agg parts => uptoBulkAll parts + 1
  | .iface _ d => uptoBulk d + 1
  | .map entries => uptoBulkEntries entries + 1
  | .held _ => 1
def uptoBulkAll {H : Type} : List (DataW H) → Nat
  | [] => 0
  | d :: r => uptoBulk d + uptoBulkAll r
def uptoBulkEntries {H : Type} : List (Lit × DataW H) → Nat
  | [] => 0
  | x :: r => uptoBulkEntry x + uptoBulkEntries r
def uptoBulkEntry {H : Type} : Lit × DataW H → Nat
  | (.string bytes, d) => bytes.length + uptoBulk d + 1
  | (_, d) => uptoBulk d + 1
 end
def uptoSmall : (H : Type) → List (DataW H) → Bool := fun _ ds => decide (uptoBulkAll ds ≤ 1048576)
def OpenSpec.upto (s : _root_.Go.ChangeSpec) : _root_.Go.OpenSpec := { _root_.Go.OpenSpec.ofChange s with cond := some uptoSmall }

/-- 'laws.FnExactHeldOK', WHERE WHAT IT READS IS OF BULK AT MOST 1048576: true; the input reads as it did. -/
def fnExactHeldOKUptoRow : OpenClaim := { program := "ythlphmnplfnmnaa", sum := "9c2d9ba809d7575673953ea55e12f90e582fbafca855f42e1a609a4b0a49df42", func := "loop.example/g00067/laws.FnExactHeldOK", spec := "fnExactHeldOK", apart := false, narrowed := true }
def FnExactHeldOKUptoSaid : Prop := fnExactHeldOKUptoRow.holds Try.pinned (OpenSpec.upto fnExactHeldOKSpec)

/-- 'laws.FnPaid', WHERE WHAT IT READS IS OF BULK AT MOST 1048576: true; the input reads as it did. -/
def fnPaidUptoRow : OpenClaim := { program := "ythlphmnplfnmnaa", sum := "9c2d9ba809d7575673953ea55e12f90e582fbafca855f42e1a609a4b0a49df42", func := "loop.example/g00067/laws.FnPaid", spec := "fnPaid", unfollowed := true, recurses := true, apart := false, narrowed := true }
def FnPaidUptoSaid : Prop := fnPaidUptoRow.holds Try.pinned (OpenSpec.upto fnPaidSpec)

/-- 'laws.FnExactPayMix', WHERE WHAT IT READS IS OF BULK AT MOST 1048576: true; the input reads as it did. -/
def fnExactPayMixUptoRow : OpenClaim := { program := "ythlphmnplfnmnaa", sum := "9c2d9ba809d7575673953ea55e12f90e582fbafca855f42e1a609a4b0a49df42", func := "loop.example/g00067/laws.FnExactPayMix", spec := "fnExactPayMix", unfollowed := true, recurses := true, apart := false, narrowed := true }
def FnExactPayMixUptoSaid : Prop := fnExactPayMixUptoRow.holds Try.pinned (OpenSpec.upto fnExactPayMixSpec)

/-- 'laws.FnExactChange', WHERE WHAT IT READS IS OF BULK AT MOST 1048576: true; the input reads as it did. -/
def fnExactChangeUptoRow : OpenClaim := { program := "ythlphmnplfnmnaa", sum := "9c2d9ba809d7575673953ea55e12f90e582fbafca855f42e1a609a4b0a49df42", func := "loop.example/g00067/laws.FnExactChange", spec := "fnExactChange", apart := false, narrowed := true }
def FnExactChangeUptoSaid : Prop := fnExactChangeUptoRow.holds Try.pinned (OpenSpec.upto fnExactChangeSpec)

/-- 'laws.FnChange', WHERE WHAT IT READS IS OF BULK AT MOST 1048576: true; the input reads as it did. -/
def fnChangeUptoRow : OpenClaim := { program := "ythlphmnplfnmnaa", sum := "9c2d9ba809d7575673953ea55e12f90e582fbafca855f42e1a609a4b0a49df42", func := "loop.example/g00067/laws.FnChange", spec := "fnChange", apart := false, narrowed := true }
def FnChangeUptoSaid : Prop := fnChangeUptoRow.holds Try.pinned (OpenSpec.upto fnChangeSpec)

end Rows
end Go.Proofs.Ythlphmnplfnmnaa
