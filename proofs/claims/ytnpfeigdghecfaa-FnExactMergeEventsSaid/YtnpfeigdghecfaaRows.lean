/-
  No cell of these rows narrows 'for every input' (looked for: loops, veiled, ifaces, maps, wideKeys, modest, calm, conditions, laid).
  DERIVED. THE GIVEN ROWS OF THIS SEAT. 3 by the template 'for every input the law returns true; each argument reads behind the call as it read before'; 0 by the template 'total and deterministic' (their statements: YtnpfeigdghecfaaTotals.lean).
  GIVEN WITH THE SEED: the statements are not yours to turn. If you find one false, say at which input.
  Laid BY PROGRAM, IN A SANDBOX (cutbox-rows.mjs): the forced cells as the released guide's own fill.sh prints them over the translation 2fb8b15f0be5da62… (all of the seat's roots in one cut). By AI agents, Wed Nov 11 2026. No macro, syntax, notation, axiom, sorry.
-/
import Derived.Test.YtnpfeigdghecfaaChecked
import GoSem.Claim
import GoSem.ClaimJoined
import GoSem.ClaimMapViews
import Derived.JoinedTies
import Derived.KernelRfl
namespace Go.Proofs.Ytnpfeigdghecfaa
/- THE CELL 'sum', in the pinned program and in every row, IS THE sha256 OF THE DUMP (.gsa) THAT YtnpfeigdghecfaaProg.lean LOADS. Nothing in Lean hashes anything: it is a label: what it is worth is what the hold of that sum in a sandbox is worth. -/
noncomputable def Try.pinned : Pinned := { name := "ytnpfeigdghecfaa", sum := "2fb8b15f0be5da620d7952d35549466590ddb2a3dfc332d3e11a8fe483cadc96", checked := Try.checked }
namespace Rows
def none {H : Type} : Left H := { results := [], args := [] }

/-- 'laws.FnExactEventsOK': WHATEVER THE INPUT: true; the input reads as it did. -/
def fnExactEventsOKSpec : ChangeSpec := { name := "fnExactEventsOK", fn := fun _ => fun
  | [d] => { results := [.lit (.bool true)], args := [d] }
  | _ => none }
def fnExactEventsOKRow : OpenClaim := { program := "ytnpfeigdghecfaa", sum := "2fb8b15f0be5da620d7952d35549466590ddb2a3dfc332d3e11a8fe483cadc96", func := "loop.example/g00067/laws.FnExactEventsOK", spec := "fnExactEventsOK", apart := false }
def FnExactEventsOKSaid : Prop := fnExactEventsOKRow.holds Try.pinned (OpenSpec.ofChange fnExactEventsOKSpec)

/-- ITS FALSE NEIGHBOUR: 'it returns false'. Refute it at one input. -/
def fnExactEventsOKWrong : ChangeSpec := { name := "fnExactEventsOK", fn := fun _ => fun
  | [d] => { results := [.lit (.bool false)], args := [d] }
  | _ => none }
def FnExactEventsOKWrongFalsely : Prop := fnExactEventsOKRow.holds Try.pinned (OpenSpec.ofChange fnExactEventsOKWrong)

/-- 'laws.FnExactMissed': WHATEVER THE INPUT: true; the input reads as it did. -/
def fnExactMissedSpec : ChangeSpec := { name := "fnExactMissed", fn := fun _ => fun
  | [d1, d2] => { results := [.lit (.bool true)], args := [d1, d2] }
  | _ => none }
def fnExactMissedRow : OpenClaim := { program := "ytnpfeigdghecfaa", sum := "2fb8b15f0be5da620d7952d35549466590ddb2a3dfc332d3e11a8fe483cadc96", func := "loop.example/g00067/laws.FnExactMissed", spec := "fnExactMissed", apart := false }
def FnExactMissedSaid : Prop := fnExactMissedRow.holds Try.pinned (OpenSpec.ofChange fnExactMissedSpec)

/-- ITS FALSE NEIGHBOUR: 'it returns false'. Refute it at one input. -/
def fnExactMissedWrong : ChangeSpec := { name := "fnExactMissed", fn := fun _ => fun
  | [d1, d2] => { results := [.lit (.bool false)], args := [d1, d2] }
  | _ => none }
def FnExactMissedWrongFalsely : Prop := fnExactMissedRow.holds Try.pinned (OpenSpec.ofChange fnExactMissedWrong)

/-- 'laws.FnExactMergeEvents': WHATEVER THE INPUT: true; the input reads as it did. -/
def fnExactMergeEventsSpec : ChangeSpec := { name := "fnExactMergeEvents", fn := fun _ => fun
  | [d1, d2] => { results := [.lit (.bool true)], args := [d1, d2] }
  | _ => none }
def fnExactMergeEventsRow : OpenClaim := { program := "ytnpfeigdghecfaa", sum := "2fb8b15f0be5da620d7952d35549466590ddb2a3dfc332d3e11a8fe483cadc96", func := "loop.example/g00067/laws.FnExactMergeEvents", spec := "fnExactMergeEvents", unfollowed := true, recurses := true, apart := false }
def FnExactMergeEventsSaid : Prop := fnExactMergeEventsRow.holds Try.pinned (OpenSpec.ofChange fnExactMergeEventsSpec)

/-- ITS FALSE NEIGHBOUR: 'it returns false'. Refute it at one input. -/
def fnExactMergeEventsWrong : ChangeSpec := { name := "fnExactMergeEvents", fn := fun _ => fun
  | [d1, d2] => { results := [.lit (.bool false)], args := [d1, d2] }
  | _ => none }
def FnExactMergeEventsWrongFalsely : Prop := fnExactMergeEventsRow.holds Try.pinned (OpenSpec.ofChange fnExactMergeEventsWrong)

/- THE SECOND FORM. 'bulk': how many values and letters a reading holds, each counted each time it is reached (what is shared counts as often as it is met; a slice's spare places count too). A statement '..UptoSaid' is the law's where the arguments, and the package variables that the reading takes, are together of bulk at most 1048576: NARROWER than '..Said'. Prove '..Said' where nothing that the law and all that it calls make is longer than what came in: it says more and counts as full. Else prove '..UptoSaid'. A law counts once. -/
mutual
def uptoBulk {H : Type} : DataW H → Nat
  | .lit (.string bytes) => bytes.length + 1
  | .lit _ => 1
  | .nil => 1
  | .ptr d => uptoBulk d + 1
  | .slice elems spare => uptoBulkAll elems + uptoBulkAll spare + 1
  | .agg parts => uptoBulkAll parts + 1
  | .iface _ d => uptoBulk d + 1
  | .map entries => uptoBulkEntries entries + 1
  | .held _ => 1
def uptoBulkAll {H : Type} : List (DataW H) → Nat
  | [] => 0
  | d :: r => uptoBulk d + uptoBulkAll r
def uptoBulkEntries {H : Type} : List (Lit × DataW H) → Nat
  | [] => 0
  | x :: r => uptoBulkEntry x + uptoBulkEntries r
def uptoBulkEntry {H : Type} : Lit × DataW H → Nat
  | (.string bytes, d) => bytes.length + uptoBulk d + 1
  | (_, d) => uptoBulk d + 1
 end
def uptoSmall : (H : Type) → List (DataW H) → Bool := fun _ ds => decide (uptoBulkAll ds ≤ 1048576)
def OpenSpec.upto (s : _root_.Go.ChangeSpec) : _root_.Go.OpenSpec := { _root_.Go.OpenSpec.ofChange s with cond := some uptoSmall }

/-- 'laws.FnExactEventsOK', WHERE WHAT IT READS IS OF BULK AT MOST 1048576: true; the input reads as it did. -/
def fnExactEventsOKUptoRow : OpenClaim := { program := "ytnpfeigdghecfaa", sum := "2fb8b15f0be5da620d7952d35549466590ddb2a3dfc332d3e11a8fe483cadc96", func := "loop.example/g00067/laws.FnExactEventsOK", spec := "fnExactEventsOK", apart := false, narrowed := true }
def FnExactEventsOKUptoSaid : Prop := fnExactEventsOKUptoRow.holds Try.pinned (OpenSpec.upto fnExactEventsOKSpec)

/-- 'laws.FnExactMissed', WHERE WHAT IT READS IS OF BULK AT MOST 1048576: true; the input reads as it did. -/
def fnExactMissedUptoRow : OpenClaim := { program := "ytnpfeigdghecfaa", sum := "2fb8b15f0be5da620d7952d35549466590ddb2a3dfc332d3e11a8fe483cadc96", func := "loop.example/g00067/laws.FnExactMissed", spec := "fnExactMissed", apart := false, narrowed := true }
def FnExactMissedUptoSaid : Prop := fnExactMissedUptoRow.holds Try.pinned (OpenSpec.upto fnExactMissedSpec)

/-- 'laws.FnExactMergeEvents', WHERE WHAT IT READS IS OF BULK AT MOST 1048576: true; the input reads as it did. -/
def fnExactMergeEventsUptoRow : OpenClaim := { program := "ytnpfeigdghecfaa", sum := "2fb8b15f0be5da620d7952d35549466590ddb2a3dfc332d3e11a8fe483cadc96", func := "loop.example/g00067/laws.FnExactMergeEvents", spec := "fnExactMergeEvents", unfollowed := true, recurses := true, apart := false, narrowed := true }
def FnExactMergeEventsUptoSaid : Prop := fnExactMergeEventsUptoRow.holds Try.pinned (OpenSpec.upto fnExactMergeEventsSpec)

end Rows
end Go.Proofs.Ytnpfeigdghecfaa
