/-
  No cell of these rows narrows 'for every input' (looked for: loops, veiled, ifaces, maps, wideKeys, modest, calm, conditions, laid).
  DERIVED. THE GIVEN ROWS OF THIS SEAT. 4 by the template 'for every input the law returns true; each argument reads behind the call as it read before'; 0 by the template 'total and deterministic' (their statements: YtecbcibblmknpaaTotals.lean).
  GIVEN WITH THE SEED: the statements are not yours to turn. If you find one false, say at which input.
  Laid BY PROGRAM, IN A SANDBOX (cutbox-rows.mjs): the forced cells as the released guide's own fill.sh prints them over the translation 6265f3aa93f0fd38… (all of the seat's roots in one cut). By AI agents, Wed Nov 11 2026. No macro, syntax, notation, axiom, sorry.
-/
import Derived.Test.YtecbcibblmknpaaChecked
import GoSem.Claim
import GoSem.ClaimJoined
import GoSem.ClaimMapViews
import Derived.JoinedTies
import Derived.KernelRfl
namespace Go.Proofs.Ytecbcibblmknpaa
/- THE CELL 'sum', in the pinned program and in every row, IS THE sha256 OF THE DUMP (.gsa) THAT YtecbcibblmknpaaProg.lean LOADS. Nothing in Lean hashes anything: it is a label: what it is worth is what the hold of that sum in a sandbox is worth. -/
noncomputable def Try.pinned : Pinned := { name := "ytecbcibblmknpaa", sum := "6265f3aa93f0fd38a7b9902edeae8f7db206d8929361c0902f95c55d0bd8d82e", checked := Try.checked }
namespace Rows
def none {H : Type} : Left H := { results := [], args := [] }

/-- 'laws.FnExactFacingsOK': WHATEVER THE INPUT: true; the input reads as it did. -/
def fnExactFacingsOKSpec : ChangeSpec := { name := "fnExactFacingsOK", fn := fun _ => fun
  | [d] => { results := [.lit (.bool true)], args := [d] }
  | _ => none }
def fnExactFacingsOKRow : OpenClaim := { program := "ytecbcibblmknpaa", sum := "6265f3aa93f0fd38a7b9902edeae8f7db206d8929361c0902f95c55d0bd8d82e", func := "loop.example/g00067/laws.FnExactFacingsOK", spec := "fnExactFacingsOK", unfollowed := true, recurses := true, apart := false }
def FnExactFacingsOKSaid : Prop := fnExactFacingsOKRow.holds Try.pinned (OpenSpec.ofChange fnExactFacingsOKSpec)

/-- ITS FALSE NEIGHBOUR: 'it returns false'. Refute it at one input. -/
def fnExactFacingsOKWrong : ChangeSpec := { name := "fnExactFacingsOK", fn := fun _ => fun
  | [d] => { results := [.lit (.bool false)], args := [d] }
  | _ => none }
def FnExactFacingsOKWrongFalsely : Prop := fnExactFacingsOKRow.holds Try.pinned (OpenSpec.ofChange fnExactFacingsOKWrong)

/-- 'laws.FnExactShelfOf': WHATEVER THE INPUT: true; the input reads as it did. -/
def fnExactShelfOfSpec : ChangeSpec := { name := "fnExactShelfOf", fn := fun _ => fun
  | [d1, d2, d3] => { results := [.lit (.bool true)], args := [d1, d2, d3] }
  | _ => none }
def fnExactShelfOfRow : OpenClaim := { program := "ytecbcibblmknpaa", sum := "6265f3aa93f0fd38a7b9902edeae8f7db206d8929361c0902f95c55d0bd8d82e", func := "loop.example/g00067/laws.FnExactShelfOf", spec := "fnExactShelfOf", unfollowed := true, recurses := true, apart := false }
def FnExactShelfOfSaid : Prop := fnExactShelfOfRow.holds Try.pinned (OpenSpec.ofChange fnExactShelfOfSpec)

/-- ITS FALSE NEIGHBOUR: 'it returns false'. Refute it at one input. -/
def fnExactShelfOfWrong : ChangeSpec := { name := "fnExactShelfOf", fn := fun _ => fun
  | [d1, d2, d3] => { results := [.lit (.bool false)], args := [d1, d2, d3] }
  | _ => none }
def FnExactShelfOfWrongFalsely : Prop := fnExactShelfOfRow.holds Try.pinned (OpenSpec.ofChange fnExactShelfOfWrong)

/-- 'laws.FnShelf': WHATEVER THE INPUT: true; the input reads as it did. -/
def fnShelfSpec : ChangeSpec := { name := "fnShelf", fn := fun _ => fun
  | [d] => { results := [.lit (.bool true)], args := [d] }
  | _ => none }
def fnShelfRow : OpenClaim := { program := "ytecbcibblmknpaa", sum := "6265f3aa93f0fd38a7b9902edeae8f7db206d8929361c0902f95c55d0bd8d82e", func := "loop.example/g00067/laws.FnShelf", spec := "fnShelf", unfollowed := true, recurses := true, apart := false }
def FnShelfSaid : Prop := fnShelfRow.holds Try.pinned (OpenSpec.ofChange fnShelfSpec)

/-- ITS FALSE NEIGHBOUR: 'it returns false'. Refute it at one input. -/
def fnShelfWrong : ChangeSpec := { name := "fnShelf", fn := fun _ => fun
  | [d] => { results := [.lit (.bool false)], args := [d] }
  | _ => none }
def FnShelfWrongFalsely : Prop := fnShelfRow.holds Try.pinned (OpenSpec.ofChange fnShelfWrong)

/-- 'laws.FnExactBestShelf': WHATEVER THE INPUT: true; the input reads as it did. -/
def fnExactBestShelfSpec : ChangeSpec := { name := "fnExactBestShelf", fn := fun _ => fun
  | [d1, d2] => { results := [.lit (.bool true)], args := [d1, d2] }
  | _ => none }
def fnExactBestShelfRow : OpenClaim := { program := "ytecbcibblmknpaa", sum := "6265f3aa93f0fd38a7b9902edeae8f7db206d8929361c0902f95c55d0bd8d82e", func := "loop.example/g00067/laws.FnExactBestShelf", spec := "fnExactBestShelf", unfollowed := true, recurses := true, apart := false }
def FnExactBestShelfSaid : Prop := fnExactBestShelfRow.holds Try.pinned (OpenSpec.ofChange fnExactBestShelfSpec)

/-- ITS FALSE NEIGHBOUR: 'it returns false'. Refute it at one input. -/
def fnExactBestShelfWrong : ChangeSpec := { name := "fnExactBestShelf", fn := fun _ => fun
  | [d1, d2] => { results := [.lit (.bool false)], args := [d1, d2] }
  | _ => none }
def FnExactBestShelfWrongFalsely : Prop := fnExactBestShelfRow.holds Try.pinned (OpenSpec.ofChange fnExactBestShelfWrong)

/- THE SECOND FORM. 'bulk': how many values and letters a reading holds, each counted each time it is reached (what is shared counts as often as it is met; a slice's spare places count too). A statement '..UptoSaid' is the law's where the arguments, and the package variables that the reading takes, are together of bulk at most 1048576: NARROWER than '..Said'. Prove '..Said' where nothing that the law and all that it calls make is longer than what came in: it says more and counts as full. Else prove '..UptoSaid'. A law counts once. -/
mutual
def uptoBulk {H : Type} : DataW H → Nat
  | .lit (.string bytes) => bytes.length + 1
  | .lit _ => 1
  | .nil => 1
  | .ptr d => uptoBulk d + 1
  | .slice elems spare => uptoBulkAll elems + uptoBulkAll spare + 1
  | .agg parts => uptoBulkAll parts + 1
  | .iface _ d => uptoBulk d + 1
  | .map entries => uptoBulkEntries entries + 1
  | .held _ => 1
def uptoBulkAll {H : Type} : List (DataW H) → Nat
  | [] => 0
  | d :: r => uptoBulk d + uptoBulkAll r
def uptoBulkEntries {H : Type} : List (Lit × DataW H) → Nat
  | [] => 0
  | x :: r => uptoBulkEntry x + uptoBulkEntries r
def uptoBulkEntry {H : Type} : Lit × DataW H → Nat
  | (.string bytes, d) => bytes.length + uptoBulk d + 1
  | (_, d) => uptoBulk d + 1
 end
def uptoSmall : (H : Type) → List (DataW H) → Bool := fun _ ds => decide (uptoBulkAll ds ≤ 1048576)
def OpenSpec.upto (s : _root_.Go.ChangeSpec) : _root_.Go.OpenSpec := { _root_.Go.OpenSpec.ofChange s with cond := some uptoSmall }

/-- 'laws.FnExactFacingsOK', WHERE WHAT IT READS IS OF BULK AT MOST 1048576: true; the input reads as it did. -/
def fnExactFacingsOKUptoRow : OpenClaim := { program := "ytecbcibblmknpaa", sum := "6265f3aa93f0fd38a7b9902edeae8f7db206d8929361c0902f95c55d0bd8d82e", func := "loop.example/g00067/laws.FnExactFacingsOK", spec := "fnExactFacingsOK", unfollowed := true, recurses := true, apart := false, narrowed := true }
def FnExactFacingsOKUptoSaid : Prop := fnExactFacingsOKUptoRow.holds Try.pinned (OpenSpec.upto fnExactFacingsOKSpec)

/-- 'laws.FnExactShelfOf', WHERE WHAT IT READS IS OF BULK AT MOST 1048576: true; the input reads as it did. -/
def fnExactShelfOfUptoRow : OpenClaim := { program := "ytecbcibblmknpaa", sum := "6265f3aa93f0fd38a7b9902edeae8f7db206d8929361c0902f95c55d0bd8d82e", func := "loop.example/g00067/laws.FnExactShelfOf", spec := "fnExactShelfOf", unfollowed := true, recurses := true, apart := false, narrowed := true }
def FnExactShelfOfUptoSaid : Prop := fnExactShelfOfUptoRow.holds Try.pinned (OpenSpec.upto fnExactShelfOfSpec)

/-- 'laws.FnShelf', WHERE WHAT IT READS IS OF BULK AT MOST 1048576: true; the input reads as it did. -/
def fnShelfUptoRow : OpenClaim := { program := "ytecbcibblmknpaa", sum := "6265f3aa93f0fd38a7b9902edeae8f7db206d8929361c0902f95c55d0bd8d82e", func := "loop.example/g00067/laws.FnShelf", spec := "fnShelf", unfollowed := true, recurses := true, apart := false, narrowed := true }
def FnShelfUptoSaid : Prop := fnShelfUptoRow.holds Try.pinned (OpenSpec.upto fnShelfSpec)

/-- 'laws.FnExactBestShelf', WHERE WHAT IT READS IS OF BULK AT MOST 1048576: true; the input reads as it did. -/
def fnExactBestShelfUptoRow : OpenClaim := { program := "ytecbcibblmknpaa", sum := "6265f3aa93f0fd38a7b9902edeae8f7db206d8929361c0902f95c55d0bd8d82e", func := "loop.example/g00067/laws.FnExactBestShelf", spec := "fnExactBestShelf", unfollowed := true, recurses := true, apart := false, narrowed := true }
def FnExactBestShelfUptoSaid : Prop := fnExactBestShelfUptoRow.holds Try.pinned (OpenSpec.upto fnExactBestShelfSpec)

end Rows
end Go.Proofs.Ytecbcibblmknpaa
