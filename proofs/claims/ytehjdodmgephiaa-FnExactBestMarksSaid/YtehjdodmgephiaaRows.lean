/-
  No cell of these rows narrows 'for every input' (looked for: loops, veiled, ifaces, maps, wideKeys, modest, calm, conditions, laid).
  DERIVED. THE GIVEN ROWS OF THIS SEAT. 4 by the template 'for every input the law returns true; each argument reads behind the call as it read before'; 0 by the template 'total and deterministic' (their statements: YtehjdodmgephiaaTotals.lean).
  GIVEN WITH THE SEED: the statements are not yours to turn. If you find one false, say at which input.
  Laid BY PROGRAM, IN A SANDBOX (cutbox-rows.mjs): the forced cells as the released guide's own fill.sh prints them over the translation 3d65319a801e6f2c… (all of the seat's roots in one cut). By AI agents, Wed Nov 11 2026. No macro, syntax, notation, axiom, sorry.
-/
import Derived.Test.YtehjdodmgephiaaChecked
import GoSem.Claim
import GoSem.ClaimJoined
import GoSem.ClaimMapViews
import Derived.JoinedTies
import Derived.KernelRfl
namespace Go.Proofs.Ytehjdodmgephiaa
/- THE CELL 'sum', in the pinned program and in every row, IS THE sha256 OF THE DUMP (.gsa) THAT YtehjdodmgephiaaProg.lean LOADS. Nothing in Lean hashes anything: it is a label: what it is worth is what the hold of that sum in a sandbox is worth. -/
noncomputable def Try.pinned : Pinned := { name := "ytehjdodmgephiaa", sum := "3d65319a801e6f2c6b04dca4867541f930fd11b6cab6dbefe9c15bff427af3bf", checked := Try.checked }
namespace Rows
def none {H : Type} : Left H := { results := [], args := [] }

/-- 'laws.FnExactMarkPrice': WHATEVER THE INPUT: true; the input reads as it did. -/
def fnExactMarkPriceSpec : ChangeSpec := { name := "fnExactMarkPrice", fn := fun _ => fun
  | [d1, d2] => { results := [.lit (.bool true)], args := [d1, d2] }
  | _ => none }
def fnExactMarkPriceRow : OpenClaim := { program := "ytehjdodmgephiaa", sum := "3d65319a801e6f2c6b04dca4867541f930fd11b6cab6dbefe9c15bff427af3bf", func := "loop.example/g00067/laws.FnExactMarkPrice", spec := "fnExactMarkPrice", apart := false }
def FnExactMarkPriceSaid : Prop := fnExactMarkPriceRow.holds Try.pinned (OpenSpec.ofChange fnExactMarkPriceSpec)

/-- ITS FALSE NEIGHBOUR: 'it returns false'. Refute it at one input. -/
def fnExactMarkPriceWrong : ChangeSpec := { name := "fnExactMarkPrice", fn := fun _ => fun
  | [d1, d2] => { results := [.lit (.bool false)], args := [d1, d2] }
  | _ => none }
def FnExactMarkPriceWrongFalsely : Prop := fnExactMarkPriceRow.holds Try.pinned (OpenSpec.ofChange fnExactMarkPriceWrong)

/-- 'laws.FnMarks': WHATEVER THE INPUT: true; the input reads as it did. -/
def fnMarksSpec : ChangeSpec := { name := "fnMarks", fn := fun _ => fun
  | [d] => { results := [.lit (.bool true)], args := [d] }
  | _ => none }
def fnMarksRow : OpenClaim := { program := "ytehjdodmgephiaa", sum := "3d65319a801e6f2c6b04dca4867541f930fd11b6cab6dbefe9c15bff427af3bf", func := "loop.example/g00067/laws.FnMarks", spec := "fnMarks", unfollowed := true, recurses := true, apart := false }
def FnMarksSaid : Prop := fnMarksRow.holds Try.pinned (OpenSpec.ofChange fnMarksSpec)

/-- ITS FALSE NEIGHBOUR: 'it returns false'. Refute it at one input. -/
def fnMarksWrong : ChangeSpec := { name := "fnMarks", fn := fun _ => fun
  | [d] => { results := [.lit (.bool false)], args := [d] }
  | _ => none }
def FnMarksWrongFalsely : Prop := fnMarksRow.holds Try.pinned (OpenSpec.ofChange fnMarksWrong)

/-- 'laws.FnExactMarkOf': WHATEVER THE INPUT: true; the input reads as it did. -/
def fnExactMarkOfSpec : ChangeSpec := { name := "fnExactMarkOf", fn := fun _ => fun
  | [d1, d2, d3, d4, d5] => { results := [.lit (.bool true)], args := [d1, d2, d3, d4, d5] }
  | _ => none }
def fnExactMarkOfRow : OpenClaim := { program := "ytehjdodmgephiaa", sum := "3d65319a801e6f2c6b04dca4867541f930fd11b6cab6dbefe9c15bff427af3bf", func := "loop.example/g00067/laws.FnExactMarkOf", spec := "fnExactMarkOf", unfollowed := true, recurses := true, apart := false }
def FnExactMarkOfSaid : Prop := fnExactMarkOfRow.holds Try.pinned (OpenSpec.ofChange fnExactMarkOfSpec)

/-- ITS FALSE NEIGHBOUR: 'it returns false'. Refute it at one input. -/
def fnExactMarkOfWrong : ChangeSpec := { name := "fnExactMarkOf", fn := fun _ => fun
  | [d1, d2, d3, d4, d5] => { results := [.lit (.bool false)], args := [d1, d2, d3, d4, d5] }
  | _ => none }
def FnExactMarkOfWrongFalsely : Prop := fnExactMarkOfRow.holds Try.pinned (OpenSpec.ofChange fnExactMarkOfWrong)

/-- 'laws.FnExactBestMarks': WHATEVER THE INPUT: true; the input reads as it did. -/
def fnExactBestMarksSpec : ChangeSpec := { name := "fnExactBestMarks", fn := fun _ => fun
  | [d1, d2, d3, d4] => { results := [.lit (.bool true)], args := [d1, d2, d3, d4] }
  | _ => none }
def fnExactBestMarksRow : OpenClaim := { program := "ytehjdodmgephiaa", sum := "3d65319a801e6f2c6b04dca4867541f930fd11b6cab6dbefe9c15bff427af3bf", func := "loop.example/g00067/laws.FnExactBestMarks", spec := "fnExactBestMarks", unfollowed := true, recurses := true, apart := false }
def FnExactBestMarksSaid : Prop := fnExactBestMarksRow.holds Try.pinned (OpenSpec.ofChange fnExactBestMarksSpec)

/-- ITS FALSE NEIGHBOUR: 'it returns false'. Refute it at one input. -/
def fnExactBestMarksWrong : ChangeSpec := { name := "fnExactBestMarks", fn := fun _ => fun
  | [d1, d2, d3, d4] => { results := [.lit (.bool false)], args := [d1, d2, d3, d4] }
  | _ => none }
def FnExactBestMarksWrongFalsely : Prop := fnExactBestMarksRow.holds Try.pinned (OpenSpec.ofChange fnExactBestMarksWrong)

/- THE SECOND FORM. 'bulk': how many values and letters a reading holds, each counted each time it is reached (what is shared counts as often as it is met; a slice's spare places count too). A statement '..UptoSaid' is the law's where the arguments, and the package variables that the reading takes, are together of bulk at most 1048576: NARROWER than '..Said'. Prove '..Said' where nothing that the law and all that it calls make is longer than what came in: it says more and counts as full. Else prove '..UptoSaid'. A law counts once. -/
mutual
def uptoBulk {H : Type} : DataW H → Nat
  | .lit (.string bytes) => bytes.length + 1
  | .lit _ => 1
  | .nil => 1
  | .ptr d => uptoBulk d + 1
  | .slice elems spare => uptoBulkAll elems + uptoBulkAll spare + 1
  | .agg parts => uptoBulkAll parts + 1
  | .iface _ d => uptoBulk d + 1
  | .map entries => uptoBulkEntries entries + 1
  | .held _ => 1
def uptoBulkAll {H : Type} : List (DataW H) → Nat
  | [] => 0
  | d :: r => uptoBulk d + uptoBulkAll r
def uptoBulkEntries {H : Type} : List (Lit × DataW H) → Nat
  | [] => 0
  | x :: r => uptoBulkEntry x + uptoBulkEntries r
def uptoBulkEntry {H : Type} : Lit × DataW H → Nat
  | (.string bytes, d) => bytes.length + uptoBulk d + 1
  | (_, d) => uptoBulk d + 1
 end
def uptoSmall : (H : Type) → List (DataW H) → Bool := fun _ ds => decide (uptoBulkAll ds ≤ 1048576)
def OpenSpec.upto (s : _root_.Go.ChangeSpec) : _root_.Go.OpenSpec := { _root_.Go.OpenSpec.ofChange s with cond := some uptoSmall }

/-- 'laws.FnExactMarkPrice', WHERE WHAT IT READS IS OF BULK AT MOST 1048576: true; the input reads as it did. -/
def fnExactMarkPriceUptoRow : OpenClaim := { program := "ytehjdodmgephiaa", sum := "3d65319a801e6f2c6b04dca4867541f930fd11b6cab6dbefe9c15bff427af3bf", func := "loop.example/g00067/laws.FnExactMarkPrice", spec := "fnExactMarkPrice", apart := false, narrowed := true }
def FnExactMarkPriceUptoSaid : Prop := fnExactMarkPriceUptoRow.holds Try.pinned (OpenSpec.upto fnExactMarkPriceSpec)

/-- 'laws.FnMarks', WHERE WHAT IT READS IS OF BULK AT MOST 1048576: true; the input reads as it did. -/
def fnMarksUptoRow : OpenClaim := { program := "ytehjdodmgephiaa", sum := "3d65319a801e6f2c6b04dca4867541f930fd11b6cab6dbefe9c15bff427af3bf", func := "loop.example/g00067/laws.FnMarks", spec := "fnMarks", unfollowed := true, recurses := true, apart := false, narrowed := true }
def FnMarksUptoSaid : Prop := fnMarksUptoRow.holds Try.pinned (OpenSpec.upto fnMarksSpec)

/-- 'laws.FnExactMarkOf', WHERE WHAT IT READS IS OF BULK AT MOST 1048576: true; the input reads as it did. -/
def fnExactMarkOfUptoRow : OpenClaim := { program := "ytehjdodmgephiaa", sum := "3d65319a801e6f2c6b04dca4867541f930fd11b6cab6dbefe9c15bff427af3bf", func := "loop.example/g00067/laws.FnExactMarkOf", spec := "fnExactMarkOf", unfollowed := true, recurses := true, apart := false, narrowed := true }
def FnExactMarkOfUptoSaid : Prop := fnExactMarkOfUptoRow.holds Try.pinned (OpenSpec.upto fnExactMarkOfSpec)

/-- 'laws.FnExactBestMarks', WHERE WHAT IT READS IS OF BULK AT MOST 1048576: true; the input reads as it did. -/
def fnExactBestMarksUptoRow : OpenClaim := { program := "ytehjdodmgephiaa", sum := "3d65319a801e6f2c6b04dca4867541f930fd11b6cab6dbefe9c15bff427af3bf", func := "loop.example/g00067/laws.FnExactBestMarks", spec := "fnExactBestMarks", unfollowed := true, recurses := true, apart := false, narrowed := true }
def FnExactBestMarksUptoSaid : Prop := fnExactBestMarksUptoRow.holds Try.pinned (OpenSpec.upto fnExactBestMarksSpec)

end Rows
end Go.Proofs.Ytehjdodmgephiaa
