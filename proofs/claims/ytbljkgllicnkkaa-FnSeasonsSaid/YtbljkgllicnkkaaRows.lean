/-
  No cell of these rows narrows 'for every input' (looked for: loops, veiled, ifaces, maps, wideKeys, modest, calm, conditions, laid).
  DERIVED. THE GIVEN ROWS OF THIS SEAT. 7 by the template 'for every input the law returns true; each argument reads behind the call as it read before'; 0 by the template 'total and deterministic' (their statements: YtbljkgllicnkkaaTotals.lean).
  GIVEN WITH THE SEED: the statements are not yours to turn. If you find one false, say at which input.
  Laid BY PROGRAM, IN A SANDBOX (cutbox-rows.mjs): the forced cells as the released guide's own fill.sh prints them over the translation 707ac22303c375fe… (all of the seat's roots in one cut). By AI agents, Wed Nov 11 2026. No macro, syntax, notation, axiom, sorry.
-/
import Derived.Test.YtbljkgllicnkkaaChecked
import GoSem.Claim
import GoSem.ClaimJoined
import GoSem.ClaimMapViews
import Derived.JoinedTies
import Derived.KernelRfl
namespace Go.Proofs.Ytbljkgllicnkkaa
/- THE CELL 'sum', in the pinned program and in every row, IS THE sha256 OF THE DUMP (.gsa) THAT YtbljkgllicnkkaaProg.lean LOADS. Nothing in Lean hashes anything: it is a label: what it is worth is what the hold of that sum in a sandbox is worth. -/
noncomputable def Try.pinned : Pinned := { name := "ytbljkgllicnkkaa", sum := "707ac22303c375fe3610f84d3392da1e731f866fa0a279702057b72969c8ebd9", checked := Try.checked }
namespace Rows
def none {H : Type} : Left H := { results := [], args := [] }

/-- 'laws.FnSmooth': WHATEVER THE INPUT: true; the input reads as it did. -/
def fnSmoothSpec : ChangeSpec := { name := "fnSmooth", fn := fun _ => fun
  | [d1, d2] => { results := [.lit (.bool true)], args := [d1, d2] }
  | _ => none }
def fnSmoothRow : OpenClaim := { program := "ytbljkgllicnkkaa", sum := "707ac22303c375fe3610f84d3392da1e731f866fa0a279702057b72969c8ebd9", func := "loop.example/g00067/laws.FnSmooth", spec := "fnSmooth", unfollowed := true, recurses := true, apart := false }
def FnSmoothSaid : Prop := fnSmoothRow.holds Try.pinned (OpenSpec.ofChange fnSmoothSpec)

/-- ITS FALSE NEIGHBOUR: 'it returns false'. Refute it at one input. -/
def fnSmoothWrong : ChangeSpec := { name := "fnSmooth", fn := fun _ => fun
  | [d1, d2] => { results := [.lit (.bool false)], args := [d1, d2] }
  | _ => none }
def FnSmoothWrongFalsely : Prop := fnSmoothRow.holds Try.pinned (OpenSpec.ofChange fnSmoothWrong)

/-- 'laws.FnOdds': WHATEVER THE INPUT: true; the input reads as it did. -/
def fnOddsSpec : ChangeSpec := { name := "fnOdds", fn := fun _ => fun
  | [d] => { results := [.lit (.bool true)], args := [d] }
  | _ => none }
def fnOddsRow : OpenClaim := { program := "ytbljkgllicnkkaa", sum := "707ac22303c375fe3610f84d3392da1e731f866fa0a279702057b72969c8ebd9", func := "loop.example/g00067/laws.FnOdds", spec := "fnOdds", unfollowed := true, recurses := true, apart := false }
def FnOddsSaid : Prop := fnOddsRow.holds Try.pinned (OpenSpec.ofChange fnOddsSpec)

/-- ITS FALSE NEIGHBOUR: 'it returns false'. Refute it at one input. -/
def fnOddsWrong : ChangeSpec := { name := "fnOdds", fn := fun _ => fun
  | [d] => { results := [.lit (.bool false)], args := [d] }
  | _ => none }
def FnOddsWrongFalsely : Prop := fnOddsRow.holds Try.pinned (OpenSpec.ofChange fnOddsWrong)

/-- 'laws.FnExactOdds': WHATEVER THE INPUT: true; the input reads as it did. -/
def fnExactOddsSpec : ChangeSpec := { name := "fnExactOdds", fn := fun _ => fun
  | [d1, d2] => { results := [.lit (.bool true)], args := [d1, d2] }
  | _ => none }
def fnExactOddsRow : OpenClaim := { program := "ytbljkgllicnkkaa", sum := "707ac22303c375fe3610f84d3392da1e731f866fa0a279702057b72969c8ebd9", func := "loop.example/g00067/laws.FnExactOdds", spec := "fnExactOdds", unfollowed := true, recurses := true, apart := false }
def FnExactOddsSaid : Prop := fnExactOddsRow.holds Try.pinned (OpenSpec.ofChange fnExactOddsSpec)

/-- ITS FALSE NEIGHBOUR: 'it returns false'. Refute it at one input. -/
def fnExactOddsWrong : ChangeSpec := { name := "fnExactOdds", fn := fun _ => fun
  | [d1, d2] => { results := [.lit (.bool false)], args := [d1, d2] }
  | _ => none }
def FnExactOddsWrongFalsely : Prop := fnExactOddsRow.holds Try.pinned (OpenSpec.ofChange fnExactOddsWrong)

/-- 'laws.FnExactSmooth': WHATEVER THE INPUT: true; the input reads as it did. -/
def fnExactSmoothSpec : ChangeSpec := { name := "fnExactSmooth", fn := fun _ => fun
  | [d1, d2, d3] => { results := [.lit (.bool true)], args := [d1, d2, d3] }
  | _ => none }
def fnExactSmoothRow : OpenClaim := { program := "ytbljkgllicnkkaa", sum := "707ac22303c375fe3610f84d3392da1e731f866fa0a279702057b72969c8ebd9", func := "loop.example/g00067/laws.FnExactSmooth", spec := "fnExactSmooth", unfollowed := true, recurses := true, apart := false }
def FnExactSmoothSaid : Prop := fnExactSmoothRow.holds Try.pinned (OpenSpec.ofChange fnExactSmoothSpec)

/-- ITS FALSE NEIGHBOUR: 'it returns false'. Refute it at one input. -/
def fnExactSmoothWrong : ChangeSpec := { name := "fnExactSmooth", fn := fun _ => fun
  | [d1, d2, d3] => { results := [.lit (.bool false)], args := [d1, d2, d3] }
  | _ => none }
def FnExactSmoothWrongFalsely : Prop := fnExactSmoothRow.holds Try.pinned (OpenSpec.ofChange fnExactSmoothWrong)

/-- 'laws.FnSeasons': WHATEVER THE INPUT: true; the input reads as it did. -/
def fnSeasonsSpec : ChangeSpec := { name := "fnSeasons", fn := fun _ => fun
  | [d1, d2] => { results := [.lit (.bool true)], args := [d1, d2] }
  | _ => none }
def fnSeasonsRow : OpenClaim := { program := "ytbljkgllicnkkaa", sum := "707ac22303c375fe3610f84d3392da1e731f866fa0a279702057b72969c8ebd9", func := "loop.example/g00067/laws.FnSeasons", spec := "fnSeasons", unfollowed := true, recurses := true, apart := false }
def FnSeasonsSaid : Prop := fnSeasonsRow.holds Try.pinned (OpenSpec.ofChange fnSeasonsSpec)

/-- ITS FALSE NEIGHBOUR: 'it returns false'. Refute it at one input. -/
def fnSeasonsWrong : ChangeSpec := { name := "fnSeasons", fn := fun _ => fun
  | [d1, d2] => { results := [.lit (.bool false)], args := [d1, d2] }
  | _ => none }
def FnSeasonsWrongFalsely : Prop := fnSeasonsRow.holds Try.pinned (OpenSpec.ofChange fnSeasonsWrong)

/-- 'laws.FnExactSafeLevel': WHATEVER THE INPUT: true; the input reads as it did. -/
def fnExactSafeLevelSpec : ChangeSpec := { name := "fnExactSafeLevel", fn := fun _ => fun
  | [d1, d2, d3, d4] => { results := [.lit (.bool true)], args := [d1, d2, d3, d4] }
  | _ => none }
def fnExactSafeLevelRow : OpenClaim := { program := "ytbljkgllicnkkaa", sum := "707ac22303c375fe3610f84d3392da1e731f866fa0a279702057b72969c8ebd9", func := "loop.example/g00067/laws.FnExactSafeLevel", spec := "fnExactSafeLevel", unfollowed := true, recurses := true, apart := false }
def FnExactSafeLevelSaid : Prop := fnExactSafeLevelRow.holds Try.pinned (OpenSpec.ofChange fnExactSafeLevelSpec)

/-- ITS FALSE NEIGHBOUR: 'it returns false'. Refute it at one input. -/
def fnExactSafeLevelWrong : ChangeSpec := { name := "fnExactSafeLevel", fn := fun _ => fun
  | [d1, d2, d3, d4] => { results := [.lit (.bool false)], args := [d1, d2, d3, d4] }
  | _ => none }
def FnExactSafeLevelWrongFalsely : Prop := fnExactSafeLevelRow.holds Try.pinned (OpenSpec.ofChange fnExactSafeLevelWrong)

/-- 'laws.FnExactSeasons': WHATEVER THE INPUT: true; the input reads as it did. -/
def fnExactSeasonsSpec : ChangeSpec := { name := "fnExactSeasons", fn := fun _ => fun
  | [d1, d2] => { results := [.lit (.bool true)], args := [d1, d2] }
  | _ => none }
def fnExactSeasonsRow : OpenClaim := { program := "ytbljkgllicnkkaa", sum := "707ac22303c375fe3610f84d3392da1e731f866fa0a279702057b72969c8ebd9", func := "loop.example/g00067/laws.FnExactSeasons", spec := "fnExactSeasons", unfollowed := true, recurses := true, apart := false }
def FnExactSeasonsSaid : Prop := fnExactSeasonsRow.holds Try.pinned (OpenSpec.ofChange fnExactSeasonsSpec)

/-- ITS FALSE NEIGHBOUR: 'it returns false'. Refute it at one input. -/
def fnExactSeasonsWrong : ChangeSpec := { name := "fnExactSeasons", fn := fun _ => fun
  | [d1, d2] => { results := [.lit (.bool false)], args := [d1, d2] }
  | _ => none }
def FnExactSeasonsWrongFalsely : Prop := fnExactSeasonsRow.holds Try.pinned (OpenSpec.ofChange fnExactSeasonsWrong)

/- THE SECOND FORM. 'bulk': how many values and letters a reading holds, each counted each time it is reached (what is shared counts as often as it is met; a slice's spare places count too). A statement '..UptoSaid' is the law's where the arguments, and the package variables that the reading takes, are together of bulk at most 1048576: NARROWER than '..Said'. Prove '..Said' where nothing that the law and all that it calls make is longer than what came in: it says more and counts as full. Else prove '..UptoSaid'. A law counts once. -/
mutual
def uptoBulk {H : Type} : DataW H → Nat
  | .lit (.string bytes) => bytes.length + 1
  | .lit _ => 1
  | .nil => 1
  | .ptr d => uptoBulk d + 1
  | .slice elems spare => uptoBulkAll elems + uptoBulkAll spare + 1
  | .agg parts => uptoBulkAll parts + 1
  | .iface _ d => uptoBulk d + 1
  | .map entries => uptoBulkEntries entries + 1
  | .held _ => 1
def uptoBulkAll {H : Type} : List (DataW H) → Nat
  | [] => 0
  | d :: r => uptoBulk d + uptoBulkAll r
def uptoBulkEntries {H : Type} : List (Lit × DataW H) → Nat
  | [] => 0
  | x :: r => uptoBulkEntry x + uptoBulkEntries r
def uptoBulkEntry {H : Type} : Lit × DataW H → Nat
  | (.string bytes, d) => bytes.length + uptoBulk d + 1
  | (_, d) => uptoBulk d + 1
 end
def uptoSmall : (H : Type) → List (DataW H) → Bool := fun _ ds => decide (uptoBulkAll ds ≤ 1048576)
def OpenSpec.upto (s : _root_.Go.ChangeSpec) : _root_.Go.OpenSpec := { _root_.Go.OpenSpec.ofChange s with cond := some uptoSmall }

/-- 'laws.FnSmooth', WHERE WHAT IT READS IS OF BULK AT MOST 1048576: true; the input reads as it did. -/
def fnSmoothUptoRow : OpenClaim := { program := "ytbljkgllicnkkaa", sum := "707ac22303c375fe3610f84d3392da1e731f866fa0a279702057b72969c8ebd9", func := "loop.example/g00067/laws.FnSmooth", spec := "fnSmooth", unfollowed := true, recurses := true, apart := false, narrowed := true }
def FnSmoothUptoSaid : Prop := fnSmoothUptoRow.holds Try.pinned (OpenSpec.upto fnSmoothSpec)

/-- 'laws.FnOdds', WHERE WHAT IT READS IS OF BULK AT MOST 1048576: true; the input reads as it did. -/
def fnOddsUptoRow : OpenClaim := { program := "ytbljkgllicnkkaa", sum := "707ac22303c375fe3610f84d3392da1e731f866fa0a279702057b72969c8ebd9", func := "loop.example/g00067/laws.FnOdds", spec := "fnOdds", unfollowed := true, recurses := true, apart := false, narrowed := true }
def FnOddsUptoSaid : Prop := fnOddsUptoRow.holds Try.pinned (OpenSpec.upto fnOddsSpec)

/-- 'laws.FnExactOdds', WHERE WHAT IT READS IS OF BULK AT MOST 1048576: true; the input reads as it did. -/
def fnExactOddsUptoRow : OpenClaim := { program := "ytbljkgllicnkkaa", sum := "707ac22303c375fe3610f84d3392da1e731f866fa0a279702057b72969c8ebd9", func := "loop.example/g00067/laws.FnExactOdds", spec := "fnExactOdds", unfollowed := true, recurses := true, apart := false, narrowed := true }
def FnExactOddsUptoSaid : Prop := fnExactOddsUptoRow.holds Try.pinned (OpenSpec.upto fnExactOddsSpec)

/-- 'laws.FnExactSmooth', WHERE WHAT IT READS IS OF BULK AT MOST 1048576: true; the input reads as it did. -/
def fnExactSmoothUptoRow : OpenClaim := { program := "ytbljkgllicnkkaa", sum := "707ac22303c375fe3610f84d3392da1e731f866fa0a279702057b72969c8ebd9", func := "loop.example/g00067/laws.FnExactSmooth", spec := "fnExactSmooth", unfollowed := true, recurses := true, apart := false, narrowed := true }
def FnExactSmoothUptoSaid : Prop := fnExactSmoothUptoRow.holds Try.pinned (OpenSpec.upto fnExactSmoothSpec)

/-- 'laws.FnSeasons', WHERE WHAT IT READS IS OF BULK AT MOST 1048576: true; the input reads as it did. -/
def fnSeasonsUptoRow : OpenClaim := { program := "ytbljkgllicnkkaa", sum := "707ac22303c375fe3610f84d3392da1e731f866fa0a279702057b72969c8ebd9", func := "loop.example/g00067/laws.FnSeasons", spec := "fnSeasons", unfollowed := true, recurses := true, apart := false, narrowed := true }
def FnSeasonsUptoSaid : Prop := fnSeasonsUptoRow.holds Try.pinned (OpenSpec.upto fnSeasonsSpec)

/-- 'laws.FnExactSafeLevel', WHERE WHAT IT READS IS OF BULK AT MOST 1048576: true; the input reads as it did. -/
def fnExactSafeLevelUptoRow : OpenClaim := { program := "ytbljkgllicnkkaa", sum := "707ac22303c375fe3610f84d3392da1e731f866fa0a279702057b72969c8ebd9", func := "loop.example/g00067/laws.FnExactSafeLevel", spec := "fnExactSafeLevel", unfollowed := true, recurses := true, apart := false, narrowed := true }
def FnExactSafeLevelUptoSaid : Prop := fnExactSafeLevelUptoRow.holds Try.pinned (OpenSpec.upto fnExactSafeLevelSpec)

/-- 'laws.FnExactSeasons', WHERE WHAT IT READS IS OF BULK AT MOST 1048576: true; the input reads as it did. -/
def fnExactSeasonsUptoRow : OpenClaim := { program := "ytbljkgllicnkkaa", sum := "707ac22303c375fe3610f84d3392da1e731f866fa0a279702057b72969c8ebd9", func := "loop.example/g00067/laws.FnExactSeasons", spec := "fnExactSeasons", unfollowed := true, recurses := true, apart := false, narrowed := true }
def FnExactSeasonsUptoSaid : Prop := fnExactSeasonsUptoRow.holds Try.pinned (OpenSpec.upto fnExactSeasonsSpec)

end Rows
end Go.Proofs.Ytbljkgllicnkkaa
