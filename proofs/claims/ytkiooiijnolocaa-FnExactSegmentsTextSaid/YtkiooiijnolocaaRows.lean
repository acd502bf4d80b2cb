/-
  No cell of these rows narrows 'for every input' (looked for: loops, veiled, ifaces, maps, wideKeys, modest, calm, conditions, laid).
  DERIVED. THE GIVEN ROWS OF THIS SEAT. 4 by the template 'for every input the law returns true; each argument reads behind the call as it read before'; 0 by the template 'total and deterministic' (their statements: YtkiooiijnolocaaTotals.lean).
  GIVEN WITH THE SEED: the statements are not yours to turn. If you find one false, say at which input.
  Laid BY PROGRAM, IN A SANDBOX (cutbox-rows.mjs): the forced cells as the released guide's own fill.sh prints them over the translation 83392c426669725d… (all of the seat's roots in one cut). By AI agents, Wed Nov 11 2026. No macro, syntax, notation, axiom, sorry.
-/
import Derived.Test.YtkiooiijnolocaaChecked
import GoSem.Claim
import GoSem.ClaimJoined
import GoSem.ClaimMapViews
import Derived.JoinedTies
import Derived.KernelRfl
namespace Go.Proofs.Ytkiooiijnolocaa
/- THE CELL 'sum', in the pinned program and in every row, IS THE sha256 OF THE DUMP (.gsa) THAT YtkiooiijnolocaaProg.lean LOADS. Nothing in Lean hashes anything: it is a label: what it is worth is what the hold of that sum in a sandbox is worth. -/
noncomputable def Try.pinned : Pinned := { name := "ytkiooiijnolocaa", sum := "83392c426669725d2a3bae836025d8a31e49228ee187f221b424a1beb5a9ffbd", checked := Try.checked }
namespace Rows
def none {H : Type} : Left H := { results := [], args := [] }

/-- 'laws.FnExactBonusOf': WHATEVER THE INPUT: true; the input reads as it did. -/
def fnExactBonusOfSpec : ChangeSpec := { name := "fnExactBonusOf", fn := fun _ => fun
  | [d1, d2] => { results := [.lit (.bool true)], args := [d1, d2] }
  | _ => none }
def fnExactBonusOfRow : OpenClaim := { program := "ytkiooiijnolocaa", sum := "83392c426669725d2a3bae836025d8a31e49228ee187f221b424a1beb5a9ffbd", func := "loop.example/g00067/laws.FnExactBonusOf", spec := "fnExactBonusOf", apart := false }
def FnExactBonusOfSaid : Prop := fnExactBonusOfRow.holds Try.pinned (OpenSpec.ofChange fnExactBonusOfSpec)

/-- ITS FALSE NEIGHBOUR: 'it returns false'. Refute it at one input. -/
def fnExactBonusOfWrong : ChangeSpec := { name := "fnExactBonusOf", fn := fun _ => fun
  | [d1, d2] => { results := [.lit (.bool false)], args := [d1, d2] }
  | _ => none }
def FnExactBonusOfWrongFalsely : Prop := fnExactBonusOfRow.holds Try.pinned (OpenSpec.ofChange fnExactBonusOfWrong)

/-- 'laws.FnExactReadSegments': WHATEVER THE INPUT: true; the input reads as it did. -/
def fnExactReadSegmentsSpec : ChangeSpec := { name := "fnExactReadSegments", fn := fun _ => fun
  | [d] => { results := [.lit (.bool true)], args := [d] }
  | _ => none }
def fnExactReadSegmentsRow : OpenClaim := { program := "ytkiooiijnolocaa", sum := "83392c426669725d2a3bae836025d8a31e49228ee187f221b424a1beb5a9ffbd", func := "loop.example/g00067/laws.FnExactReadSegments", spec := "fnExactReadSegments", unfollowed := true, recurses := true, apart := false }
def FnExactReadSegmentsSaid : Prop := fnExactReadSegmentsRow.holds Try.pinned (OpenSpec.ofChange fnExactReadSegmentsSpec)

/-- ITS FALSE NEIGHBOUR: 'it returns false'. Refute it at one input. -/
def fnExactReadSegmentsWrong : ChangeSpec := { name := "fnExactReadSegments", fn := fun _ => fun
  | [d] => { results := [.lit (.bool false)], args := [d] }
  | _ => none }
def FnExactReadSegmentsWrongFalsely : Prop := fnExactReadSegmentsRow.holds Try.pinned (OpenSpec.ofChange fnExactReadSegmentsWrong)

/-- 'laws.FnExactSegmentsText': WHATEVER THE INPUT: true; the input reads as it did. -/
def fnExactSegmentsTextSpec : ChangeSpec := { name := "fnExactSegmentsText", fn := fun _ => fun
  | [d] => { results := [.lit (.bool true)], args := [d] }
  | _ => none }
def fnExactSegmentsTextRow : OpenClaim := { program := "ytkiooiijnolocaa", sum := "83392c426669725d2a3bae836025d8a31e49228ee187f221b424a1beb5a9ffbd", func := "loop.example/g00067/laws.FnExactSegmentsText", spec := "fnExactSegmentsText", inPlace := ["internal/abi.NoEscape", "sync/atomic.LoadUint32", "(*internal/sync.Mutex).Lock", "internal/race.Disable", "sync/atomic.CompareAndSwapInt32", "internal/race.Enable", "internal/race.Acquire", "(*internal/sync.Mutex).lockSlow", "internal/sync.runtime_canSpin", "internal/sync.runtime_doSpin", "internal/sync.throw", "internal/sync.runtime_nanotime", "internal/sync.runtime_SemacquireMutex", "sync/atomic.AddInt32", "(*internal/sync.Mutex).Unlock", "internal/race.ReleaseMerge", "(*internal/sync.Mutex).unlockSlow", "internal/sync.fatal", "internal/sync.runtime_Semrelease", "sync/atomic.StoreUint32"], unfollowed := true, recurses := true, apart := false }
def FnExactSegmentsTextSaid : Prop := fnExactSegmentsTextRow.holds Try.pinned (OpenSpec.ofChange fnExactSegmentsTextSpec)

/-- ITS FALSE NEIGHBOUR: 'it returns false'. Refute it at one input. -/
def fnExactSegmentsTextWrong : ChangeSpec := { name := "fnExactSegmentsText", fn := fun _ => fun
  | [d] => { results := [.lit (.bool false)], args := [d] }
  | _ => none }
def FnExactSegmentsTextWrongFalsely : Prop := fnExactSegmentsTextRow.holds Try.pinned (OpenSpec.ofChange fnExactSegmentsTextWrong)

/-- 'laws.FnThreeWay': WHATEVER THE INPUT: true; the input reads as it did. -/
def fnThreeWaySpec : ChangeSpec := { name := "fnThreeWay", fn := fun _ => fun
  | [d] => { results := [.lit (.bool true)], args := [d] }
  | _ => none }
def fnThreeWayRow : OpenClaim := { program := "ytkiooiijnolocaa", sum := "83392c426669725d2a3bae836025d8a31e49228ee187f221b424a1beb5a9ffbd", func := "loop.example/g00067/laws.FnThreeWay", spec := "fnThreeWay", unfollowed := true, recurses := true, apart := false }
def FnThreeWaySaid : Prop := fnThreeWayRow.holds Try.pinned (OpenSpec.ofChange fnThreeWaySpec)

/-- ITS FALSE NEIGHBOUR: 'it returns false'. Refute it at one input. -/
def fnThreeWayWrong : ChangeSpec := { name := "fnThreeWay", fn := fun _ => fun
  | [d] => { results := [.lit (.bool false)], args := [d] }
  | _ => none }
def FnThreeWayWrongFalsely : Prop := fnThreeWayRow.holds Try.pinned (OpenSpec.ofChange fnThreeWayWrong)

/- THE SECOND FORM. 'bulk': how many values and letters a reading holds, each counted each time it is reached (what is shared counts as often as it is met; a slice's spare places count too). A statement '..UptoSaid' is the law's where the arguments, and the package variables that the reading takes, are together of bulk at most 1048576: NARROWER than '..Said'. Prove '..Said' where nothing that the law and all that it calls make is longer than what came in: it says more and counts as full. Else prove '..UptoSaid'. A law counts once. -/
mutual
def uptoBulk {H : Type} : DataW H → Nat
  | .lit (.string bytes) => bytes.length + 1
  | .lit _ => 1
  | .nil => 1
  | .ptr d => uptoBulk d + 1
  | .slice elems spare => uptoBulkAll elems + uptoBulkAll spare + 1
  | .agg parts => uptoBulkAll parts + 1
  | .iface _ d => uptoBulk d + 1
  | .map entries => uptoBulkEntries entries + 1
  | .held _ => 1
def uptoBulkAll {H : Type} : List (DataW H) → Nat
  | [] => 0
  | d :: r => uptoBulk d + uptoBulkAll r
def uptoBulkEntries {H : Type} : List (Lit × DataW H) → Nat
  | [] => 0
  | x :: r => uptoBulkEntry x + uptoBulkEntries r
def uptoBulkEntry {H : Type} : Lit × DataW H → Nat
  | (.string bytes, d) => bytes.length + uptoBulk d + 1
  | (_, d) => uptoBulk d + 1
 end
def uptoSmall : (H : Type) → List (DataW H) → Bool := fun _ ds => decide (uptoBulkAll ds ≤ 1048576)
def OpenSpec.upto (s : _root_.Go.ChangeSpec) : _root_.Go.OpenSpec := { _root_.Go.OpenSpec.ofChange s with cond := some uptoSmall }

/-- 'laws.FnExactBonusOf', WHERE WHAT IT READS IS OF BULK AT MOST 1048576: true; the input reads as it did. -/
def fnExactBonusOfUptoRow : OpenClaim := { program := "ytkiooiijnolocaa", sum := "83392c426669725d2a3bae836025d8a31e49228ee187f221b424a1beb5a9ffbd", func := "loop.example/g00067/laws.FnExactBonusOf", spec := "fnExactBonusOf", apart := false, narrowed := true }
def FnExactBonusOfUptoSaid : Prop := fnExactBonusOfUptoRow.holds Try.pinned (OpenSpec.upto fnExactBonusOfSpec)

/-- 'laws.FnExactReadSegments', WHERE WHAT IT READS IS OF BULK AT MOST 1048576: true; the input reads as it did. -/
def fnExactReadSegmentsUptoRow : OpenClaim := { program := "ytkiooiijnolocaa", sum := "83392c426669725d2a3bae836025d8a31e49228ee187f221b424a1beb5a9ffbd", func := "loop.example/g00067/laws.FnExactReadSegments", spec := "fnExactReadSegments", unfollowed := true, recurses := true, apart := false, narrowed := true }
def FnExactReadSegmentsUptoSaid : Prop := fnExactReadSegmentsUptoRow.holds Try.pinned (OpenSpec.upto fnExactReadSegmentsSpec)

/-- 'laws.FnExactSegmentsText', WHERE WHAT IT READS IS OF BULK AT MOST 1048576: true; the input reads as it did. -/
def fnExactSegmentsTextUptoRow : OpenClaim := { program := "ytkiooiijnolocaa", sum := "83392c426669725d2a3bae836025d8a31e49228ee187f221b424a1beb5a9ffbd", func := "loop.example/g00067/laws.FnExactSegmentsText", spec := "fnExactSegmentsText", inPlace := ["internal/abi.NoEscape", "sync/atomic.LoadUint32", "(*internal/sync.Mutex).Lock", "internal/race.Disable", "sync/atomic.CompareAndSwapInt32", "internal/race.Enable", "internal/race.Acquire", "(*internal/sync.Mutex).lockSlow", "internal/sync.runtime_canSpin", "internal/sync.runtime_doSpin", "internal/sync.throw", "internal/sync.runtime_nanotime", "internal/sync.runtime_SemacquireMutex", "sync/atomic.AddInt32", "(*internal/sync.Mutex).Unlock", "internal/race.ReleaseMerge", "(*internal/sync.Mutex).unlockSlow", "internal/sync.fatal", "internal/sync.runtime_Semrelease", "sync/atomic.StoreUint32"], unfollowed := true, recurses := true, apart := false, narrowed := true }
def FnExactSegmentsTextUptoSaid : Prop := fnExactSegmentsTextUptoRow.holds Try.pinned (OpenSpec.upto fnExactSegmentsTextSpec)

/-- 'laws.FnThreeWay', WHERE WHAT IT READS IS OF BULK AT MOST 1048576: true; the input reads as it did. -/
def fnThreeWayUptoRow : OpenClaim := { program := "ytkiooiijnolocaa", sum := "83392c426669725d2a3bae836025d8a31e49228ee187f221b424a1beb5a9ffbd", func := "loop.example/g00067/laws.FnThreeWay", spec := "fnThreeWay", unfollowed := true, recurses := true, apart := false, narrowed := true }
def FnThreeWayUptoSaid : Prop := fnThreeWayUptoRow.holds Try.pinned (OpenSpec.upto fnThreeWaySpec)

end Rows
end Go.Proofs.Ytkiooiijnolocaa
