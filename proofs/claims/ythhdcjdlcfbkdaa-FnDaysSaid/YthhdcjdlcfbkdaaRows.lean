/-
  No cell of these rows narrows 'for every input' (looked for: loops, veiled, ifaces, maps, wideKeys, modest, calm, conditions, laid).
  DERIVED. THE GIVEN ROWS OF THIS SEAT. 8 by the template 'for every input the law returns true; each argument reads behind the call as it read before'; 0 by the template 'total and deterministic' (their statements: YthhdcjdlcfbkdaaTotals.lean).
  GIVEN WITH THE SEED: the statements are not yours to turn. If you find one false, say at which input.
  Laid BY PROGRAM, IN A SANDBOX (cutbox-rows.mjs): the forced cells as the released guide's own fill.sh prints them over the translation c2b11941d6026593… (all of the seat's roots in one cut). By AI agents, Wed Nov 11 2026. No macro, syntax, notation, axiom, sorry.
-/
import Derived.Test.YthhdcjdlcfbkdaaChecked
import GoSem.Claim
import GoSem.ClaimJoined
import GoSem.ClaimMapViews
import Derived.JoinedTies
import Derived.KernelRfl
namespace Go.Proofs.Ythhdcjdlcfbkdaa
/- THE CELL 'sum', in the pinned program and in every row, IS THE sha256 OF THE DUMP (.gsa) THAT YthhdcjdlcfbkdaaProg.lean LOADS. Nothing in Lean hashes anything: it is a label: what it is worth is what the hold of that sum in a sandbox is worth. -/
noncomputable def Try.pinned : Pinned := { name := "ythhdcjdlcfbkdaa", sum := "c2b11941d602659367bbc278d87dea8d6d340dc562cf8c650cc1cdfc4733fee9", checked := Try.checked }
namespace Rows
def none {H : Type} : Left H := { results := [], args := [] }

/-- 'laws.FnExactNeedOK': WHATEVER THE INPUT: true; the input reads as it did. -/
def fnExactNeedOKSpec : ChangeSpec := { name := "fnExactNeedOK", fn := fun _ => fun
  | [d] => { results := [.lit (.bool true)], args := [d] }
  | _ => none }
def fnExactNeedOKRow : OpenClaim := { program := "ythhdcjdlcfbkdaa", sum := "c2b11941d602659367bbc278d87dea8d6d340dc562cf8c650cc1cdfc4733fee9", func := "loop.example/g00067/laws.FnExactNeedOK", spec := "fnExactNeedOK", unfollowed := true, recurses := true, apart := false }
def FnExactNeedOKSaid : Prop := fnExactNeedOKRow.holds Try.pinned (OpenSpec.ofChange fnExactNeedOKSpec)

/-- ITS FALSE NEIGHBOUR: 'it returns false'. Refute it at one input. -/
def fnExactNeedOKWrong : ChangeSpec := { name := "fnExactNeedOK", fn := fun _ => fun
  | [d] => { results := [.lit (.bool false)], args := [d] }
  | _ => none }
def FnExactNeedOKWrongFalsely : Prop := fnExactNeedOKRow.holds Try.pinned (OpenSpec.ofChange fnExactNeedOKWrong)

/-- 'laws.FnExactOrderFor': WHATEVER THE INPUT: true; the input reads as it did. -/
def fnExactOrderForSpec : ChangeSpec := { name := "fnExactOrderFor", fn := fun _ => fun
  | [d] => { results := [.lit (.bool true)], args := [d] }
  | _ => none }
def fnExactOrderForRow : OpenClaim := { program := "ythhdcjdlcfbkdaa", sum := "c2b11941d602659367bbc278d87dea8d6d340dc562cf8c650cc1cdfc4733fee9", func := "loop.example/g00067/laws.FnExactOrderFor", spec := "fnExactOrderFor", unfollowed := true, recurses := true, apart := false }
def FnExactOrderForSaid : Prop := fnExactOrderForRow.holds Try.pinned (OpenSpec.ofChange fnExactOrderForSpec)

/-- ITS FALSE NEIGHBOUR: 'it returns false'. Refute it at one input. -/
def fnExactOrderForWrong : ChangeSpec := { name := "fnExactOrderFor", fn := fun _ => fun
  | [d] => { results := [.lit (.bool false)], args := [d] }
  | _ => none }
def FnExactOrderForWrongFalsely : Prop := fnExactOrderForRow.holds Try.pinned (OpenSpec.ofChange fnExactOrderForWrong)

/-- 'laws.FnTrucks': WHATEVER THE INPUT: true; the input reads as it did. -/
def fnTrucksSpec : ChangeSpec := { name := "fnTrucks", fn := fun _ => fun
  | [d] => { results := [.lit (.bool true)], args := [d] }
  | _ => none }
def fnTrucksRow : OpenClaim := { program := "ythhdcjdlcfbkdaa", sum := "c2b11941d602659367bbc278d87dea8d6d340dc562cf8c650cc1cdfc4733fee9", func := "loop.example/g00067/laws.FnTrucks", spec := "fnTrucks", unfollowed := true, recurses := true, apart := false }
def FnTrucksSaid : Prop := fnTrucksRow.holds Try.pinned (OpenSpec.ofChange fnTrucksSpec)

/-- ITS FALSE NEIGHBOUR: 'it returns false'. Refute it at one input. -/
def fnTrucksWrong : ChangeSpec := { name := "fnTrucks", fn := fun _ => fun
  | [d] => { results := [.lit (.bool false)], args := [d] }
  | _ => none }
def FnTrucksWrongFalsely : Prop := fnTrucksRow.holds Try.pinned (OpenSpec.ofChange fnTrucksWrong)

/-- 'laws.FnOrder': WHATEVER THE INPUT: true; the input reads as it did. -/
def fnOrderSpec : ChangeSpec := { name := "fnOrder", fn := fun _ => fun
  | [d] => { results := [.lit (.bool true)], args := [d] }
  | _ => none }
def fnOrderRow : OpenClaim := { program := "ythhdcjdlcfbkdaa", sum := "c2b11941d602659367bbc278d87dea8d6d340dc562cf8c650cc1cdfc4733fee9", func := "loop.example/g00067/laws.FnOrder", spec := "fnOrder", unfollowed := true, recurses := true, apart := false }
def FnOrderSaid : Prop := fnOrderRow.holds Try.pinned (OpenSpec.ofChange fnOrderSpec)

/-- ITS FALSE NEIGHBOUR: 'it returns false'. Refute it at one input. -/
def fnOrderWrong : ChangeSpec := { name := "fnOrder", fn := fun _ => fun
  | [d] => { results := [.lit (.bool false)], args := [d] }
  | _ => none }
def FnOrderWrongFalsely : Prop := fnOrderRow.holds Try.pinned (OpenSpec.ofChange fnOrderWrong)

/-- 'laws.FnExactNextDay': WHATEVER THE INPUT: true; the input reads as it did. -/
def fnExactNextDaySpec : ChangeSpec := { name := "fnExactNextDay", fn := fun _ => fun
  | [d1, d2, d3] => { results := [.lit (.bool true)], args := [d1, d2, d3] }
  | _ => none }
def fnExactNextDayRow : OpenClaim := { program := "ythhdcjdlcfbkdaa", sum := "c2b11941d602659367bbc278d87dea8d6d340dc562cf8c650cc1cdfc4733fee9", func := "loop.example/g00067/laws.FnExactNextDay", spec := "fnExactNextDay", apart := false }
def FnExactNextDaySaid : Prop := fnExactNextDayRow.holds Try.pinned (OpenSpec.ofChange fnExactNextDaySpec)

/-- ITS FALSE NEIGHBOUR: 'it returns false'. Refute it at one input. -/
def fnExactNextDayWrong : ChangeSpec := { name := "fnExactNextDay", fn := fun _ => fun
  | [d1, d2, d3] => { results := [.lit (.bool false)], args := [d1, d2, d3] }
  | _ => none }
def FnExactNextDayWrongFalsely : Prop := fnExactNextDayRow.holds Try.pinned (OpenSpec.ofChange fnExactNextDayWrong)

/-- 'laws.FnDays': WHATEVER THE INPUT: true; the input reads as it did. -/
def fnDaysSpec : ChangeSpec := { name := "fnDays", fn := fun _ => fun
  | [d1, d2] => { results := [.lit (.bool true)], args := [d1, d2] }
  | _ => none }
def fnDaysRow : OpenClaim := { program := "ythhdcjdlcfbkdaa", sum := "c2b11941d602659367bbc278d87dea8d6d340dc562cf8c650cc1cdfc4733fee9", func := "loop.example/g00067/laws.FnDays", spec := "fnDays", apart := false }
def FnDaysSaid : Prop := fnDaysRow.holds Try.pinned (OpenSpec.ofChange fnDaysSpec)

/-- ITS FALSE NEIGHBOUR: 'it returns false'. Refute it at one input. -/
def fnDaysWrong : ChangeSpec := { name := "fnDays", fn := fun _ => fun
  | [d1, d2] => { results := [.lit (.bool false)], args := [d1, d2] }
  | _ => none }
def FnDaysWrongFalsely : Prop := fnDaysRow.holds Try.pinned (OpenSpec.ofChange fnDaysWrong)

/-- 'laws.FnExactDeliveryDays': WHATEVER THE INPUT: true; the input reads as it did. -/
def fnExactDeliveryDaysSpec : ChangeSpec := { name := "fnExactDeliveryDays", fn := fun _ => fun
  | [d1, d2, d3, d4] => { results := [.lit (.bool true)], args := [d1, d2, d3, d4] }
  | _ => none }
def fnExactDeliveryDaysRow : OpenClaim := { program := "ythhdcjdlcfbkdaa", sum := "c2b11941d602659367bbc278d87dea8d6d340dc562cf8c650cc1cdfc4733fee9", func := "loop.example/g00067/laws.FnExactDeliveryDays", spec := "fnExactDeliveryDays", apart := false }
def FnExactDeliveryDaysSaid : Prop := fnExactDeliveryDaysRow.holds Try.pinned (OpenSpec.ofChange fnExactDeliveryDaysSpec)

/-- ITS FALSE NEIGHBOUR: 'it returns false'. Refute it at one input. -/
def fnExactDeliveryDaysWrong : ChangeSpec := { name := "fnExactDeliveryDays", fn := fun _ => fun
  | [d1, d2, d3, d4] => { results := [.lit (.bool false)], args := [d1, d2, d3, d4] }
  | _ => none }
def FnExactDeliveryDaysWrongFalsely : Prop := fnExactDeliveryDaysRow.holds Try.pinned (OpenSpec.ofChange fnExactDeliveryDaysWrong)

/-- 'laws.FnExactFillTrucks': WHATEVER THE INPUT: true; the input reads as it did. -/
def fnExactFillTrucksSpec : ChangeSpec := { name := "fnExactFillTrucks", fn := fun _ => fun
  | [d1, d2] => { results := [.lit (.bool true)], args := [d1, d2] }
  | _ => none }
def fnExactFillTrucksRow : OpenClaim := { program := "ythhdcjdlcfbkdaa", sum := "c2b11941d602659367bbc278d87dea8d6d340dc562cf8c650cc1cdfc4733fee9", func := "loop.example/g00067/laws.FnExactFillTrucks", spec := "fnExactFillTrucks", unfollowed := true, recurses := true, apart := false }
def FnExactFillTrucksSaid : Prop := fnExactFillTrucksRow.holds Try.pinned (OpenSpec.ofChange fnExactFillTrucksSpec)

/-- ITS FALSE NEIGHBOUR: 'it returns false'. Refute it at one input. -/
def fnExactFillTrucksWrong : ChangeSpec := { name := "fnExactFillTrucks", fn := fun _ => fun
  | [d1, d2] => { results := [.lit (.bool false)], args := [d1, d2] }
  | _ => none }
def FnExactFillTrucksWrongFalsely : Prop := fnExactFillTrucksRow.holds Try.pinned (OpenSpec.ofChange fnExactFillTrucksWrong)

/- THE SECOND FORM. 'bulk': how many values and letters a reading holds, each counted each time it is reached (what is shared counts as often as it is met; a slice's spare places count too). A statement '..UptoSaid' is the law's where the arguments, and the package variables that the reading takes, are together of bulk at most 1048576: NARROWER than '..Said'. Prove '..Said' where nothing that the law and all that it calls make is longer than what came in: it says more and counts as full. Else prove '..UptoSaid'. A law counts once. -/
mutual
def uptoBulk {H : Type} : DataW H → Nat
  | .lit (.string bytes) => bytes.length + 1
  | .lit _ => 1
  | .nil => 1
  | .ptr d => uptoBulk d + 1
  | .slice elems spare => uptoBulkAll elems + uptoBulkAll spare + 1
  | .agg parts => uptoBulkAll parts + 1
  | .iface _ d => uptoBulk d + 1
  | .map entries => uptoBulkEntries entries + 1
  | .held _ => 1
def uptoBulkAll {H : Type} : List (DataW H) → Nat
  | [] => 0
  | d :: r => uptoBulk d + uptoBulkAll r
def uptoBulkEntries {H : Type} : List (Lit × DataW H) → Nat
  | [] => 0
  | x :: r => uptoBulkEntry x + uptoBulkEntries r
def uptoBulkEntry {H : Type} : Lit × DataW H → Nat
  | (.string bytes, d) => bytes.length + uptoBulk d + 1
  | (_, d) => uptoBulk d + 1
 end
def uptoSmall : (H : Type) → List (DataW H) → Bool := fun _ ds => decide (uptoBulkAll ds ≤ 1048576)
def OpenSpec.upto (s : _root_.Go.ChangeSpec) : _root_.Go.OpenSpec := { _root_.Go.OpenSpec.ofChange s with cond := some uptoSmall }

/-- 'laws.FnExactNeedOK', WHERE WHAT IT READS IS OF BULK AT MOST 1048576: true; the input reads as it did. -/
def fnExactNeedOKUptoRow : OpenClaim := { program := "ythhdcjdlcfbkdaa", sum := "c2b11941d602659367bbc278d87dea8d6d340dc562cf8c650cc1cdfc4733fee9", func := "loop.example/g00067/laws.FnExactNeedOK", spec := "fnExactNeedOK", unfollowed := true, recurses := true, apart := false, narrowed := true }
def FnExactNeedOKUptoSaid : Prop := fnExactNeedOKUptoRow.holds Try.pinned (OpenSpec.upto fnExactNeedOKSpec)

/-- 'laws.FnExactOrderFor', WHERE WHAT IT READS IS OF BULK AT MOST 1048576: true; the input reads as it did. -/
def fnExactOrderForUptoRow : OpenClaim := { program := "ythhdcjdlcfbkdaa", sum := "c2b11941d602659367bbc278d87dea8d6d340dc562cf8c650cc1cdfc4733fee9", func := "loop.example/g00067/laws.FnExactOrderFor", spec := "fnExactOrderFor", unfollowed := true, recurses := true, apart := false, narrowed := true }
def FnExactOrderForUptoSaid : Prop := fnExactOrderForUptoRow.holds Try.pinned (OpenSpec.upto fnExactOrderForSpec)

/-- 'laws.FnTrucks', WHERE WHAT IT READS IS OF BULK AT MOST 1048576: true; the input reads as it did. -/
def fnTrucksUptoRow : OpenClaim := { program := "ythhdcjdlcfbkdaa", sum := "c2b11941d602659367bbc278d87dea8d6d340dc562cf8c650cc1cdfc4733fee9", func := "loop.example/g00067/laws.FnTrucks", spec := "fnTrucks", unfollowed := true, recurses := true, apart := false, narrowed := true }
def FnTrucksUptoSaid : Prop := fnTrucksUptoRow.holds Try.pinned (OpenSpec.upto fnTrucksSpec)

/-- 'laws.FnOrder', WHERE WHAT IT READS IS OF BULK AT MOST 1048576: true; the input reads as it did. -/
def fnOrderUptoRow : OpenClaim := { program := "ythhdcjdlcfbkdaa", sum := "c2b11941d602659367bbc278d87dea8d6d340dc562cf8c650cc1cdfc4733fee9", func := "loop.example/g00067/laws.FnOrder", spec := "fnOrder", unfollowed := true, recurses := true, apart := false, narrowed := true }
def FnOrderUptoSaid : Prop := fnOrderUptoRow.holds Try.pinned (OpenSpec.upto fnOrderSpec)

/-- 'laws.FnExactNextDay', WHERE WHAT IT READS IS OF BULK AT MOST 1048576: true; the input reads as it did. -/
def fnExactNextDayUptoRow : OpenClaim := { program := "ythhdcjdlcfbkdaa", sum := "c2b11941d602659367bbc278d87dea8d6d340dc562cf8c650cc1cdfc4733fee9", func := "loop.example/g00067/laws.FnExactNextDay", spec := "fnExactNextDay", apart := false, narrowed := true }
def FnExactNextDayUptoSaid : Prop := fnExactNextDayUptoRow.holds Try.pinned (OpenSpec.upto fnExactNextDaySpec)

/-- 'laws.FnDays', WHERE WHAT IT READS IS OF BULK AT MOST 1048576: true; the input reads as it did. -/
def fnDaysUptoRow : OpenClaim := { program := "ythhdcjdlcfbkdaa", sum := "c2b11941d602659367bbc278d87dea8d6d340dc562cf8c650cc1cdfc4733fee9", func := "loop.example/g00067/laws.FnDays", spec := "fnDays", apart := false, narrowed := true }
def FnDaysUptoSaid : Prop := fnDaysUptoRow.holds Try.pinned (OpenSpec.upto fnDaysSpec)

/-- 'laws.FnExactDeliveryDays', WHERE WHAT IT READS IS OF BULK AT MOST 1048576: true; the input reads as it did. -/
def fnExactDeliveryDaysUptoRow : OpenClaim := { program := "ythhdcjdlcfbkdaa", sum := "c2b11941d602659367bbc278d87dea8d6d340dc562cf8c650cc1cdfc4733fee9", func := "loop.example/g00067/laws.FnExactDeliveryDays", spec := "fnExactDeliveryDays", apart := false, narrowed := true }
def FnExactDeliveryDaysUptoSaid : Prop := fnExactDeliveryDaysUptoRow.holds Try.pinned (OpenSpec.upto fnExactDeliveryDaysSpec)

/-- 'laws.FnExactFillTrucks', WHERE WHAT IT READS IS OF BULK AT MOST 1048576: true; the input reads as it did. -/
def fnExactFillTrucksUptoRow : OpenClaim := { program := "ythhdcjdlcfbkdaa", sum := "c2b11941d602659367bbc278d87dea8d6d340dc562cf8c650cc1cdfc4733fee9", func := "loop.example/g00067/laws.FnExactFillTrucks", spec := "fnExactFillTrucks", unfollowed := true, recurses := true, apart := false, narrowed := true }
def FnExactFillTrucksUptoSaid : Prop := fnExactFillTrucksUptoRow.holds Try.pinned (OpenSpec.upto fnExactFillTrucksSpec)

end Rows
end Go.Proofs.Ythhdcjdlcfbkdaa
