/-
  DERIVED. GIVEN WITH THE SEED: THE CARDS: each row of YtglfajnagdpkeaaDoorRows.lean that lists a variable, with what it lists TIED to the program's text (the seventh form; the later family's looks); each row that meets fmt, with fmt's text TOLD by the authors' own Lean function (tested against real Go, not proved from fmt's source: count such statements apart). THE CARD IS WHAT COUNTS. Prove the row's statement (the work); the ties are given (YtglfajnagdpkeaaDoorTie.lean); close each card by the builder's one call (the guide's Derived/Test/ToyasCard.lean, 'card_holds'). Laid BY PROGRAM, IN A SANDBOX (cutbox-door.mjs). By AI agents, Wed Nov 11 2026. No macro, syntax, notation, axiom, sorry.
-/
import Derived.Test.YtglfajnagdpkeaaDoorRows
import GoSem.ClaimSeven
namespace Go.Proofs.YtglfajnagdpkeaaDoor
namespace Rows

/-- THE TIED CARD OF 'laws.FnExactItemsOK'. -/
def fnExactItemsOKCard : Claim7 := { stood := { row := fnExactItemsOKRow, standIns := [], harness := (true, "7a58ebcab52c32cd4f6f5869ac99b3526851dee67117dbe984a005bf2eb44fa7"), looks := true }, kinds := [], alts := [], laidByText := true, laidKinds := [.data, .data, .data, .data, .sentinel, .sentinel, .pinned], laidTests := true, laidLooks := .later }
def FnExactItemsOKCardSaid : Prop := Claim7.holds Tryd.pinned (.plain (OpenSpec.ofChange fnExactItemsOKSpec)) fnExactItemsOKCard

/-- THE TIED CARD OF 'laws.FnScan'. -/
def fnScanCard : Claim7 := { stood := { row := fnScanRow, standIns := [], harness := (true, "7a58ebcab52c32cd4f6f5869ac99b3526851dee67117dbe984a005bf2eb44fa7"), looks := true }, kinds := [], alts := [], laidByText := true, laidKinds := [.data, .data, .data, .data, .sentinel, .sentinel, .pinned], laidTests := true, laidLooks := .later }
def FnScanCardSaid : Prop := Claim7.holds Tryd.pinned (.plain (OpenSpec.ofChange fnScanSpec)) fnScanCard

/-- THE SECOND FORM's CARD OF 'laws.FnExactItemsOK'. -/
def fnExactItemsOKUptoCard : Claim7 := { stood := { row := fnExactItemsOKUptoRow, standIns := [], harness := (true, "7a58ebcab52c32cd4f6f5869ac99b3526851dee67117dbe984a005bf2eb44fa7"), looks := true }, kinds := [], alts := [], laidByText := true, laidKinds := [.data, .data, .data, .data, .sentinel, .sentinel, .pinned], laidTests := true, laidLooks := .later }
def FnExactItemsOKUptoCardSaid : Prop := Claim7.holds Tryd.pinned (.plain (OpenSpec.upto fnExactItemsOKSpec)) fnExactItemsOKUptoCard

/-- THE SECOND FORM's CARD OF 'laws.FnScan'. -/
def fnScanUptoCard : Claim7 := { stood := { row := fnScanUptoRow, standIns := [], harness := (true, "7a58ebcab52c32cd4f6f5869ac99b3526851dee67117dbe984a005bf2eb44fa7"), looks := true }, kinds := [], alts := [], laidByText := true, laidKinds := [.data, .data, .data, .data, .sentinel, .sentinel, .pinned], laidTests := true, laidLooks := .later }
def FnScanUptoCardSaid : Prop := Claim7.holds Tryd.pinned (.plain (OpenSpec.upto fnScanSpec)) fnScanUptoCard
end Rows
end Go.Proofs.YtglfajnagdpkeaaDoor
