/-
  DERIVED. GIVEN WITH THE SEED: THE CARDS: each row of YtjggnfkhdkgeaaaDoorRows.lean that lists a variable, with what it lists TIED to the program's text (the seventh form; the later family's looks); each row that meets fmt, with fmt's text TOLD by the authors' own Lean function (tested against real Go, not proved from fmt's source: count such statements apart). THE CARD IS WHAT COUNTS. Prove the row's statement (the work); the ties are given (YtjggnfkhdkgeaaaDoorTie.lean); close each card by the builder's one call (the guide's Derived/Test/ToyasCard.lean, 'card_holds'). Laid BY PROGRAM, IN A SANDBOX (cutbox-door.mjs). By AI agents, Wed Nov 11 2026. No macro, syntax, notation, axiom, sorry.
-/
import Derived.Test.YtjggnfkhdkgeaaaDoorRows
import GoSem.ClaimSeven
namespace Go.Proofs.YtjggnfkhdkgeaaaDoor
namespace Rows

/-- THE TIED CARD OF 'laws.FnJournal'. -/
def fnJournalCard : Claim7 := { stood := { row := fnJournalRow, standIns := [], harness := (true, "7591d09de71c35c2e2dffff59187211d00c218bf5eb343c5a5621f938f8b992e"), looks := true }, kinds := [], alts := [], laidByText := true, laidKinds := [.data, .data, .data, .data, .sentinel, .sentinel, .pinned], laidTests := true, laidLooks := .later }
def FnJournalCardSaid : Prop := Claim7.holds Tryd.pinned (.plain (OpenSpec.ofChange fnJournalSpec)) fnJournalCard

/-- THE TIED CARD OF 'laws.FnExactReadJournal'. -/
def fnExactReadJournalCard : Claim7 := { stood := { row := fnExactReadJournalRow, standIns := [], harness := (true, "7591d09de71c35c2e2dffff59187211d00c218bf5eb343c5a5621f938f8b992e"), looks := true }, kinds := [], alts := [], laidByText := true, laidKinds := [.data, .data, .data, .data, .sentinel, .sentinel, .pinned], laidTests := true, laidLooks := .later }
def FnExactReadJournalCardSaid : Prop := Claim7.holds Tryd.pinned (.plain (OpenSpec.ofChange fnExactReadJournalSpec)) fnExactReadJournalCard

/-- THE TIED CARD OF 'laws.FnExactCheckJournal'. -/
def fnExactCheckJournalCard : Claim7 := { stood := { row := fnExactCheckJournalRow, standIns := [], harness := (true, "7591d09de71c35c2e2dffff59187211d00c218bf5eb343c5a5621f938f8b992e"), looks := true }, kinds := [], alts := [], laidByText := true, laidKinds := [.data, .data, .data], laidTests := true, laidLooks := .later }
def FnExactCheckJournalCardSaid : Prop := Claim7.holds Tryd.pinned (.plain (OpenSpec.ofChange fnExactCheckJournalSpec)) fnExactCheckJournalCard

/-- THE TIED CARD OF 'laws.FnExactCounted'. -/
def fnExactCountedCard : Claim7 := { stood := { row := fnExactCountedRow, standIns := [], harness := (true, "7591d09de71c35c2e2dffff59187211d00c218bf5eb343c5a5621f938f8b992e"), looks := true }, kinds := [], alts := [], laidByText := true, laidKinds := [.data, .data, .data], laidTests := true, laidLooks := .later }
def FnExactCountedCardSaid : Prop := Claim7.holds Tryd.pinned (.plain (OpenSpec.ofChange fnExactCountedSpec)) fnExactCountedCard

/-- THE TIED CARD OF 'laws.FnExactJournalText'. -/
def fnExactJournalTextCard : Claim7 := { stood := { row := fnExactJournalTextRow, standIns := [], harness := (true, "7591d09de71c35c2e2dffff59187211d00c218bf5eb343c5a5621f938f8b992e"), looks := true }, kinds := [], alts := [], laidByText := true, laidKinds := [.data, .data, .data], laidTests := true, laidLooks := .later }
def FnExactJournalTextCardSaid : Prop := Claim7.holds Tryd.pinned (.plain (OpenSpec.ofChange fnExactJournalTextSpec)) fnExactJournalTextCard

/-- THE TIED CARD OF 'laws.FnExactChain'. -/
def fnExactChainCard : Claim7 := { stood := { row := fnExactChainRow, standIns := [], harness := (true, "7591d09de71c35c2e2dffff59187211d00c218bf5eb343c5a5621f938f8b992e"), looks := true }, kinds := [], alts := [], laidByText := true, laidKinds := [.data, .data, .data], laidTests := true, laidLooks := .later }
def FnExactChainCardSaid : Prop := Claim7.holds Tryd.pinned (.plain (OpenSpec.ofChange fnExactChainSpec)) fnExactChainCard

/-- THE SECOND FORM's CARD OF 'laws.FnJournal'. -/
def fnJournalUptoCard : Claim7 := { stood := { row := fnJournalUptoRow, standIns := [], harness := (true, "7591d09de71c35c2e2dffff59187211d00c218bf5eb343c5a5621f938f8b992e"), looks := true }, kinds := [], alts := [], laidByText := true, laidKinds := [.data, .data, .data, .data, .sentinel, .sentinel, .pinned], laidTests := true, laidLooks := .later }
def FnJournalUptoCardSaid : Prop := Claim7.holds Tryd.pinned (.plain (OpenSpec.upto fnJournalSpec)) fnJournalUptoCard

/-- THE SECOND FORM's CARD OF 'laws.FnExactReadJournal'. -/
def fnExactReadJournalUptoCard : Claim7 := { stood := { row := fnExactReadJournalUptoRow, standIns := [], harness := (true, "7591d09de71c35c2e2dffff59187211d00c218bf5eb343c5a5621f938f8b992e"), looks := true }, kinds := [], alts := [], laidByText := true, laidKinds := [.data, .data, .data, .data, .sentinel, .sentinel, .pinned], laidTests := true, laidLooks := .later }
def FnExactReadJournalUptoCardSaid : Prop := Claim7.holds Tryd.pinned (.plain (OpenSpec.upto fnExactReadJournalSpec)) fnExactReadJournalUptoCard

/-- THE SECOND FORM's CARD OF 'laws.FnExactCheckJournal'. -/
def fnExactCheckJournalUptoCard : Claim7 := { stood := { row := fnExactCheckJournalUptoRow, standIns := [], harness := (true, "7591d09de71c35c2e2dffff59187211d00c218bf5eb343c5a5621f938f8b992e"), looks := true }, kinds := [], alts := [], laidByText := true, laidKinds := [.data, .data, .data], laidTests := true, laidLooks := .later }
def FnExactCheckJournalUptoCardSaid : Prop := Claim7.holds Tryd.pinned (.plain (OpenSpec.upto fnExactCheckJournalSpec)) fnExactCheckJournalUptoCard

/-- THE SECOND FORM's CARD OF 'laws.FnExactCounted'. -/
def fnExactCountedUptoCard : Claim7 := { stood := { row := fnExactCountedUptoRow, standIns := [], harness := (true, "7591d09de71c35c2e2dffff59187211d00c218bf5eb343c5a5621f938f8b992e"), looks := true }, kinds := [], alts := [], laidByText := true, laidKinds := [.data, .data, .data], laidTests := true, laidLooks := .later }
def FnExactCountedUptoCardSaid : Prop := Claim7.holds Tryd.pinned (.plain (OpenSpec.upto fnExactCountedSpec)) fnExactCountedUptoCard

/-- THE SECOND FORM's CARD OF 'laws.FnExactJournalText'. -/
def fnExactJournalTextUptoCard : Claim7 := { stood := { row := fnExactJournalTextUptoRow, standIns := [], harness := (true, "7591d09de71c35c2e2dffff59187211d00c218bf5eb343c5a5621f938f8b992e"), looks := true }, kinds := [], alts := [], laidByText := true, laidKinds := [.data, .data, .data], laidTests := true, laidLooks := .later }
def FnExactJournalTextUptoCardSaid : Prop := Claim7.holds Tryd.pinned (.plain (OpenSpec.upto fnExactJournalTextSpec)) fnExactJournalTextUptoCard

/-- THE SECOND FORM's CARD OF 'laws.FnExactChain'. -/
def fnExactChainUptoCard : Claim7 := { stood := { row := fnExactChainUptoRow, standIns := [], harness := (true, "7591d09de71c35c2e2dffff59187211d00c218bf5eb343c5a5621f938f8b992e"), looks := true }, kinds := [], alts := [], laidByText := true, laidKinds := [.data, .data, .data], laidTests := true, laidLooks := .later }
def FnExactChainUptoCardSaid : Prop := Claim7.holds Tryd.pinned (.plain (OpenSpec.upto fnExactChainSpec)) fnExactChainUptoCard
end Rows
end Go.Proofs.YtjggnfkhdkgeaaaDoor
