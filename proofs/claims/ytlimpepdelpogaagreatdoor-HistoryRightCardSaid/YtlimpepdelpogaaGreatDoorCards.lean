/-
  DERIVED. GIVEN WITH THE SEED: THE CARDS: each row of YtlimpepdelpogaaGreatDoorRows.lean that lists a variable, with what it lists TIED to the program's text (the seventh form; the later family's looks); each row that meets fmt, with fmt's text TOLD by the authors' own Lean function (tested against real Go, not proved from fmt's source: count such statements apart). THE CARD IS WHAT COUNTS. Prove the row's statement (the work); the ties are given (YtlimpepdelpogaaGreatDoorTie.lean); close each card by the builder's one call (the guide's Derived/Test/ToyasCard.lean, 'card_holds'). Laid BY PROGRAM, IN A SANDBOX (cutbox-door.mjs). By AI agents, Wed Nov 11 2026. No macro, syntax, notation, axiom, sorry.
-/
import Derived.Test.YtlimpepdelpogaaGreatDoorRows
import GoSem.ClaimSeven
namespace Go.Proofs.YtlimpepdelpogaaGreatDoor
namespace Rows

/-- THE TIED CARD OF 'alidadelaw35.HistoryRight'. -/
def historyRightCard : Claim7 := { stood := { row := historyRightRow, standIns := [], harness := (true, "1b13196ec19d9faf721e4543a225176c1af84d3b370591635aa42cc84122d427"), looks := true }, kinds := [], alts := [], laidByText := true, laidKinds := [.data, .data, .data, .listed, .data], laidTests := true, laidLooks := .later }
def HistoryRightCardSaid : Prop := Claim7.holds Tryz.pinned (.plain (OpenSpec.ofChange historyRightSpec)) historyRightCard

/-- THE SECOND FORM's CARD OF 'alidadelaw35.HistoryRight'. -/
def historyRightUptoCard : Claim7 := { stood := { row := historyRightUptoRow, standIns := [], harness := (true, "1b13196ec19d9faf721e4543a225176c1af84d3b370591635aa42cc84122d427"), looks := true }, kinds := [], alts := [], laidByText := true, laidKinds := [.data, .data, .data, .listed, .data], laidTests := true, laidLooks := .later }
def HistoryRightUptoCardSaid : Prop := Claim7.holds Tryz.pinned (.plain (OpenSpec.upto historyRightSpec)) historyRightUptoCard
end Rows
end Go.Proofs.YtlimpepdelpogaaGreatDoor
