/-
  DERIVED. GIVEN WITH THE SEED: THE CARDS: each row of YtenkdjfikppkdaaGreatDoorRows.lean that lists a variable, with what it lists TIED to the program's text (the seventh form; the later family's looks); each row that meets fmt, with fmt's text TOLD by the authors' own Lean function (tested against real Go, not proved from fmt's source: count such statements apart). THE CARD IS WHAT COUNTS. Prove the row's statement (the work); the ties are given (YtenkdjfikppkdaaGreatDoorTie.lean); close each card by the builder's one call (the guide's Derived/Test/ToyasCard.lean, 'card_holds'). Laid BY PROGRAM, IN A SANDBOX (cutbox-door.mjs). By AI agents, Wed Nov 11 2026. No macro, syntax, notation, axiom, sorry.
-/
import Derived.Test.YtenkdjfikppkdaaGreatDoorRows
import GoSem.ClaimSeven
namespace Go.Proofs.YtenkdjfikppkdaaGreatDoor
namespace Rows

/-- THE TIED CARD OF 'alidadelaw35.HistoryLines'. -/
def historyLinesCard : Claim7 := { stood := { row := historyLinesRow, standIns := [], harness := (true, "ceaaf29e6693dea92772cb1eb0698b7b43f74dba2d50ccea16a549770eba73c0"), looks := true }, kinds := [], alts := [], laidByText := true, laidKinds := [.data, .data, .data, .listed, .data], laidTests := true, laidLooks := .later }
def HistoryLinesCardSaid : Prop := Claim7.holds Tryz.pinned (.plain (OpenSpec.ofChange historyLinesSpec)) historyLinesCard

/-- THE TIED CARD OF 'alidadelaw35.HistoryDoes'. -/
def historyDoesCard : Claim7 := { stood := { row := historyDoesRow, standIns := [], harness := (true, "ceaaf29e6693dea92772cb1eb0698b7b43f74dba2d50ccea16a549770eba73c0"), looks := true }, kinds := [], alts := [], laidByText := true, laidKinds := [.data, .data, .data, .listed, .data], laidTests := true, laidLooks := .later }
def HistoryDoesCardSaid : Prop := Claim7.holds Tryz.pinned (.plain (OpenSpec.ofChange historyDoesSpec)) historyDoesCard

/-- THE TIED CARD OF 'alidadelaw35.HistoryRight'. -/
def historyRightCard : Claim7 := { stood := { row := historyRightRow, standIns := [], harness := (true, "ceaaf29e6693dea92772cb1eb0698b7b43f74dba2d50ccea16a549770eba73c0"), looks := true }, kinds := [], alts := [], laidByText := true, laidKinds := [.data, .data, .data, .listed, .data], laidTests := true, laidLooks := .later }
def HistoryRightCardSaid : Prop := Claim7.holds Tryz.pinned (.plain (OpenSpec.ofChange historyRightSpec)) historyRightCard

/-- THE SECOND FORM's CARD OF 'alidadelaw35.HistoryLines'. -/
def historyLinesUptoCard : Claim7 := { stood := { row := historyLinesUptoRow, standIns := [], harness := (true, "ceaaf29e6693dea92772cb1eb0698b7b43f74dba2d50ccea16a549770eba73c0"), looks := true }, kinds := [], alts := [], laidByText := true, laidKinds := [.data, .data, .data, .listed, .data], laidTests := true, laidLooks := .later }
def HistoryLinesUptoCardSaid : Prop := Claim7.holds Tryz.pinned (.plain (OpenSpec.upto historyLinesSpec)) historyLinesUptoCard

/-- THE SECOND FORM's CARD OF 'alidadelaw35.HistoryDoes'. -/
def historyDoesUptoCard : Claim7 := { stood := { row := historyDoesUptoRow, standIns := [], harness := (true, "ceaaf29e6693dea92772cb1eb0698b7b43f74dba2d50ccea16a549770eba73c0"), looks := true }, kinds := [], alts := [], laidByText := true, laidKinds := [.data, .data, .data, .listed, .data], laidTests := true, laidLooks := .later }
def HistoryDoesUptoCardSaid : Prop := Claim7.holds Tryz.pinned (.plain (OpenSpec.upto historyDoesSpec)) historyDoesUptoCard

/-- THE SECOND FORM's CARD OF 'alidadelaw35.HistoryRight'. -/
def historyRightUptoCard : Claim7 := { stood := { row := historyRightUptoRow, standIns := [], harness := (true, "ceaaf29e6693dea92772cb1eb0698b7b43f74dba2d50ccea16a549770eba73c0"), looks := true }, kinds := [], alts := [], laidByText := true, laidKinds := [.data, .data, .data, .listed, .data], laidTests := true, laidLooks := .later }
def HistoryRightUptoCardSaid : Prop := Claim7.holds Tryz.pinned (.plain (OpenSpec.upto historyRightSpec)) historyRightUptoCard
end Rows
end Go.Proofs.YtenkdjfikppkdaaGreatDoor
