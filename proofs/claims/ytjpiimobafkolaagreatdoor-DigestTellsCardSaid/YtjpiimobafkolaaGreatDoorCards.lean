/-
  DERIVED. GIVEN WITH THE SEED: THE CARDS: each row of YtjpiimobafkolaaGreatDoorRows.lean that lists a variable, with what it lists TIED to the program's text (the seventh form; the later family's looks); each row that meets fmt, with fmt's text TOLD by the authors' own Lean function (tested against real Go, not proved from fmt's source: count such statements apart). THE CARD IS WHAT COUNTS. Prove the row's statement (the work); the ties are given (YtjpiimobafkolaaGreatDoorTie.lean); close each card by the builder's one call (the guide's Derived/Test/ToyasCard.lean, 'card_holds'). Laid BY PROGRAM, IN A SANDBOX (cutbox-door.mjs). By AI agents, Wed Nov 11 2026. No macro, syntax, notation, axiom, sorry.
-/
import Derived.Test.YtjpiimobafkolaaGreatDoorRows
import GoSem.ClaimSeven
namespace Go.Proofs.YtjpiimobafkolaaGreatDoor
namespace Rows

/-- THE TIED CARD OF 'alidadelaw40.DigestTells'. -/
def digestTellsCard : Claim7 := { stood := { row := digestTellsRow, standIns := [], harness := (true, "87e66f0d32722e047202df5aa97166139ecf785795408b032e195fccb016457f"), looks := true }, kinds := [], alts := [], laidByText := true, laidKinds := [.data, .data, .data], laidTests := true, laidLooks := .later }
def DigestTellsCardSaid : Prop := Claim7.holds Tryz.pinned (.plain (OpenSpec.ofChange digestTellsSpec)) digestTellsCard

/-- THE SECOND FORM's CARD OF 'alidadelaw40.DigestTells'. -/
def digestTellsUptoCard : Claim7 := { stood := { row := digestTellsUptoRow, standIns := [], harness := (true, "87e66f0d32722e047202df5aa97166139ecf785795408b032e195fccb016457f"), looks := true }, kinds := [], alts := [], laidByText := true, laidKinds := [.data, .data, .data], laidTests := true, laidLooks := .later }
def DigestTellsUptoCardSaid : Prop := Claim7.holds Tryz.pinned (.plain (OpenSpec.upto digestTellsSpec)) digestTellsUptoCard
end Rows
end Go.Proofs.YtjpiimobafkolaaGreatDoor
