/-
  The law's own 'lives'; TableNone's walk; TableFull's walk. No conditions.
  Plain law: a change that may be, and the one that turns it back, leave the lists as they were; the table and the document's set side by side. No conditions.
-/
import Derived.Test.YtlimpepdelpogaaGreatDoorTbE
import Derived.Test.YtlimpepdelpogaaGreatDoorEvW
import Derived.Test.YtlimpepdelpogaaGreatDoorTdE
import Derived.Test.YtlimpepdelpogaaGreatDoorTcE
/-! TbF -/
namespace Go.Proofs.YtlimpepdelpogaaGreatDoor
open Go.RowKit Go.Al
set_option linter.unusedVariables false
end Go.Proofs.YtlimpepdelpogaaGreatDoor
/-! TdF -/
namespace Go.Proofs.YtlimpepdelpogaaGreatDoor
open Go.RowKit Go.Al
set_option linter.unusedVariables false
/-! the plain law -/
/-! both side by side -/
structure SetF (w : World) (h pm sm : Nat) (p s : List P3) : Prop where
  ex : ∃ AP cp AS cs, SetR w h AP cp AS cs 30 p s ∧ (∀ b, blkOf AP = some b → b ≠ pm ∧ b ≠ sm) ∧ (∀ b, blkOf AS = some b → b ≠ pm ∧ b ≠ sm)
  srtP : Srt p
  srtS : Srt s
  room : (p.length : Int) + (s.length : Int) ≤ 30
  hp : h ≠ pm
  hs : h ≠ sm
structure Both (w0 w : World) (g pm sm h : Nat) (p s p2 s2 : List P3) : Prop where
  same : Same w0 w
  tab : Tab w g pm sm 30 p s
  set : SetF w h pm sm p2 s2
  fp : w0.heap.size ≤ pm
  fs : w0.heap.size ≤ sm
  fh : w0.heap.size ≤ h
  gh : g ≠ h
theorem SetF.same {w w' : World} {h pm sm : Nat} {p s : List P3} (hF : SetF w h pm sm p s) (hs : Same w w') : SetF w' h pm sm p s :=
  ⟨hF.ex.imp fun AP ⟨cp, AS, cs, hR, h1, h2⟩ => ⟨cp, AS, cs, hR.chg hs (fun e => e) (fun _ _ e => e) (fun _ _ e => e), h1, h2⟩, hF.srtP, hF.srtS, hF.room, hF.hp, hF.hs⟩
theorem Both.go {w0 w w' : World} {g pm sm h : Nat} {p s p2 s2 : List P3} (hB : Both w0 w g pm sm h p s p2 s2) (hs : Same w w') : Both w0 w' g pm sm h p s p2 s2 :=
  ⟨Same.trans hB.same hs, hB.tab.same hs, hB.set.same hs, hB.fp, hB.fs, hB.fh, hB.gh⟩
end Go.Proofs.YtlimpepdelpogaaGreatDoor
