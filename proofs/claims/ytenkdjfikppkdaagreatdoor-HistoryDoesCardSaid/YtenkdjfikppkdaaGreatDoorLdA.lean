/-
  What the listed variables give a walk; a world in which they lie as the program's text lays them. No conditions.
-/
import Derived.Test.YtenkdjfikppkdaaGreatDoorRows
import Derived.Test.YtenkdjfikppkdaaGreatDoorStB
import Derived.Lib.LaidTab
import Derived.LaidMore
import Derived.LaidHandle
import Derived.MakeChecks
import Derived.Stop.LaidErr
namespace Go.Proofs.YtenkdjfikppkdaaGreatDoor
open Go.RowKit Go.Al
set_option linter.unusedVariables false
set_option maxRecDepth 100000

theorem laid_of {W : World} (h : laidMetH Tryz.prog Rows.historyDoesRow.laid W) : Laid W := by
  rw [MakeChecks.laidMetH_plain _ _ _ (by kernel_rfl)] at h
  have h3 := h.tail.tail
  have h5 := h.tail.tail.tail.tail
  refine ⟨?_, ?_⟩
  · exact Lib.tabIs_of_head (rest := []) (g := 0) (t := 168) (e := 5) (n := 256) (by kernel_rfl) (by kernel_rfl) Tryz.underlying168 Tryz.underlying5 (by kernel_rfl) (by kernel_rfl) h5
  · exact Lib.tabIs_of_head (g := 2) (t := 228) (e := 120) (n := 20) (by kernel_rfl) (by kernel_rfl) Tryz.underlying228 Tryz.underlying120 (by kernel_rfl) (by kernel_rfl) h3
theorem door_met (os : Os) (args : Array Value) : laidMetH Tryz.prog Rows.historyDoesRow.laid ((World.doorLaid Tryz.prog 48 os).forCall (fun _ _ => 0) ⟨#[], args, []⟩).memory :=
  laidMetH_of_parts3 (fuel := 8) (laidMet_of_run' 8 (by kernel_rfl) (by kernel_rfl)) (by kernel_rfl) (by kernel_rfl)
end Go.Proofs.YtenkdjfikppkdaaGreatDoor
