/-
  What the listed variables give a walk; a world in which they lie as the program's text lays them. No conditions.
-/
import Derived.Test.YtjpiimobafkolaaGreatDoorRows
import Derived.Test.YtjpiimobafkolaaGreatDoorTlS
import Derived.Lib.LaidTab
import Derived.LaidMore
import Derived.LaidHandle
import Derived.MakeChecks
import Derived.Stop.LaidErr
namespace Go.Proofs.YtjpiimobafkolaaGreatDoor
open Go.RowKit Go.Al
set_option linter.unusedVariables false
set_option maxRecDepth 100000

theorem laid_of {W : World} (h : laidMetH Tryz.prog Rows.digestTellsRow.laid W) : LaidP W := by
  rw [MakeChecks.laidMetH_plain _ _ _ (by kernel_rfl)] at h
  have h3 := h.tail.tail
  exact ⟨Lib.tabIs_of_head (rest := []) (g := 0) (t := 178) (e := 27) (n := 20) (by kernel_rfl) (by kernel_rfl) Tryz.underlying178 Tryz.underlying27 (by kernel_rfl) (by kernel_rfl) h3⟩
theorem door_met (os : Os) (args : Array Value) : laidMetH Tryz.prog Rows.digestTellsRow.laid ((World.doorLaid Tryz.prog 48 os).forCall (fun _ _ => 0) ⟨#[], args, []⟩).memory :=
  laidMetH_of_parts3 (fuel := 8) (laidMet_of_run' 8 (by kernel_rfl) (by kernel_rfl)) (by kernel_rfl) (by kernel_rfl)
end Go.Proofs.YtjpiimobafkolaaGreatDoor
