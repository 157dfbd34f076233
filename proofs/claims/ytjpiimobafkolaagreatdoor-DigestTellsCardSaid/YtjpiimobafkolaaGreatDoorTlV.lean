/-
  A point is written, read, and put into a catalogue: evaluated. No conditions.
-/
import Derived.Test.YtjpiimobafkolaaGreatDoorE2X
namespace Go.Proofs.YtjpiimobafkolaaGreatDoor
open Go.RowKit Go.Al Go.E2
set_option linter.unusedVariables false

theorem lives40 (w : World) : Calls Tryz.prog 10 #[] w fun e w' => e = .returned (.bool true) ∧ Same w w' :=
  V.evT0 V.catchX_ok (fuel := 1000) (depth := 60) (by kernel_rfl) w
end Go.Proofs.YtjpiimobafkolaaGreatDoor
