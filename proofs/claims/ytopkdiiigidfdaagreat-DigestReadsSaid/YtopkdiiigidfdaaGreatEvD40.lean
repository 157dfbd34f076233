/-
  A point is written, read, and put into a catalogue: evaluated. No conditions.
-/
import Derived.Test.YtopkdiiigidfdaaGreatEvX
namespace Go.Proofs.YtopkdiiigidfdaaGreat
open Go.RowKit Go.Al Go.Ev
set_option linter.unusedVariables false

theorem lives40 (w : World) : Calls Tryz.prog 22 #[] w fun e w' => e = .returned (.bool true) ∧ Same w w' :=
  evT0 catchX_ok (fuel := 1000) (depth := 60) (by kernel_rfl) w
end Go.Proofs.YtopkdiiigidfdaaGreat
