/-
  The living call of layer 34. No conditions.
-/
import Derived.Test.YtgjciacffgiijaaGreatE2W
namespace Go.Proofs.YtgjciacffgiijaaGreat
open Go.Al Go.E2
set_option linter.unusedVariables false
theorem lives34 (w : World) : Calls Tryz.prog 39 #[] w fun e w' => e = .returned (.bool true) ∧ Same w w' :=
  V.evT0 V.catchX_ok (fuel := 1000) (depth := 60) (by kernel_rfl) w
end Go.Proofs.YtgjciacffgiijaaGreat
