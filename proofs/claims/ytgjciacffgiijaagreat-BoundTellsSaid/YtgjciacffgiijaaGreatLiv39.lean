/-
  The living call of layer 39. No conditions.
-/
import Derived.Test.YtgjciacffgiijaaGreatE2X
namespace Go.Proofs.YtgjciacffgiijaaGreat
open Go.Al Go.E2
set_option linter.unusedVariables false
theorem lives39 (w : World) : Calls Tryz.prog 23 #[] w fun e w' => e = .returned (.bool true) ∧ Same w w' :=
  V.evT0 V.catchX_ok (fuel := 1000) (depth := 60) (by kernel_rfl) w
end Go.Proofs.YtgjciacffgiijaaGreat
