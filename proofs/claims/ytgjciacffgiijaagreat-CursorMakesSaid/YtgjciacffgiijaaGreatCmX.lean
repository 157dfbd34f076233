/-
  CursorMakes: what is known of it ahead. No conditions but those that are named.
-/
import Derived.Test.YtgjciacffgiijaaGreatE2W
import Derived.Test.YtgjciacffgiijaaGreatFl
namespace Go.Proofs.YtgjciacffgiijaaGreat
open Go.RowKit Go.Al Go.E2
set_option linter.unusedVariables false

theorem lives26 (w : World) : Calls Tryz.prog 10 #[] w fun e w' => e = .returned (.bool true) ∧ Same w w' :=
  V.evT0 V.catchX_ok (fuel := 1000) (depth := 60) (by kernel_rfl) w
noncomputable def cmX : Facts → Extra := fun _ => V.orX (xOf [(10, V.trueE)]) V.catchX
theorem cmX_ok (F : Facts) : @ExtraOk _ F Tryz.prog (cmX F) := by
  letI := F
  exact V.orX_ok (xOf_ok fun x hx => by
    rw [List.mem_singleton.1 hx]
    exact V.trueE_ok lives26) V.catchX_ok
def cmR (m : Int) (q : List Int) (o : Int) (n : Nat) : Int := (m :: (q ++ [o])).getD n 0
end Go.Proofs.YtgjciacffgiijaaGreat
