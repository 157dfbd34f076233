/-
  The living call of layer 42. No conditions.
-/
import Derived.Test.YthjnecicagmdeaaGreatE2W
import Derived.Test.YthjnecicagmdeaaGreatE2S
namespace Go.Proofs.YthjnecicagmdeaaGreat
open Go.Al Go.E2
set_option linter.unusedVariables false
noncomputable def whole42H : List (Nat × SO) := [(0, (.map [] 0)), (1, (.map [] 0)), (2, (.cells 86 [(.map (some 0)), (.map (some 1)), (.int .i64 3)] none)), (3, (.cells 93 [(.ptr (some (5, 0))), (.ptr (some (7, 0))), (.ptr (some (8, 0))), (.ptr (some (9, 0))), (.ptr (some (11, 0)))] none)), (5, (.cells 123 [(.ptr none), (.int .i64 0), (.int .i64 3), (.int .i64 0)] none)), (6, (.map [] 0)), (7, (.cells 127 [(.slice none 0 (.lit 0)), (.map (some 6)), (.int .i64 0), (.int .i64 3), (.int .i64 0)] none)), (8, (.cells 130 [(.ptr none), (.int .i64 3)] none)), (9, (.cells 133 [(.ptr none), (.int .i64 3)] none)), (10, (.cells 160 [(.int .i64 0), (.int .i64 0), (.slice none 0 (.lit 0)), (.ptr none), (.ptr none)] none)), (11, (.cells 138 [(.ptr none), (.ptr (some (10, 0))), (.slice none 0 (.lit 0)), (.int .i64 3), (.int .i64 0)] none)), (12, (.cells 75 [(.ptr (some (3, 0))), (.ptr (some (2, 0))), (.int .i64 0), (.ptr none)] none))]
theorem whole42 : keepB Tryz.prog V.catchX 1000 60 14 [(.ptr (some (12, 0)))] whole42H 95 (.bool true) whole42H 461 = true := by kernel_rfl
noncomputable def lives42X : Extra := V.orX (xOf [(14, keepE [(.ptr (some (12, 0)))] whole42H 95 (.bool true) whole42H 461)]) V.catchX
theorem lives42X_ok : ExtraOk Tryz.prog lives42X := V.orX_ok (xOf_ok fun x hx => by
  rw [List.mem_singleton.1 hx]
  exact keepE_ok (by kernel_rfl) V.nameOk V.catchX_ok whole42) V.catchX_ok
theorem lives42 (w : World) : Calls Tryz.prog 9 #[] w fun e w' => e = .returned (.bool true) ∧ Same w w' :=
  V.evT0 lives42X_ok (fuel := 1000) (depth := 60) (by kernel_rfl) w
end Go.Proofs.YthjnecicagmdeaaGreat
