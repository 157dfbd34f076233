/-
  CursorNone, whole: evaluated; its data is letters. No conditions.
-/
import Derived.Test.YtffodnffhopgoaaGreatEvX
import Derived.Test.YtffodnffhopgoaaGreatFl
namespace Go.Proofs.YtffodnffhopgoaaGreat
open Go.RowKit Go.Al Go.Ev
set_option linter.unusedVariables false

theorem cursorNone_ev : isT (evN Tryz.prog catchX 1000 60 (.inl 4) [.agg (atoms 0 10), .atom 10, .atom 11] st0) = true := by kernel_rfl
theorem cursorNone_any (z0 : List Int) (h0 : z0.length = 10) (a1 : Int) (a2 : Int) (w : World) : Calls Tryz.prog 4 #[ivs z0, .int .i64 a1, .int .i64 a2] w fun e w' => e = .returned (.bool true) ∧ Same w w' := by
  match z0, h0 with
  | [x0_0, x0_1, x0_2, x0_3, x0_4, x0_5, x0_6, x0_7, x0_8, x0_9], _ =>
    exact evT catchX_ok cursorNone_ev (lets ([x0_0, x0_1, x0_2, x0_3, x0_4, x0_5, x0_6, x0_7, x0_8, x0_9, a1, a2].map iv)) (noF_ok _ (lets_ints _)) ⟨atoms_ok _ _ 10 0, trivial, trivial, trivial⟩ w
end Go.Proofs.YtffodnffhopgoaaGreat
