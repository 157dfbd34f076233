/-
  CatalogNone, whole: evaluated; its data is letters. No conditions.
-/
import Derived.Test.YtgjciacffgiijaaGreatEvX
import Derived.Test.YtgjciacffgiijaaGreatFl
namespace Go.Proofs.YtgjciacffgiijaaGreat
open Go.RowKit Go.Al Go.Ev
set_option linter.unusedVariables false

theorem catalogNone_ev : isT (evN Tryz.prog catchX 1000 60 (.inl 5) [.agg (atoms 0 9), .agg (atoms 9 10), .atom 19] st0) = true := by kernel_rfl
theorem catalogNone_any (z0 : List Int) (h0 : z0.length = 9) (z1 : List Int) (h1 : z1.length = 10) (a2 : Int) (w : World) : Calls Tryz.prog 5 #[ivs z0, ivs z1, .int .i64 a2] w fun e w' => e = .returned (.bool true) ∧ Same w w' := by
  match z0, h0, z1, h1 with
  | [x0_0, x0_1, x0_2, x0_3, x0_4, x0_5, x0_6, x0_7, x0_8], _, [x1_0, x1_1, x1_2, x1_3, x1_4, x1_5, x1_6, x1_7, x1_8, x1_9], _ =>
    exact evT catchX_ok catalogNone_ev (lets ([x0_0, x0_1, x0_2, x0_3, x0_4, x0_5, x0_6, x0_7, x0_8, x1_0, x1_1, x1_2, x1_3, x1_4, x1_5, x1_6, x1_7, x1_8, x1_9, a2].map iv)) (noF_ok _ (lets_ints _)) ⟨atoms_ok _ _ 9 0, atoms_ok _ _ 10 9, trivial, trivial⟩ w
end Go.Proofs.YtgjciacffgiijaaGreat
