/-
  AuditNone, whole: evaluated; its data is letters. No conditions.
-/
import Derived.Test.YtgjciacffgiijaaGreatLiv42
import Derived.Test.YtgjciacffgiijaaGreatFl
namespace Go.Proofs.YtgjciacffgiijaaGreat
open Go.RowKit Go.Al Go.E2
set_option linter.unusedVariables false

noncomputable def auditNoneX : Facts → Extra := fun _ => V.orX (xOf [(54, V.trueE)]) V.catchX
theorem auditNoneX_ok (F : Facts) : @ExtraOk _ F Tryz.prog (auditNoneX F) := by
  letI := F
  exact V.orX_ok (xOf_ok fun x hx => by
    rw [List.mem_singleton.1 hx]
    exact V.trueE_ok lives42) V.catchX_ok
theorem auditNone_ev : V.chkD (fun _ => True) Tryz.prog auditNoneX 1000 60 8 [.agg [(.ix (.var 0)), (.ix (.var 1)), (.ix (.var 2)), (.ix (.var 3)), (.ix (.var 4)), (.ix (.var 5)), (.ix (.var 6)), (.ix (.var 7)), (.ix (.var 8)), (.ix (.var 9))]] ⟨[], 0, []⟩ (.leaf (.bool true) []) [] = true := by kernel_rfl
theorem auditNone_any (z0 : List Int) (h0 : z0.length = 10) (w : World) : Calls Tryz.prog 8 #[Ev.ivs z0] w fun e w' => e = .returned (.bool true) ∧ Same w w' := by
  match z0, h0 with
  | [x0, x1, x2, x3, x4, x5, x6, x7, x8, x9], _ =>
    exact V.evalT (fun F _ => auditNoneX_ok F) (.leaf (.bool true) []) auditNone_ev rfl (fun n => [x0, x1, x2, x3, x4, x5, x6, x7, x8, x9].getD n 0) (by simp [okL, SV.ok]) w
end Go.Proofs.YtgjciacffgiijaaGreat
