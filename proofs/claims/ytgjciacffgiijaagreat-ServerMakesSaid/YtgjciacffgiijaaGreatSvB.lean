/-
  ServerMakes: setups that may not be. No conditions but those that are named.
-/
import Derived.Test.YtgjciacffgiijaaGreatLiv34
import Derived.Test.YtgjciacffgiijaaGreatFl
namespace Go.Proofs.YtgjciacffgiijaaGreat
open Go.RowKit Go.Al Go.E2
set_option linter.unusedVariables false

noncomputable def svX : Facts → Extra := fun _ => V.orX (xOf [(39, V.trueE)]) V.catchX
theorem svX_ok (F : Facts) : @ExtraOk _ F Tryz.prog (svX F) := by
  letI := F
  exact V.orX_ok (xOf_ok fun x hx => by
    rw [List.mem_singleton.1 hx]
    exact V.trueE_ok lives34) V.catchX_ok
/-- the data's letters -/
def svR (m s b : Int) (z : List Int) (n : Nat) : Int := (m :: s :: b :: z).getD n 0
def svDT : V.DT := (.fork (.app 3 [(.var 0), (.lit 1)]) (.fork (.app 3 [(.var 1), (.lit 1)]) (.leaf (.bool true) []) (.fork (.app 3 [(.lit 64), (.var 1)]) (.leaf (.bool true) []) (.fork (.app 3 [(.var 2), (.lit 0)]) (.leaf (.bool true) []) (.fork (.app 3 [(.lit 1000), (.var 2)]) (.leaf (.bool true) []) (.leaf (.bool true) []))))) (.fork (.app 3 [(.lit 1048576), (.var 0)]) (.fork (.app 3 [(.var 1), (.lit 1)]) (.leaf (.bool true) []) (.fork (.app 3 [(.lit 64), (.var 1)]) (.leaf (.bool true) []) (.fork (.app 3 [(.var 2), (.lit 0)]) (.leaf (.bool true) []) (.fork (.app 3 [(.lit 1000), (.var 2)]) (.leaf (.bool true) []) (.leaf (.bool true) []))))) (.fork (.app 3 [(.var 1), (.lit 1)]) (.leaf (.bool true) []) (.fork (.app 3 [(.lit 64), (.var 1)]) (.leaf (.bool true) []) (.fork (.app 3 [(.var 2), (.lit 0)]) (.leaf (.bool true) []) (.fork (.app 3 [(.lit 1000), (.var 2)]) (.leaf (.bool true) []) .dead))))))
theorem svB_ev : V.chkD (fun _ => True) Tryz.prog svX 1000 60 6 [.agg [.ix (.var 0), .ix (.var 1), .ix (.var 2)], .agg [(.ix (.var 3)), (.ix (.var 4)), (.ix (.var 5)), (.ix (.var 6)), (.ix (.var 7)), (.ix (.var 8)), (.ix (.var 9)), (.ix (.var 10)), (.ix (.var 11)), (.ix (.var 12)), (.ix (.var 13)), (.ix (.var 14)), (.ix (.var 15)), (.ix (.var 16)), (.ix (.var 17)), (.ix (.var 18)), (.ix (.var 19)), (.ix (.var 20)), (.ix (.var 21)), (.ix (.var 22)), (.ix (.var 23))]] ⟨[], 0, []⟩ svDT [] = true := by kernel_rfl
end Go.Proofs.YtgjciacffgiijaaGreat
