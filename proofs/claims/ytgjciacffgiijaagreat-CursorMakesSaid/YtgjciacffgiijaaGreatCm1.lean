/-
  CursorMakes: queries of kind 1. No conditions but those that are named.
-/
import Derived.Test.YtgjciacffgiijaaGreatCmX
namespace Go.Proofs.YtgjciacffgiijaaGreat
open Go.RowKit Go.Al Go.E2
set_option linter.unusedVariables false

def cm1DT : V.DT := (.fork (.app 3 [(.var 0), (.lit 1)]) (.leaf (.bool true) []) (.fork (.app 3 [(.lit 1048576), (.var 0)]) (.leaf (.bool true) []) (.fork (.app 3 [(.var 2), (.lit (-1099511627776))]) (.leaf (.bool true) []) (.fork (.app 3 [(.lit 1099511627776), (.var 2)]) (.leaf (.bool true) []) (.fork (.app 3 [(.var 3), (.lit (-1099511627776))]) (.leaf (.bool true) []) (.fork (.app 3 [(.lit 1099511627776), (.var 3)]) (.leaf (.bool true) []) (.fork (.app 3 [(.var 4), (.lit (-1099511627776))]) (.leaf (.bool true) []) (.fork (.app 3 [(.lit 1099511627776), (.var 4)]) (.leaf (.bool true) []) (.fork (.app 3 [(.var 5), (.lit (-1099511627776))]) (.leaf (.bool true) []) (.fork (.app 3 [(.lit 1099511627776), (.var 5)]) (.leaf (.bool true) []) (.fork (.app 3 [(.var 3), (.var 2)]) (.leaf (.bool true) []) (.fork (.app 3 [(.var 5), (.var 4)]) (.leaf (.bool true) []) (.fork (.app 4 [(.var 11), (.lit 1)]) (.leaf (.bool true) []) (.fork (.app 4 [(.var 11), (.lit 2)]) (.leaf (.bool true) []) (.leaf (.bool true) [])))))))))))))))
theorem cm1_ev : V.chkD (fun _ => True) Tryz.prog cmX 1000 60 3 [.ix (.var 0), .agg [(.int .i64 1), (.ix (.var 2)), (.ix (.var 3)), (.ix (.var 4)), (.ix (.var 5)), (.ix (.var 6)), (.ix (.var 7)), (.ix (.var 8)), (.ix (.var 9)), (.ix (.var 10))], .ix (.var 11)] ⟨[], 0, []⟩ cm1DT [] = true := by kernel_rfl
theorem cm1_T : cm1DT.allT = true := by rfl
end Go.Proofs.YtgjciacffgiijaaGreat
