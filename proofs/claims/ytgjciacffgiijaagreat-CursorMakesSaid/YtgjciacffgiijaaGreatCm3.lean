/-
  CursorMakes: queries of kind 3. No conditions but those that are named.
-/
import Derived.Test.YtgjciacffgiijaaGreatCmX
namespace Go.Proofs.YtgjciacffgiijaaGreat
open Go.RowKit Go.Al Go.E2
set_option linter.unusedVariables false

def cm3DT : V.DT := (.fork (.app 3 [(.var 0), (.lit 1)]) (.leaf (.bool true) []) (.fork (.app 3 [(.lit 1048576), (.var 0)]) (.leaf (.bool true) []) (.fork (.app 3 [(.var 6), (.lit (-1099511627776))]) (.leaf (.bool true) []) (.fork (.app 3 [(.lit 1099511627776), (.var 6)]) (.leaf (.bool true) []) (.fork (.app 3 [(.var 7), (.lit (-1099511627776))]) (.leaf (.bool true) []) (.fork (.app 3 [(.lit 1099511627776), (.var 7)]) (.leaf (.bool true) []) (.fork (.app 3 [(.var 8), (.lit (-1099511627776))]) (.leaf (.bool true) []) (.fork (.app 3 [(.lit 1099511627776), (.var 8)]) (.leaf (.bool true) []) (.fork (.app 3 [(.var 7), (.var 6)]) (.leaf (.bool true) []) (.fork (.app 4 [(.var 11), (.lit 3)]) (.leaf (.bool true) []) (.fork (.app 4 [(.var 11), (.lit 1)]) (.leaf (.bool true) []) (.leaf (.bool true) []))))))))))))
theorem cm3_ev : V.chkD (fun _ => True) Tryz.prog cmX 1000 60 3 [.ix (.var 0), .agg [(.int .i64 3), (.ix (.var 2)), (.ix (.var 3)), (.ix (.var 4)), (.ix (.var 5)), (.ix (.var 6)), (.ix (.var 7)), (.ix (.var 8)), (.ix (.var 9)), (.ix (.var 10))], .ix (.var 11)] ⟨[], 0, []⟩ cm3DT [] = true := by kernel_rfl
theorem cm3_T : cm3DT.allT = true := by rfl
end Go.Proofs.YtgjciacffgiijaaGreat
