/-
  CursorMakes: queries of kind o. No conditions but those that are named.
-/
import Derived.Test.YtgjciacffgiijaaGreatCmX
namespace Go.Proofs.YtgjciacffgiijaaGreat
open Go.RowKit Go.Al Go.E2
set_option linter.unusedVariables false

def cmoDT : V.DT := (.fork (.app 3 [(.var 0), (.lit 1)]) (.leaf (.bool true) []) (.fork (.app 3 [(.lit 1048576), (.var 0)]) (.leaf (.bool true) []) (.fork (.app 3 [(.var 1), (.lit 5)]) (.leaf (.bool true) []) (.fork (.app 3 [(.lit 7), (.var 1)]) (.leaf (.bool true) []) .dead))))
theorem cmo_ev : V.chkD (fun _ => True) Tryz.prog cmX 1000 60 3 [.ix (.var 0), .agg [(.ix (.var 1)), (.ix (.var 2)), (.ix (.var 3)), (.ix (.var 4)), (.ix (.var 5)), (.ix (.var 6)), (.ix (.var 7)), (.ix (.var 8)), (.ix (.var 9)), (.ix (.var 10))], .ix (.var 11)] ⟨[], 0, []⟩ cmoDT [(.app 4 [.var 1, .lit 1], false), (.app 4 [.var 1, .lit 2], false), (.app 4 [.var 1, .lit 3], false), (.app 4 [.var 1, .lit 4], false), (.app 4 [.var 1, .lit 5], false), (.app 4 [.var 1, .lit 6], false), (.app 4 [.var 1, .lit 7], false)] = true := by kernel_rfl
end Go.Proofs.YtgjciacffgiijaaGreat
