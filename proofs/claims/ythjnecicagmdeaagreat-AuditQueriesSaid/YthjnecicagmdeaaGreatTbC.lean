/-
  The table's judgement of a change: may, May; Len, Most, Point, Span. Condition: ids that an int holds.
-/
import Derived.Test.YthjnecicagmdeaaGreatTbB
namespace Go.Proofs.YthjnecicagmdeaaGreat
open Go.RowKit Go.Al
set_option linter.unusedVariables false

/-- what is wrong of a change -/
def mayE (p s : List P3) (most : Int) (c : Cg) : Int :=
  if judgeE c = 0 then (if addsC c then (if isC p s c then 5 else if most ≤ (p.length : Int) + (s.length : Int) then 4 else 0) else (if isC p s c then 0 else 6)) else judgeE c

def bx (c : Cg) : Array Value := #[.int .i64 c.k, .int .i64 c.p.1, .int .i64 c.p.2.1, .int .i64 c.p.2.2, .int .i64 c.s.1, .int .i64 c.s.2.1, .int .i64 c.s.2.2]
end Go.Proofs.YthjnecicagmdeaaGreat
