/-
  Plain words: changes, queries, requests; their cells; which requests are good. Nothing of the program is walked here. No conditions.
-/
import Derived.Test.YthjnecicagmdeaaGreatMp
import Derived.Test.YthjnecicagmdeaaGreatChecked
namespace Go.Proofs.YthjnecicagmdeaaGreat
open Go.RowKit Go.Al
set_option linter.unusedVariables false

/-- a change: its kind, a point, an interval -/
structure Cg where
  k : Int
  p : P3
  s : P3
def cgV (c : Cg) : Value := .agg #[.int .i64 c.k, .int .i64 c.p.1, .int .i64 c.p.2.1, .int .i64 c.p.2.2, .int .i64 c.s.1, .int .i64 c.s.2.1, .int .i64 c.s.2.2]
/-- a query: its kind, a box, a window, two numbers -/
structure Qy where
  k : Int
  a : Int
  b : Int
  c : Int
  d : Int
  e : Int
  f : Int
  g : Int
  x : Int
  h : Int
/-- a request -/
structure Rq where
  k : Int
  c : Cg
  q : Qy
def qL (q : Qy) : List Value := [.int .i64 q.k, .int .i64 q.a, .int .i64 q.b, .int .i64 q.c, .int .i64 q.d, .int .i64 q.e, .int .i64 q.f, .int .i64 q.g, .int .i64 q.x, .int .i64 q.h]
def cgL (c : Cg) : List Value := [.int .i64 c.k, .int .i64 c.p.1, .int .i64 c.p.2.1, .int .i64 c.p.2.2, .int .i64 c.s.1, .int .i64 c.s.2.1, .int .i64 c.s.2.2]
def rqL (r : Rq) : List Value := .int .i64 r.k :: (cgL r.c ++ qL r.q)
def qV (q : Qy) : Value := .agg (qL q).toArray
def rqV (r : Rq) : Value := .agg (rqL r).toArray
theorem cgV_L (c : Cg) : cgV c = .agg (cgL c).toArray := rfl
theorem qL_length (q : Qy) : (qL q).length = 10 := rfl
theorem cgL_length (c : Cg) : (cgL c).length = 7 := rfl
theorem rqL_length (r : Rq) : (rqL r).length = 18 := rfl
def goodR (r : Rq) : Bool := (decide (r.k = 1) && (decide (1 ≤ r.c.k) && decide (r.c.k ≤ 4))) || (decide (r.k = 2) && (decide (1 ≤ r.q.k) && decide (r.q.k ≤ 7)))
end Go.Proofs.YthjnecicagmdeaaGreat
