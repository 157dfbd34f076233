/-
  Plain words: queries, requests, replies, operations; what a query asks for; which replies are one. Nothing of the program is walked here. No conditions.
-/
import Derived.Test.YthjnecicagmdeaaGreatTbE
import Derived.Test.YthjnecicagmdeaaGreatTcP
import Derived.Deep.MidRow
namespace Go.Proofs.YthjnecicagmdeaaGreat
open Go.RowKit Go.Al
set_option linter.unusedVariables false

/-- a reply, with the header of its list of ids -/
structure Rp where
  e : Int
  asked : Bool
  listed : Bool
  n : Int
  A : Option Addr
  cp : Nat
  ids : List Int
/-- an operation -/
structure Dd where
  iv : Int
  tk : Int
  rp : Int
  ab : Int
  rf : Int
  ss : Int
  r : Rq
  t : Rp

def rpL (t : Rp) : List Value := [.int .i64 t.e, .bool t.asked, .bool t.listed, .int .i64 t.n, .slice t.A t.ids.length t.cp]
def ddL (d : Dd) : List Value := [.int .i64 d.iv, .int .i64 d.tk, .int .i64 d.rp, .int .i64 d.ab, .int .i64 d.rf, .int .i64 d.ss] ++ rqL d.r ++ rpL d.t
def rpV (t : Rp) : Value := .agg (rpL t).toArray
def ddV (d : Dd) : Value := .agg (ddL d).toArray
theorem rpL_length (t : Rp) : (rpL t).length = 5 := rfl
theorem ddL_length (d : Dd) : (ddL d).length = 29 := rfl

/-- the reply's list reads as its ids -/
structure RpAt (w : World) (t : Rp) : Prop where
  rd : Rd w t.A (is t.ids)
  le : t.ids.length ≤ t.cp
  cp : t.cp ≤ maxLen
theorem RpAt.keep {w w' : World} {t : Rp} (h : RpAt w t) (hr : Rd w' t.A (is t.ids)) : RpAt w' t := ⟨hr, h.le, h.cp⟩
theorem RpAt.same {w w' : World} {t : Rp} (h : RpAt w t) (hs : Same w w') : RpAt w' t := h.keep (h.rd.same hs)

/-! requests and queries, judged -/
def boxE (a b c d : Int) : Int := if good a && good b && good c && good d then (if b < a then 3 else if d < c then 3 else 0) else 2
def spanE (lo hi : Int) : Int := if good lo && good hi then (if hi < lo then 3 else 0) else 2
def checkE (q : Qy) : Int :=
  if q.k = 1 ∨ q.k = 2 then boxE q.a q.b q.c q.d
  else if q.k = 3 ∨ q.k = 4 then boxE q.e q.f q.g 1099511627776
  else if q.k = 5 then spanE q.x q.x
  else if q.k = 6 ∨ q.k = 7 then spanE q.x q.h else 1
def countsB (q : Qy) : Bool := decide (q.k = 2) || (decide (q.k = 4) || decide (q.k = 7))
def pointsB (q : Qy) : Bool := decide (1 ≤ q.k) && decide (q.k ≤ 4)
def withinB (n lo hi : Int) : Bool := decide (lo ≤ n) && decide (n ≤ hi)
def hitB (q : Qy) (p : P3) : Bool :=
  if q.k ≤ 2 then withinB p.2.1 q.a q.b && withinB p.2.2 q.c q.d else withinB p.2.1 q.e q.f && decide (q.g ≤ p.2.2)
def overB (s t : P3) : Bool := decide (s.2.1 ≤ s.2.2) && (decide (t.2.1 ≤ t.2.2) && (decide (s.2.1 ≤ t.2.2) && decide (t.2.1 ≤ s.2.2)))
def metB (q : Qy) (s : P3) : Bool :=
  if q.k = 5 then withinB q.x s.2.1 s.2.2 else overB s (0, q.x, q.h)
/-- the ids that a query asks for -/
def idsOf (q : Qy) (p s : List P3) : List Int :=
  if pointsB q then (p.filter (hitB q)).map (·.1) else (s.filter (metB q)).map (·.1)
/-- what a query is told: a reply without a list's place -/
structure Ans where
  e : Int
  asked : Bool
  listed : Bool
  n : Int
  ids : List Int
def told (q : Qy) (p s : List P3) : Ans :=
  if checkE q = 0 then
    (if countsB q then ⟨0, true, false, (idsOf q p s).length, []⟩ else ⟨0, true, true, (idsOf q p s).length, idsOf q p s⟩)
  else ⟨checkE q, false, false, 0, []⟩
def code (e : Int) : Ans := ⟨e, false, false, 0, []⟩
/-- the reply to a request -/
def doesA (r : Rq) (p s : List P3) (most : Int) : Ans :=
  if goodR r then (if r.k = 1 then code (mayE p s most r.c) else told r.q p s) else code 0
def doesE (r : Rq) : Int := if goodR r then 0 else 8
def doesP (r : Rq) (p s : List P3) (most : Int) : List P3 := if goodR r && decide (r.k = 1) then doP' p s most r.c else p
def doesS (r : Rq) (p s : List P3) (most : Int) : List P3 := if goodR r && decide (r.k = 1) then doS' p s most r.c else s
/-- an answer, laid as a reply -/
def Ans.at_ (a : Ans) (A : Option Addr) (c : Nat) : Rp := ⟨a.e, a.asked, a.listed, a.n, A, c, a.ids⟩
def Rp.ans (t : Rp) : Ans := ⟨t.e, t.asked, t.listed, t.n, t.ids⟩
def sameA (a b : Ans) : Bool := decide (a.e = b.e) && (a.asked == b.asked && (a.listed == b.listed && (decide (a.n = b.n) && a.ids == b.ids)))

/-! operations -/
def mustD (d : Dd) : Bool := decide (0 ≤ d.rp)
def canD (d : Dd) : Bool := mustD d || (decide (0 ≤ d.iv) && (decide (d.rf < 0) && (decide (d.r.k = 1) && goodR d.r)))
def endD (d : Dd) : Int := if d.rp < d.rf then d.rf else d.rp
def beginD (d : Dd) : Int := if d.iv < d.rf then d.rf else d.iv
def beforeD (a b : Dd) : Bool := decide (0 ≤ endD a) && (decide (0 ≤ beginD b) && decide (endD a < beginD b))
end Go.Proofs.YthjnecicagmdeaaGreat
