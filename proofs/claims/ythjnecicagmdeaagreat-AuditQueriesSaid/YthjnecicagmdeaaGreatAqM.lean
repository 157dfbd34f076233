/-
  What points and intervals suggest: plain words, and what terms mean. No conditions.
-/
import Derived.Test.YthjnecicagmdeaaGreatLd
import Derived.Test.YthjnecicagmdeaaGreatQyD
import Derived.Test.YthjnecicagmdeaaGreatRfK
namespace Go.Proofs.YthjnecicagmdeaaGreat.V
open Go.Proofs.YthjnecicagmdeaaGreat Go.RowKit Go.E2
open Go.Al hiding P3
set_option linter.unusedVariables false
set_option linter.unusedSectionVars false

/-- what a point suggests -/
def sugP (p : List Int) : List (List Int) :=
  let x := p.getD 1 0
  let y := p.getD 2 0
  [[1, x, x, y, y, 0, 0, 0, 0, 0], [2, x, x, y, y, 0, 0, 0, 0, 0], [3, 0, 0, 0, 0, x, x, y, 0, 0], [4, 0, 0, 0, 0, x, x, y, 0, 0]]
/-- what an interval suggests -/
def sugS (s : List Int) : List (List Int) :=
  let lo := s.getD 1 0
  let hi := s.getD 2 0
  [[5, 0, 0, 0, 0, 0, 0, 0, lo, 0], [5, 0, 0, 0, 0, 0, 0, 0, hi, 0], [6, 0, 0, 0, 0, 0, 0, 0, lo, hi], [7, 0, 0, 0, 0, 0, 0, 0, lo, hi]]
/-- the least, the greatest -/
def ext (g : Int → Int → Int) (f : Nat) : List (List Int) → Int
  | [] => 0
  | p :: l => l.foldl (fun m p => g m (p.getD f 0)) (p.getD f 0)
theorem ext_snoc (g : Int → Int → Int) (f : Nat) {L : List (List Int)} (h : L ≠ []) (p : List Int) : ext g f (L ++ [p]) = g (ext g f L) (p.getD f 0) := by
  match L, h with
  | q :: l, _ => simp [ext, List.foldl_append]
def boxQ (L : List (List Int)) : List Int := [2, ext min 1 L, ext max 1 L, ext min 2 L, ext max 2 L, 0, 0, 0, 0, 0]
/-- a query out of its numbers -/
def qOf (l : List Int) : Qy := ⟨l.getD 0 0, l.getD 1 0, l.getD 2 0, l.getD 3 0, l.getD 4 0, l.getD 5 0, l.getD 6 0, l.getD 7 0, l.getD 8 0, l.getD 9 0⟩
def okQ (l : List Int) : Bool := decide (checkE (qOf l) = 0)
def allQ (P S : List (List Int)) : List (List Int) := P.flatMap sugP ++ (S.flatMap sugS ++ if P = [] then [] else [boxQ P])
def sugQ (P S : List (List Int)) : List (List Int) := (allQ P S).filter okQ
def cntQ (L : List (List Int)) (k : Int) : Int := ((L.filter fun q => q.getD 0 0 == k).length : Nat)

def firstBad (L : List (List Int)) : Int := match L.findIdx? fun x => !okQ x with
  | some k => k
  | none => -1
def aqRowc : Nat → Option (TypeId × Nat × Bool)
  | 100 => some (40, 3, true)
  | 101 => some (40, 3, false)
  | 102 => some (42, 3, true)
  | 103 => some (42, 3, false)
  | 106 => some (34, 10, true)
  | 107 => some (34, 10, false)
  | _ => none
def aqOwnc (e : TypeId) : Option Nat := cond (Nat.beq e 40) (some 100) (cond (Nat.beq e 42) (some 102) (cond (Nat.beq e 34) (some 106) none))
def aqO : Nat → List LD → LD
  | 21, [a] => .r (a.toR.flatMap sugP)
  | 22, [a] => .r (a.toR.flatMap sugS)
  | 23, [a] => .i (ext min 1 a.toR)
  | 24, [a] => .i (ext max 1 a.toR)
  | 25, [a] => .i (ext min 2 a.toR)
  | 26, [a] => .i (ext max 2 a.toR)
  | 27, [a] => .r (a.toR.filter okQ)
  | 28, [a, b] => .r (sugQ a.toR b.toR)
  | 29, [a, k] => .i (cntQ a.toR k.toI)
  | 30, l => .i (checkE (qOf (l.map LD.toI)))
  | 31, [a, b] => .b (decide (a.toR = b.toR))
  | 32, [a] => .i (firstBad a.toR)
  | _, _ => .i 0
@[reducible] def aqTh : Th := mkThR LD LD.toI LD.toB .i .b (fun _ => rfl) (fun _ => rfl) (fun _ => false) LD.toR .r (fun _ => rfl) aqO aqRowc aqOwnc (fun _ => 3) (fun _ _ _ _ _ => False)
  (fun h _ => h) (fun h _ => h.elim) (fun h _ => h.elim) (fun h _ => h.elim) (fun _ => by decide)
instance aqI : Th := aqTh
/-- letters -/
def lets (l : List LD) (j : Nat) : LD := l.getD j (.i 0)
theorem newR_lets {ts : List Tm} {l : List LD} (h : ts.length = l.length) : newR ts (lets l) = lets (tdenL (lets l) ts) := by
  letI : Facts := ⟨[], [], fun _ => True, []⟩
  funext j
  unfold newR tsD
  have hl : (tdenL (lets l) ts).length = ts.length := tdenL_length _ _
  rcases Nat.lt_or_ge j ts.length with hj | hj
  · have : ∀ (ts : List Tm) (d : Tm) (j : Nat), j < ts.length → (tdenL (lets l) ts).getD j (.i 0) = (ts.getD j d).den (lets l) := by
      intro ts d
      induction ts with
      | nil => intro j h; cases h
      | cons t ts ih =>
        intro j h
        cases j with
        | zero => rfl
        | succ j => simpa [tdenL] using ih j (by simpa using h)
    exact (this ts _ j hj).symm
  · have e1 : ts.getD j (.var j) = .var j := by rw [List.getD_eq_getElem?_getD, List.getElem?_eq_none hj]; rfl
    rw [e1]
    show l.getD j (.i 0) = (tdenL (lets l) ts).getD j (.i 0)
    rw [List.getD_eq_getElem?_getD, List.getD_eq_getElem?_getD, List.getElem?_eq_none (by omega), List.getElem?_eq_none (by omega)]
end Go.Proofs.YthjnecicagmdeaaGreat.V
