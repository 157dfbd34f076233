/-
  Plain words on orders that explain operations: which may be the next ones, the first order that explains all. Nothing of the program is walked here. No conditions.
  Operations: linear.must, linear.can, history.ended, begun, Before; a slice of operations. No conditions.
  linear.can: which operations can have happened. No conditions.
-/
import Derived.Test.YtenkdjfikppkdaaGreatDoorQyP
import Derived.Test.YtenkdjfikppkdaaGreatDoorIn
import Derived.Test.YtenkdjfikppkdaaGreatDoorQyF
import Derived.Test.YtenkdjfikppkdaaGreatDoorQs
/-! LnP -/
namespace Go.Proofs.YtenkdjfikppkdaaGreatDoor
open Go.RowKit Go.Al
set_option linter.unusedVariables false

/-- does operation k keep x, number i, from being the next one? -/
def holdsB (l : List Dd) (done : List Int) (i : Nat) (x : Dd) (k : Nat) : Bool :=
  decide (k ≠ i) && (l[k]?).any fun d => mustD d && (!hasI done k && beforeD d x)
def freeB (l : List Dd) (done : List Int) (i : Nat) : Bool :=
  (l[i]?).any fun x => canD x && (!hasI done i && (List.range l.length).all fun k => !holdsB l done i x k)
def leftB (l : List Dd) (done : List Int) (k : Nat) : Bool := (l[k]?).any fun d => mustD d && !hasI done k
def explainsB (l : List Dd) (done : List Int) : Bool := (List.range l.length).all fun k => !leftB l done k
def allL (l : List Dd) (done : List Int) : List Int := ((List.range l.length).filter (freeB l done)).map fun i : Nat => (i : Int)
/-- does an operation, done to points and intervals, tell what it was told? -/
def tellsB (p s : List P3) (most : Int) (d : Dd) : Bool :=
  decide (doesE d.r = 0) && (if mustD d then sameA (doesA d.r p s most) d.t.ans else decide ((doesA d.r p s most).e = 0))
/-- the first order that explains all, of those that go on with one that is done -/
def srch (l : List Dd) (most : Int) : Nat → List P3 → List P3 → List Int → Option (List Int)
  | 0, p, s, done => if explainsB l done then some done else none
  | f + 1, p, s, done =>
    if explainsB l done then some done
    else (allL l done).findSome? fun i =>
      match l[i.toNat]? with
      | some d => if tellsB p s most d then srch l most f (doesP d.r p s most) (doesS d.r p s most) (done ++ [i]) else none
      | none => none
def canN (l : List Dd) : Nat := (l.filter canD).length

theorem mem_allL {l : List Dd} {done : List Int} {i : Int} : i ∈ allL l done ↔ ∃ k : Nat, k < l.length ∧ i = k ∧ freeB l done k = true := by
  unfold allL
  simp only [List.mem_map, List.mem_filter, List.mem_range]
  constructor
  · rintro ⟨k, ⟨h1, h2⟩, rfl⟩; exact ⟨k, h1, rfl, h2⟩
  · rintro ⟨k, h1, rfl, h2⟩; exact ⟨k, ⟨h1, h2⟩, rfl⟩
theorem free_new {l : List Dd} {done : List Int} {k : Nat} (h : freeB l done k = true) : hasI done k = false := by
  unfold freeB at h
  rw [Option.any_eq_true_iff_get] at h
  obtain ⟨_, h⟩ := h
  simp only [Bool.and_eq_true, Bool.not_eq_true'] at h
  exact h.2.1
end Go.Proofs.YtenkdjfikppkdaaGreatDoor
/-! LnA -/
namespace Go.Proofs.YtenkdjfikppkdaaGreatDoor
open Go.RowKit Go.Al
set_option linter.unusedVariables false

/-- a slice of operations -/
structure Dds (w : World) (A : Option Addr) (l : List Dd) : Prop where
  row : l ≠ [] → ∃ b off, A = some ⟨b, off, none⟩ ∧ b < w.heap.size ∧ ∀ i (h : i < l.length), w.rangeAt b (off + i * 29) (ddL l[i])
  rep : ∀ d ∈ l, RpAt w d.t
theorem Dds.same {w w' : World} {A : Option Addr} {l : List Dd} (h : Dds w A l) (hs : Same w w') : Dds w' A l :=
  ⟨fun hn => by
    obtain ⟨b, off, e, hb, hc⟩ := h.row hn
    exact ⟨b, off, e, Nat.lt_of_lt_of_le hb hs.size, fun i hi => rangeAt_same (hc i hi) hs⟩, fun d hd => (h.rep d hd).same hs⟩
theorem Dds.at_ {w : World} {A : Option Addr} {l : List Dd} (h : Dds w A l) {i : Nat} (hi : i < l.length) :
    ∃ b off, A = some ⟨b, off, none⟩ ∧ b < w.heap.size ∧ w.rangeAt b (off + i * 29) (ddL l[i]) ∧ RpAt w l[i].t := by
  obtain ⟨b, off, e, hb, hc⟩ := h.row (fun e => by rw [e] at hi; simp at hi)
  exact ⟨b, off, e, hb, hc i hi, h.rep _ (List.getElem_mem hi)⟩
theorem infoDeed : (Tryz.prog.info? 116).map (·.size) = some 29 := by kernel_rfl
theorem infoReq : (Tryz.prog.info? 38).map (·.size) = some 18 := by kernel_rfl
theorem infoRep : (Tryz.prog.info? 44).map (·.size) = some 5 := by kernel_rfl
theorem one_ddL (d : Dd) : ∀ u ∈ ddL d, u.oneCell' = true := by
  intro u hu
  simp only [ddL, rqL, cgL, qL, rpL, List.cons_append, List.nil_append, List.mem_cons, List.not_mem_nil, or_false] at hu
  rcases hu with h | h | h | h | h | h | h | h | h | h | h | h | h | h | h | h | h | h | h | h | h | h | h | h | h | h | h | h | h <;> (subst h; rfl)
theorem blk_deed (w : World) (t : TypeId) (d : Dd) : (w.alloc (.cells (ddL d).toArray t)).rangeAt w.heap.size 0 (ddL d) := fun j v hv => by
  rw [Nat.zero_add, (Blk.new w t (ddL d).toArray).cell]
  simpa using hv

def maxI (a b : Int) : Int := if a < b then b else a
theorem endD_eq (d : Dd) : endD d = maxI d.rp d.rf := rfl
theorem beginD_eq (d : Dd) : beginD d = maxI d.iv d.rf := rfl
end Go.Proofs.YtenkdjfikppkdaaGreatDoor
/-! LnB -/
namespace Go.Proofs.YtenkdjfikppkdaaGreatDoor
open Go.RowKit Go.Al
set_option linter.unusedVariables false

end Go.Proofs.YtenkdjfikppkdaaGreatDoor
