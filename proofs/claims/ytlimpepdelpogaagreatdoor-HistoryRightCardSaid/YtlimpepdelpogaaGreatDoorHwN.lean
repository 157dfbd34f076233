/-
  Histories, plainly: one event taken, all of them; when a history is sound, by the code and by the document; what took, replayed. No program in sight.
  Operations in a row of memory that a call made for itself: one cell written, or a reply. No conditions.
  More of operations in a row of memory: their cells, a reply written as one row; an event's reply in a row of events. No conditions.
-/
import Derived.Test.YtlimpepdelpogaaGreatDoorStC
import Derived.Test.YtlimpepdelpogaaGreatDoorQyF
import Derived.Test.YtlimpepdelpogaaGreatDoorHrA
import Derived.Test.YtlimpepdelpogaaGreatDoorHyG
import Derived.Test.YtlimpepdelpogaaGreatDoorLnB
/-! HwP -/
namespace Go.Proofs.YtlimpepdelpogaaGreatDoor
open Go.RowKit Go.Al
set_option linter.unusedVariables false
/-- an operation as it begins -/
def freshD (e : Ev) : Dd := ⟨-1, -1, -1, -1, -1, e.ss, e.r, ⟨0, false, false, 0, none, 0, []⟩⟩
/-- when an operation met an event of a kind -/
def timeD (d : Dd) (k : Int) : Int := if k = 1 then d.iv else if k = 2 then d.tk else if k = 3 then d.rp else if k = 4 then d.ab else d.rf
def setD (d : Dd) (k : Int) (i : Int) : Dd :=
  if k = 1 then { d with iv := i } else if k = 2 then { d with tk := i } else if k = 3 then { d with rp := i } else if k = 4 then { d with ab := i } else { d with rf := i }
/-- what an event told -/
def repAt (all : List Ev) (i : Int) : Ans := (all.map (·.t.ans))[i.toNat]?.getD (code 0)
def likeD (all : List Ev) (d : Dd) : Bool := decide (d.tk < 0) || (decide (d.rp < 0) || sameA (repAt all d.tk) (repAt all d.rp))
/-- an event at its operation -/
def placeP (all : List Ev) (i : Nat) (e : Ev) (d : Dd) : Option Dd :=
  if e.k < 1 ∨ 5 < e.k then none
  else if ¬ (timeD d e.k < 0 ∧ d.ss = e.ss ∧ eqR d.r e.r = true ∧ goodR e.r = true) then none
  else if e.k = 2 ∨ e.k = 3 then (if likeD all (setD d e.k i) then some { setD d e.k i with t := e.t } else none)
  else if e.k = 5 then some { setD d e.k i with t := e.t } else some (setD d e.k i)
/-- one event -/
def takeP (all : List Ev) (i : Nat) (e : Ev) (st : Int) (ds : List Dd) : Option (List Dd) :=
  if e.st < st ∨ e.op < 0 ∨ (ds.length : Int) + 1 < e.op then none
  else if e.op = 0 then (if e.k = 5 ∧ e.t.e = 8 then some ds else none)
  else if e.op = ds.length + 1 then
    (if e.k = 1 ∨ e.k = 5 then (placeP all i e (freshD e)).map fun d => ds ++ [d] else none)
  else (placeP all i e (ds.getD (e.op - 1).toNat (freshD e))).map fun d => ds.set (e.op - 1).toNat d
/-- events from the i-th on -/
def goP (all : List Ev) : Nat → Int → List Dd → List Ev → Option (List Dd)
  | _, _, ds, [] => some ds
  | i, st, ds, e :: l => match takeP all i e st ds with
    | none => none
    | some ds' => goP all (i + 1) e.st ds' l
/-- sound, by the code -/
def soundP (d : Dd) : Bool :=
  if 0 ≤ d.rf then decide (d.iv < 0) && (decide (d.tk < 0) && (decide (d.rp < 0) && (decide (d.ab < 0) && decide (d.t.e = 7))))
  else if d.iv < 0 ∨ 0 ≤ d.tk ∧ d.tk < d.iv then false
  else if 0 ≤ d.rp then decide (0 ≤ d.tk) && (decide (d.tk < d.rp) && decide (d.ab < 0))
  else if 0 ≤ d.tk then decide (0 ≤ d.ab) && (decide (d.ab < d.tk) && (decide (d.r.k = 1) && decide (d.t.e = 0)))
  else true
/-- sound, by the document -/
def soundR (d : Dd) : Bool :=
  if 0 ≤ d.rf then !(decide (0 ≤ d.iv) || (decide (0 ≤ d.tk) || (decide (0 ≤ d.rp) || (decide (0 ≤ d.ab) || decide (d.t.e ≠ 7)))))
  else if d.iv < 0 ∨ (0 ≤ d.tk ∧ d.tk < d.iv) ∨ (0 ≤ d.rp ∧ (d.tk < 0 ∨ d.rp < d.tk ∨ 0 ≤ d.ab)) then false
  else if 0 ≤ d.tk ∧ d.rp < 0 ∧ (d.ab < 0 ∨ d.tk < d.ab ∨ d.r.k ≠ 1 ∨ d.t.e ≠ 0) then false
  else true
/-- what holds of operations when i events are gone over -/
structure InvD (all : List Ev) (i : Nat) (d : Dd) : Prop where
  iv : d.iv < i
  tk : d.tk < i
  rp : d.rp < i
  ab : d.ab < i
  rf : d.rf < i
  like : likeD all d = true
  tr : 0 ≤ d.tk → d.tk ≠ d.rp
  ta : 0 ≤ d.tk → d.tk ≠ d.ab
theorem InvD.mono {all : List Ev} {i j : Nat} {d : Dd} (h : InvD all i d) (hij : i ≤ j) : InvD all j d :=
  ⟨by have := h.iv; omega, by have := h.tk; omega, by have := h.rp; omega, by have := h.ab; omega, by have := h.rf; omega, h.like, h.tr, h.ta⟩
theorem InvD.fresh (all : List Ev) (i : Nat) (e : Ev) : InvD all i (freshD e) :=
  ⟨by show (-1 : Int) < i; omega, by show (-1 : Int) < i; omega, by show (-1 : Int) < i; omega, by show (-1 : Int) < i; omega, by show (-1 : Int) < i; omega, rfl,
    fun h => absurd h (by show ¬ (0 : Int) ≤ -1; omega), fun h => absurd h (by show ¬ (0 : Int) ≤ -1; omega)⟩
theorem sound_eq {all : List Ev} {i : Nat} {d : Dd} (h : InvD all i d) : soundR d = soundP d := by
  have h1 := h.tr
  have h2 := h.ta
  unfold soundR soundP
  by_cases c1 : 0 ≤ d.rf
  · rw [if_pos c1, if_pos c1]
    by_cases c2 : 0 ≤ d.iv
    · simp [c2, Int.not_lt.2 c2]
    · by_cases c3 : 0 ≤ d.tk
      · simp [c3, Int.not_lt.2 c3]
      · by_cases c4 : 0 ≤ d.rp
        · simp [c4, Int.not_lt.2 c4]
        · by_cases c5 : 0 ≤ d.ab
          · simp [c5, Int.not_lt.2 c5]
          · simp [c2, c3, c4, c5, Int.not_le.1 c2, Int.not_le.1 c3, Int.not_le.1 c4, Int.not_le.1 c5]
  · rw [if_neg c1, if_neg c1]
    by_cases a1 : d.iv < 0 ∨ 0 ≤ d.tk ∧ d.tk < d.iv
    · rw [if_pos a1, if_pos (by rcases a1 with a | a; exact .inl a; exact .inr (.inl a))]
    · rw [if_neg a1]
      by_cases a2 : 0 ≤ d.rp
      · rw [if_pos a2]
        by_cases a3 : d.tk < 0 ∨ d.rp < d.tk ∨ 0 ≤ d.ab
        · rw [if_pos (.inr (.inr ⟨a2, a3⟩))]
          rcases a3 with a | a | a
          · simp [Int.not_le.2 a]
          · have : ¬ d.tk < d.rp := by omega
            simp [this]
          · simp [Int.not_lt.2 a]
        · have b1 : 0 ≤ d.tk := by omega
          have b2 : d.tk < d.rp := by have := h1 b1; omega
          have b3 : d.ab < 0 := by omega
          rw [if_neg (by intro hh; omega), if_neg (by intro hh; omega)]
          simp [b1, b2, b3]
      · rw [if_neg a2, if_neg (by intro hh; omega)]
        by_cases a3 : 0 ≤ d.tk
        · rw [if_pos a3]
          by_cases a4 : d.ab < 0 ∨ d.tk < d.ab ∨ d.r.k ≠ 1 ∨ d.t.e ≠ 0
          · rw [if_pos ⟨a3, by omega, a4⟩]
            rcases a4 with a | a | a | a
            · simp [Int.not_le.2 a]
            · have : ¬ d.ab < d.tk := by omega
              simp [this]
            · simp [a]
            · simp [a]
          · have b1 : 0 ≤ d.ab := by omega
            have b2 : d.ab < d.tk := by have := h2 a3; omega
            have b3 : d.r.k = 1 := by omega
            have b4 : d.t.e = 0 := by omega
            rw [if_neg (by intro hh; omega)]
            simp [b1, b2, b3, b4]
        · rw [if_neg (by intro hh; omega), if_neg a3]
theorem place_inv {all : List Ev} {i : Nat} {e : Ev} {d d' : Dd} (h : InvD all i d) (hp : placeP all i e d = some d') : InvD all (i + 1) d' := by
  have h0 := h.mono (Nat.le_succ i)
  obtain ⟨iv, tk, rp, ab, rf, ss, r, t⟩ := d
  obtain ⟨ek, est, ess, eop, er, et⟩ := e
  unfold placeP at hp
  dsimp only at hp
  by_cases hk : ek < 1 ∨ 5 < ek
  · rw [if_pos hk] at hp
    cases hp
  · rw [if_neg hk] at hp
    by_cases hc : timeD ⟨iv, tk, rp, ab, rf, ss, r, t⟩ ek < 0 ∧ ss = ess ∧ eqR r er = true ∧ goodR er = true
    · rw [if_neg (fun h => h hc)] at hp
      obtain ⟨c1, c2, c3, c4⟩ := hc
      clear c2 c3 c4
      have hkk : ek = 1 ∨ ek = 2 ∨ ek = 3 ∨ ek = 4 ∨ ek = 5 := by omega
      have q1 := h0.iv
      have q2 := h0.tk
      have q3 := h0.rp
      have q4 := h0.ab
      have q5 := h0.rf
      have q6 := h0.like
      have q7 := h0.tr
      have q8 := h0.ta
      have p1 := h.iv
      have p2 := h.tk
      have p3 := h.rp
      have p4 := h.ab
      have p5 := h.rf
      clear h h0 hk
      dsimp only at q1 q2 q3 q4 q5 q7 q8 p1 p2 p3 p4 p5
      rcases hkk with rfl | rfl | rfl | rfl | rfl
      · simp [timeD, setD] at hp c1
        subst hp
        exact ⟨by dsimp only; omega, by dsimp only; omega, by dsimp only; omega, by dsimp only; omega, by dsimp only; omega, q6, fun h => q7 h, fun h => q8 h⟩
      · simp [timeD, setD] at hp c1
        obtain ⟨hl, hp⟩ := hp
        subst hp
        exact ⟨by dsimp only; omega, by dsimp only; omega, by dsimp only; omega, by dsimp only; omega, by dsimp only; omega, hl, fun h => by dsimp only at h ⊢; omega, fun h => by dsimp only at h ⊢; omega⟩
      · simp [timeD, setD] at hp c1
        obtain ⟨hl, hp⟩ := hp
        subst hp
        exact ⟨by dsimp only; omega, by dsimp only; omega, by dsimp only; omega, by dsimp only; omega, by dsimp only; omega, hl, fun h => by dsimp only at h ⊢; omega, fun h => by dsimp only at h ⊢; exact q8 h⟩
      · simp [timeD, setD] at hp c1
        subst hp
        exact ⟨by dsimp only; omega, by dsimp only; omega, by dsimp only; omega, by dsimp only; omega, by dsimp only; omega, q6, fun h => q7 h, fun h => by dsimp only at h ⊢; omega⟩
      · simp [timeD, setD] at hp c1
        subst hp
        exact ⟨by dsimp only; omega, by dsimp only; omega, by dsimp only; omega, by dsimp only; omega, by dsimp only; omega, q6, fun h => q7 h, fun h => q8 h⟩
    · rw [if_pos hc] at hp
      cases hp
theorem take_inv {all : List Ev} {i : Nat} {e : Ev} {st : Int} {ds ds' : List Dd} (h : ∀ d ∈ ds, InvD all i d) (ht : takeP all i e st ds = some ds') : ∀ d ∈ ds', InvD all (i + 1) d := by
  unfold takeP at ht
  split at ht
  · cases ht
  · split at ht
    · split at ht
      · cases ht
        exact fun d hd => (h d hd).mono (Nat.le_succ i)
      · cases ht
    · split at ht
      · split at ht
        · rw [Option.map_eq_some_iff] at ht
          obtain ⟨d1, h1, rfl⟩ := ht
          intro d hd
          rcases List.mem_append.1 hd with hd | hd
          · exact (h d hd).mono (Nat.le_succ i)
          · rw [List.mem_singleton.1 hd]
            exact place_inv (InvD.fresh all i e) h1
        · cases ht
      · rename_i h1 h2 h3
        rw [Option.map_eq_some_iff] at ht
        obtain ⟨d1, hd1, rfl⟩ := ht
        intro d hd
        rcases List.mem_or_eq_of_mem_set hd with hd | rfl
        · exact (h d hd).mono (Nat.le_succ i)
        · refine place_inv ?_ hd1
          have hlt : (e.op - 1).toNat < ds.length := by omega
          rw [List.getD_eq_getElem?_getD, List.getElem?_eq_getElem hlt]
          exact h _ (List.getElem_mem hlt)
theorem go_inv {all : List Ev} : ∀ (l : List Ev) {i : Nat} {st : Int} {ds ds' : List Dd}, (∀ d ∈ ds, InvD all i d) → goP all i st ds l = some ds' → ∀ d ∈ ds', InvD all (i + l.length) d
  | [], i, st, ds, ds', h, hg => by
    unfold goP at hg
    cases hg
    exact h
  | e :: l, i, st, ds, ds', h, hg => by
    unfold goP at hg
    split at hg
    · cases hg
    · rename_i ds1 h1
      have := go_inv l (take_inv h h1) hg
      rw [List.length_cons, show i + (l.length + 1) = i + 1 + l.length by omega]
      exact this
/-- the document's question of steps, from 0 on -/
theorem go_st {all l : List Ev} {i : Nat} {st st' : Int} {ds : List Dd} (h : ∀ e r, l = e :: r → (e.st < st ↔ e.st < st')) : goP all i st ds l = goP all i st' ds l := by
  cases l with
  | nil => rfl
  | cons e r =>
    have := h e r rfl
    unfold goP takeP
    simp only [this]
/-- an operation without its list's place -/
def stripD (d : Dd) : Dd := { d with t := { d.t with A := none, cp := 0 } }
def bareE (d : Ev) : Ev := { d with t := { d.t with A := none, cp := 0 } }
theorem repAt_bare (all : List Ev) (i : Int) : repAt (all.map bareE) i = repAt all i := by
  unfold repAt
  rw [List.map_map]
  rfl
theorem likeD_bare (all : List Ev) (d : Dd) : likeD (all.map bareE) (stripD d) = likeD all d := by
  unfold likeD
  rw [repAt_bare, repAt_bare]
  rfl
theorem setD_strip (d : Dd) (k i : Int) : setD (stripD d) k i = stripD (setD d k i) := by
  unfold setD stripD
  split
  · rfl
  · split
    · rfl
    · split
      · rfl
      · split <;> rfl
theorem timeD_strip (d : Dd) (k : Int) : timeD (stripD d) k = timeD d k := rfl
theorem place_bare (all : List Ev) (i : Nat) (e : Ev) (d : Dd) : placeP (all.map bareE) i (bareE e) (stripD d) = (placeP all i e d).map stripD := by
  unfold placeP
  rw [timeD_strip, setD_strip, show (bareE e).k = e.k from rfl, show (bareE e).ss = e.ss from rfl, show (bareE e).r = e.r from rfl, show (stripD d).ss = d.ss from rfl, show (stripD d).r = d.r from rfl, likeD_bare]
  split
  · rfl
  · split
    · rfl
    · split
      · split
        · rfl
        · rfl
      · split <;> rfl
theorem take_bare (all : List Ev) (i : Nat) (e : Ev) (st : Int) (ds : List Dd) : takeP (all.map bareE) i (bareE e) st (ds.map stripD) = (takeP all i e st ds).map (List.map stripD) := by
  unfold takeP
  rw [List.length_map, show (bareE e).k = e.k from rfl, show (bareE e).st = e.st from rfl, show (bareE e).op = e.op from rfl, show (bareE e).t.e = e.t.e from rfl, show freshD (bareE e) = stripD (freshD e) from rfl]
  split
  · rfl
  · split
    · split <;> rfl
    · split
      · split
        · rw [place_bare]
          cases placeP all i e (freshD e) <;> simp
        · rfl
      · rw [List.getD_eq_getElem?_getD, List.getElem?_map, show (ds[(e.op - 1).toNat]?.map stripD).getD (stripD (freshD e)) = stripD (ds.getD (e.op - 1).toNat (freshD e)) by
          rw [List.getD_eq_getElem?_getD]; cases ds[(e.op - 1).toNat]? <;> rfl, place_bare]
        cases placeP all i e (ds.getD (e.op - 1).toNat (freshD e)) with
        | none => rfl
        | some d => simp
theorem go_bare (all : List Ev) : ∀ (l : List Ev) (i : Nat) (st : Int) (ds : List Dd), goP (all.map bareE) i st (ds.map stripD) (l.map bareE) = (goP all i st ds l).map (List.map stripD)
  | [], i, st, ds => rfl
  | e :: l, i, st, ds => by
    rw [List.map_cons]
    unfold goP
    rw [take_bare]
    cases takeP all i e st ds with
    | none => rfl
    | some ds' =>
      rw [Option.map_some]
      exact go_bare all l (i + 1) e.st ds'
/-- what took, in that order -/
def replP (n : Int) : List Ev → List P3 → List P3 → Option (List P3 × List P3)
  | [], p, s => some (p, s)
  | e :: l, p, s =>
    if e.k = 2 then (if goodR e.r && sameA (doesA e.r p s n) e.t.ans then replP n l (doesP e.r p s n) (doesS e.r p s n) else none)
    else replP n l p s
theorem repl_bare (n : Int) : ∀ (l : List Ev) (p s : List P3), replP n (l.map bareE) p s = replP n l p s
  | [], p, s => rfl
  | e :: l, p, s => by
    rw [List.map_cons]
    unfold replP
    rw [repl_bare n l, repl_bare n l]
    rfl
theorem place_good {all : List Ev} {i : Nat} {e : Ev} {d d' : Dd} (h : placeP all i e d = some d') : goodR e.r = true := by
  unfold placeP at h
  split at h
  · cases h
  · split at h
    · cases h
    · rename_i hc
      exact (Classical.not_not.1 hc).2.2.2
theorem take_good {all : List Ev} {i : Nat} {e : Ev} {st : Int} {ds ds' : List Dd} (h : takeP all i e st ds = some ds') (hk : e.k = 2) : goodR e.r = true := by
  unfold takeP at h
  split at h
  · cases h
  · split at h
    · split at h
      · rename_i h1 h2 h3
        omega
      · cases h
    · split at h
      · split at h
        · rw [Option.map_eq_some_iff] at h
          obtain ⟨d, hd, _⟩ := h
          exact place_good hd
        · cases h
      · rw [Option.map_eq_some_iff] at h
        obtain ⟨d, hd, _⟩ := h
        exact place_good hd
theorem go_good {all : List Ev} : ∀ (l : List Ev) {i : Nat} {st : Int} {ds ds' : List Dd}, goP all i st ds l = some ds' → ∀ e ∈ l, e.k = 2 → goodR e.r = true
  | [], i, st, ds, ds', h, e, he, _ => by cases he
  | x :: l, i, st, ds, ds', h, e, he, hk => by
    unfold goP at h
    split at h
    · cases h
    · rename_i ds1 h1
      rcases List.mem_cons.1 he with rfl | he
      · exact take_good h1 hk
      · exact go_good l h e he hk
/-- right, by the code -/
def rightP (l : List Ev) (n : Int) : Bool :=
  match goP l 0 ((l.map (·.st)).headD 0) [] l with
  | none => false
  | some ds => (replP n l [] []).isSome && ds.all soundP
/-- right, by the document -/
def rightR (l : List Ev) (n : Int) : Bool :=
  match goP l 0 0 [] l with
  | none => false
  | some ds => (replP n l [] []).isSome && ds.all soundR
theorem right_bare (l : List Ev) (n : Int) : rightP (l.map bareE) n = rightP l n := by
  unfold rightP
  have h := go_bare l l 0 ((l.map (·.st)).headD 0) []
  rw [List.map_nil] at h
  rw [repl_bare, List.map_map, show ((fun x : Ev => x.st) ∘ bareE) = fun x => x.st from rfl, h]
  cases goP l 0 ((l.map (·.st)).headD 0) [] l with
  | none => rfl
  | some ds =>
    rw [Option.map_some]
    simp only [List.all_map]
    rfl
theorem right_eq (l : List Ev) (n : Int) (h : ∀ e r, l = e :: r → 0 ≤ e.st) : rightR l n = rightP l n := by
  unfold rightR rightP
  rw [show goP l 0 0 [] l = goP l 0 ((l.map (·.st)).headD 0) [] l from go_st fun e r hl => by
    subst hl
    have := h e r rfl
    simp
    omega]
  cases hg : goP l 0 ((l.map (·.st)).headD 0) [] l with
  | none => rfl
  | some ds =>
    have hi := go_inv l (fun d hd => by cases hd) hg
    have : ds.all soundR = ds.all soundP := by
      rw [Bool.eq_iff_iff, List.all_eq_true, List.all_eq_true]
      exact ⟨fun h d hd => by rw [← sound_eq (hi d hd)]; exact h d hd, fun h d hd => by rw [sound_eq (hi d hd)]; exact h d hd⟩
    simp only [this]
end Go.Proofs.YtlimpepdelpogaaGreatDoor
/-! HwM -/
namespace Go.Proofs.YtlimpepdelpogaaGreatDoor
open Go.RowKit Go.Al
set_option linter.unusedVariables false
def flatD (l : List Dd) : List Value := l.flatMap ddL
theorem flatD_len : ∀ l : List Dd, (flatD l).length = l.length * 29
  | [] => rfl
  | d :: r => by
    have := flatD_len r
    unfold flatD at this ⊢
    rw [List.flatMap_cons, List.length_append, ddL_length, this, List.length_cons]
    omega
theorem flatD_snoc (l : List Dd) (d : Dd) : flatD (l ++ [d]) = flatD l ++ ddL d := by simp [flatD]
theorem flatD_get : ∀ {l : List Dd} {i : Nat} (h : i < l.length) (j : Nat), j < 29 → (flatD l)[i * 29 + j]? = (ddL l[i])[j]?
  | d :: r, 0, h, j, hj => by
    unfold flatD
    rw [List.flatMap_cons, Nat.zero_mul, Nat.zero_add, List.getElem?_append_left (by rw [ddL_length]; exact hj)]
    rfl
  | d :: r, i + 1, h, j, hj => by
    have := flatD_get (l := r) (i := i) (by simpa using h) j hj
    unfold flatD at this ⊢
    rw [List.flatMap_cons, List.getElem?_append_right (by rw [ddL_length]; omega), ddL_length, show (i + 1) * 29 + j - 29 = i * 29 + j by omega, this]
    rfl
theorem flatD_set : ∀ {l : List Dd} {i : Nat} (h : i < l.length) (j : Nat) (_ : j < 29) (v : Value) (d' : Dd), ddL d' = (ddL l[i]).set j v → (flatD l).set (i * 29 + j) v = flatD (l.set i d')
  | d :: r, 0, h, j, hj, v, d', hd => by
    unfold flatD
    rw [List.flatMap_cons, Nat.zero_mul, Nat.zero_add, List.set_append_left _ _ (by rw [ddL_length]; exact hj), List.set_cons_zero, List.flatMap_cons, hd]
    rfl
  | d :: r, i + 1, h, j, hj, v, d', hd => by
    have := flatD_set (l := r) (i := i) (by simpa using h) j hj v d' hd
    unfold flatD at this ⊢
    rw [List.flatMap_cons, List.set_append_right _ _ (by rw [ddL_length]; omega), ddL_length, show (i + 1) * 29 + j - 29 = i * 29 + j by omega, this, List.set_cons_succ, List.flatMap_cons]
theorem ddL_setD (d : Dd) (i : Int) {k : Int} (h : 1 ≤ k ∧ k ≤ 5) : ddL (setD d k i) = (ddL d).set (k - 1).toNat (.int .i64 i) := by
  have hk : k = 1 ∨ k = 2 ∨ k = 3 ∨ k = 4 ∨ k = 5 := by omega
  rcases hk with rfl | rfl | rfl | rfl | rfl <;> rfl
theorem ddL_time (d : Dd) {k : Int} (h : 1 ≤ k ∧ k ≤ 5) : (ddL d)[(k - 1).toNat]? = some (.int .i64 (timeD d k)) := by
  have hk : k = 1 ∨ k = 2 ∨ k = 3 ∨ k = 4 ∨ k = 5 := by omega
  rcases hk with rfl | rfl | rfl | rfl | rfl <;> rfl
section
variable {w : World} {base : Nat} {e : TypeId} {size n : Nat} {xs : List Value}
/-- a row that is not empty: its block -/
theorem own_blk {A : Option Addr} {c : Nat} (h : w.ownsRow base e size (.slice A n c) n xs) (hx : xs ≠ []) :
    ∃ g, A = some ⟨g, 0, none⟩ ∧ base ≤ g ∧ g < w.heap.size ∧ ty w g = some e ∧ (∀ i, w.frozen? ⟨g, i, none⟩ = false) ∧ ∀ i v, xs[i]? = some v → w.cell? ⟨g, i, none⟩ = some v := by
  have hc := @World.ownsRow.cells w base e size _ n xs h
  rcases h.2 with ⟨hv, rfl⟩ | ⟨g, cap, cur, hv, hb, hg, hn, hm, hs, ht⟩
  · exact absurd (List.eq_nil_of_length_eq_zero (by simpa using h.1)) hx
  · cases hv
    refine ⟨g, rfl, hb, (Array.getElem?_eq_some_iff.1 hg).1, ty_cells hg, fun i => (show Blk w g e cur from hg).frozen i, fun i v hi => ?_⟩
    have := hc (g := g) rfl i v hi
    rwa [add_lit, Nat.zero_add] at this
/-- one cell written -/
theorem own_put {g c : Nat} (h : w.ownsRow base e size (.slice (some ⟨g, 0, none⟩) n c) n xs) (j : Nat) (u : Value) :
    (w.setCell ⟨g, j, none⟩ u).ownsRow base e size (.slice (some ⟨g, 0, none⟩) n c) n (xs.set j u) := by
  refine ⟨by rw [List.length_set]; exact h.1, ?_⟩
  rcases h.2 with ⟨hv, _⟩ | ⟨g', cap, cur, hv, hb, hg, hn, hm, hs, ht⟩
  · cases hv
  · cases hv
    refine .inr ⟨g, c, cur.setIfInBounds j u, rfl, hb, (show Blk w g e cur from hg).set_ j u, hn, hm, by rw [Array.size_setIfInBounds]; exact hs, ?_⟩
    rw [Array.toList_setIfInBounds, List.take_set, ht]
end
/-- the cells of an operation in a row -/
theorem own_dd {w : World} {base n c : Nat} {e : TypeId} {A : Option Addr} {ds : List Dd} (h : w.ownsRow base e 29 (.slice A n c) n (flatD ds)) {j : Nat} (hj : j < ds.length) :
    ∃ g, A = some ⟨g, 0, none⟩ ∧ base ≤ g ∧ g < w.heap.size ∧ ty w g = some e ∧ (∀ i, w.frozen? ⟨g, i, none⟩ = false) ∧ (∀ i, i < 29 → w.cell? ⟨g, j * 29 + i, none⟩ = (ddL ds[j])[i]?) := by
  have hne : flatD ds ≠ [] := fun e => by
    have := flatD_len ds
    rw [e] at this
    simp at this
    omega
  obtain ⟨g, h1, h2, h3, h4, h5, h6⟩ := own_blk h hne
  refine ⟨g, h1, h2, h3, h4, h5, fun i hi => ?_⟩
  have := flatD_get hj i hi
  rw [← this]
  have hl : i < (ddL ds[j]).length := by rw [ddL_length]; exact hi
  rw [List.getElem?_eq_getElem hl] at this
  rw [this]
  exact h6 _ _ this
theorem own_setd {w : World} {base n c g : Nat} {e : TypeId} {ds : List Dd} (h : w.ownsRow base e 29 (.slice (some ⟨g, 0, none⟩) n c) n (flatD ds)) {j i : Nat} (hj : j < ds.length) (hi : i < 29) (u : Value) (d' : Dd) (hd : ddL d' = (ddL ds[j]).set i u) :
    (w.setCell ⟨g, j * 29 + i, none⟩ u).ownsRow base e 29 (.slice (some ⟨g, 0, none⟩) n c) n (flatD (ds.set j d')) := by
  rw [← flatD_set hj i hi u d' hd]
  exact own_put h _ u
/-- a reply written -/
theorem own_tell {w : World} {base n c g : Nat} {e : TypeId} {ds : List Dd} (h : w.ownsRow base e 29 (.slice (some ⟨g, 0, none⟩) n c) n (flatD ds)) {j : Nat} (hj : j < ds.length) (t : Rp) :
    (((((w.setCell ⟨g, j * 29 + 24, none⟩ (.int .i64 t.e)).setCell ⟨g, j * 29 + 25, none⟩ (.bool t.asked)).setCell ⟨g, j * 29 + 26, none⟩ (.bool t.listed)).setCell ⟨g, j * 29 + 27, none⟩ (.int .i64 t.n)).setCell ⟨g, j * 29 + 28, none⟩ (.slice t.A t.ids.length t.cp)).ownsRow base e 29 (.slice (some ⟨g, 0, none⟩) n c) n (flatD (ds.set j { ds[j] with t := t })) := by
  have h1 := own_setd h hj (i := 24) (by omega) (.int .i64 t.e) { ds[j] with t := { ds[j].t with e := t.e } } rfl
  have h2 := own_setd h1 (j := j) (by rw [List.length_set]; exact hj) (i := 25) (by omega) (.bool t.asked) { ds[j] with t := { ds[j].t with e := t.e, asked := t.asked } } (by rw [List.getElem_set_self]; rfl)
  rw [List.set_set] at h2
  have h3 := own_setd h2 (j := j) (by rw [List.length_set]; exact hj) (i := 26) (by omega) (.bool t.listed) { ds[j] with t := { ds[j].t with e := t.e, asked := t.asked, listed := t.listed } } (by rw [List.getElem_set_self]; rfl)
  rw [List.set_set] at h3
  have h4 := own_setd h3 (j := j) (by rw [List.length_set]; exact hj) (i := 27) (by omega) (.int .i64 t.n) { ds[j] with t := { ds[j].t with e := t.e, asked := t.asked, listed := t.listed, n := t.n } } (by rw [List.getElem_set_self]; rfl)
  rw [List.set_set] at h4
  have h5 := own_setd h4 (j := j) (by rw [List.length_set]; exact hj) (i := 28) (by omega) (.slice t.A t.ids.length t.cp) { ds[j] with t := t } (by rw [List.getElem_set_self]; rfl)
  rw [List.set_set] at h5
  exact h5
end Go.Proofs.YtlimpepdelpogaaGreatDoor
/-! HwN -/
namespace Go.Proofs.YtlimpepdelpogaaGreatDoor
open Go.RowKit Go.Al
set_option linter.unusedVariables false
theorem own_cells {w : World} {base n c g : Nat} {e : TypeId} {ds : List Dd} (h : w.ownsRow base e 29 (.slice (some ⟨g, 0, none⟩) n c) n (flatD ds)) {j : Nat} (hj : j < ds.length) (i : Nat) (hi : i < 29) : w.cell? ⟨g, j * 29 + i, none⟩ = (ddL ds[j])[i]? := by
  obtain ⟨g', h1, _, _, _, _, h2⟩ := own_dd h hj
  cases h1
  exact h2 i hi
theorem own_there {w : World} {base n c g : Nat} {e : TypeId} {ds : List Dd} (h : w.ownsRow base e 29 (.slice (some ⟨g, 0, none⟩) n c) n (flatD ds)) {j : Nat} (hj : j < ds.length) : w.there g (j * 29 + 24) 5 := fun i hi => by
  obtain ⟨g', h1, _, _, _, h3, h2⟩ := own_dd h hj
  cases h1
  refine ⟨?_, h3 _⟩
  rw [Nat.add_assoc, h2 (24 + i) (by omega)]
  have hl : 24 + i < (ddL ds[j]).length := by rw [ddL_length]; omega
  rw [List.getElem?_eq_getElem hl]
  rfl
theorem own_tellC {w : World} {base n c g : Nat} {e : TypeId} {ds : List Dd} (h : w.ownsRow base e 29 (.slice (some ⟨g, 0, none⟩) n c) n (flatD ds)) {j : Nat} (hj : j < ds.length) (t : Rp) :
    (w.setCells g (j * 29 + 24) (rpL t)).ownsRow base e 29 (.slice (some ⟨g, 0, none⟩) n c) n (flatD (ds.set j { ds[j] with t := t })) := own_tell h hj t
theorem one_rpL (t : Rp) : ∀ u ∈ rpL t, u.oneCell' = true := by
  intro u hu
  simp only [rpL, List.mem_cons, List.not_mem_nil, or_false] at hu
  rcases hu with h | h | h | h | h <;> (subst h; rfl)
/-- an event's reply in a row of events -/
theorem evs_rep {w : World} {A : Option Addr} {l : List Ev} (h : Evs w A l) {i : Nat} (hi : i < l.length) : ∃ b o, A = some ⟨b, o, none⟩ ∧ b < w.heap.size ∧ w.rangeAt b (o + i * 27 + 22) (rpL l[i].t) ∧ RpAt w l[i].t := by
  obtain ⟨b, o, e, hb, hr, hp⟩ := h.at_ hi
  refine ⟨b, o, e, hb, fun j v hv => ?_, hp⟩
  have := hr (22 + j) v (by
    have e : evL l[i] = ([.int .i64 l[i].k, .int .i64 l[i].st, .int .i64 l[i].ss, .int .i64 l[i].op] ++ rqL l[i].r) ++ rpL l[i].t := rfl
    rw [e, List.getElem?_append_right (by rw [List.length_append, rqL_length]; simp), List.length_append, rqL_length]
    rw [show 22 + j - ([Value.int .i64 l[i].k, .int .i64 l[i].st, .int .i64 l[i].ss, .int .i64 l[i].op].length + 18) = j by simp]
    exact hv)
  rw [← Nat.add_assoc] at this
  exact this
end Go.Proofs.YtlimpepdelpogaaGreatDoor
