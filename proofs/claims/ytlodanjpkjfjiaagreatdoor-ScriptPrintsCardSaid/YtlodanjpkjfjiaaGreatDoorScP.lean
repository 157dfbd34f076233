/-
  Plain words: changes, queries, requests; their cells; which requests are good. Nothing of the program is walked here. No conditions.
  Plain laws: words joined by a blank come back by Split; a numeral comes back by Atoi. No program is named here. No conditions.
  Plain words: acts and their lines; what a line tells. The plain law: a good act comes back from its line. No program is walked here. No conditions.
-/
import Derived.Test.YtlodanjpkjfjiaaGreatDoorMp
import Derived.Test.YtlodanjpkjfjiaaGreatDoorChecked
import Derived.Lib.SplitLaws
import Derived.Lib.Join
import Derived.Lib.JoinLaws
import Derived.Lib.AtoiAll
import Derived.Lib.ItoaNum
/-! RqP -/
namespace Go.Proofs.YtlodanjpkjfjiaaGreatDoor
open Go.RowKit Go.Al
set_option linter.unusedVariables false

/-- a change: its kind, a point, an interval -/
structure Cg where
  k : Int
  p : P3
  s : P3
def cgV (c : Cg) : Value := .agg #[.int .i64 c.k, .int .i64 c.p.1, .int .i64 c.p.2.1, .int .i64 c.p.2.2, .int .i64 c.s.1, .int .i64 c.s.2.1, .int .i64 c.s.2.2]
/-- a query: its kind, a box, a window, two numbers -/
structure Qy where
  k : Int
  a : Int
  b : Int
  c : Int
  d : Int
  e : Int
  f : Int
  g : Int
  x : Int
  h : Int
/-- a request -/
structure Rq where
  k : Int
  c : Cg
  q : Qy
def qL (q : Qy) : List Value := [.int .i64 q.k, .int .i64 q.a, .int .i64 q.b, .int .i64 q.c, .int .i64 q.d, .int .i64 q.e, .int .i64 q.f, .int .i64 q.g, .int .i64 q.x, .int .i64 q.h]
def cgL (c : Cg) : List Value := [.int .i64 c.k, .int .i64 c.p.1, .int .i64 c.p.2.1, .int .i64 c.p.2.2, .int .i64 c.s.1, .int .i64 c.s.2.1, .int .i64 c.s.2.2]
def rqL (r : Rq) : List Value := .int .i64 r.k :: (cgL r.c ++ qL r.q)
def qV (q : Qy) : Value := .agg (qL q).toArray
def rqV (r : Rq) : Value := .agg (rqL r).toArray
theorem cgV_L (c : Cg) : cgV c = .agg (cgL c).toArray := rfl
theorem qL_length (q : Qy) : (qL q).length = 10 := rfl
theorem cgL_length (c : Cg) : (cgL c).length = 7 := rfl
theorem rqL_length (r : Rq) : (rqL r).length = 18 := rfl
def goodR (r : Rq) : Bool := (decide (r.k = 1) && (decide (1 ≤ r.c.k) && decide (r.c.k ≤ 4))) || (decide (r.k = 2) && (decide (1 ≤ r.q.k) && decide (r.q.k ≤ 7)))
end Go.Proofs.YtlodanjpkjfjiaaGreatDoor
/-! ScL -/
namespace Go.Al
set_option linter.unusedVariables false

/-- cut at a byte -/
def cutAt (c : UInt8) : List UInt8 → List (List UInt8)
  | [] => [[]]
  | b :: l => if b = c then [] :: cutAt c l else match cutAt c l with
    | w :: r => (b :: w) :: r
    | [] => [[b]]
theorem cutAt_ne (c : UInt8) : ∀ l, cutAt c l ≠ []
  | [] => by simp [cutAt]
  | b :: l => by
    unfold cutAt
    split
    · simp
    · split <;> simp
theorem index_byte_nil (c : UInt8) : Lib.index [] [c] = -1 := rfl
theorem index_byte_hit (c : UInt8) (l : List UInt8) : Lib.index (c :: l) [c] = 0 := by simp [Lib.index, List.isPrefixOf]
theorem index_byte_miss {b c : UInt8} (l : List UInt8) (h : ¬ b = c) : Lib.index (b :: l) [c] = if Lib.index l [c] == -1 then -1 else Lib.index l [c] + 1 := by
  have : ¬ c = b := fun e => h e.symm
  simp [Lib.index, List.isPrefixOf, this]
theorem index_byte_ge (c : UInt8) (l : List UInt8) : -1 ≤ Lib.index l [c] := Lib.index_ge l [c]
/-- a piece without the byte, and what comes behind it -/
theorem cutAt_app (c : UInt8) : ∀ (w : List UInt8) (l : List UInt8), c ∉ w → cutAt c (w ++ c :: l) = w :: cutAt c l
  | [], l, _ => by simp [cutAt]
  | b :: w, l, h => by
    have hb : ¬ b = c := fun e => h (by rw [e]; exact List.mem_cons_self)
    have := cutAt_app c w l fun hm => h (List.mem_cons_of_mem _ hm)
    rw [List.cons_append, cutAt, if_neg hb, this]
theorem cutAt_one (c : UInt8) : ∀ (w : List UInt8), c ∉ w → cutAt c w = [w]
  | [], _ => rfl
  | b :: w, h => by
    have hb : ¬ b = c := fun e => h (by rw [e]; exact List.mem_cons_self)
    have := cutAt_one c w fun hm => h (List.mem_cons_of_mem _ hm)
    rw [cutAt, if_neg hb, this]
theorem count_byte_cons (b c : UInt8) (l : List UInt8) : Lib.count (b :: l) [c] = (if b = c then 1 else 0) + Lib.count l [c] := by
  by_cases h : b = c
  · subst h
    rw [if_pos rfl]
    exact Lib.count_cons_eq b l
  · rw [if_neg h, Nat.zero_add]
    exact Lib.count_cons_ne b c l h
/-- the library's Split at one byte -/
theorem splitK_cut (c : UInt8) : ∀ (n : Nat) (l : List UInt8), l.length ≤ n → Lib.splitK [c] 0 (Lib.count l [c]) l = cutAt c l := by
  intro n
  induction n with
  | zero =>
    intro l hl
    obtain rfl : l = [] := List.length_eq_zero_iff.1 (by omega)
    rfl
  | succ n ih =>
    intro l hl
    match l with
    | [] => rfl
    | b :: l =>
      have hl' : l.length ≤ n := by simpa using hl
      have ih' := ih l hl'
      rw [count_byte_cons]
      by_cases hb : b = c
      · subst hb
        rw [if_pos rfl, Nat.add_comm, Lib.splitK, index_byte_hit]
        simp only [cutAt, if_true]
        simp
        exact ih'
      · rw [if_neg hb, Nat.zero_add]
        cases hc : Lib.count l [c] with
        | zero =>
          rw [hc] at ih'
          have h1 : cutAt c l = [l] := ih'.symm
          rw [Lib.splitK, cutAt, if_neg hb, h1]
        | succ k =>
          rw [hc] at ih'
          rw [Lib.splitK] at ih' ⊢
          rw [index_byte_miss l hb, cutAt, if_neg hb, ← ih']
          by_cases hi : Lib.index l [c] == -1
          · rw [if_pos hi, if_pos hi]
            simp
          · rw [if_neg hi, if_neg hi]
            have hge := index_byte_ge c l
            have hne : ¬ Lib.index l [c] = -1 := by simpa using hi
            obtain ⟨i, hi2⟩ : ∃ i : Nat, Lib.index l [c] = i := ⟨(Lib.index l [c]).toNat, by omega⟩
            rw [hi2]
            have h2 : ¬ ((i : Int) + 1 == -1) = true := by simp; omega
            rw [if_neg h2]
            have h3 : ((i : Int) + 1).toNat = i + 1 := by omega
            rw [h3]
            simp [List.take_succ_cons]
theorem split_cut (c : UInt8) (l : List UInt8) : Lib.split l [c] = cutAt c l := splitK_cut c l.length l (Nat.le_refl _)
theorem cutAt_join (c : UInt8) : ∀ (ws : List (List UInt8)), ws ≠ [] → (∀ w ∈ ws, c ∉ w) → cutAt c (Lib.join ws [c]) = ws
  | [w], _, h => by rw [Lib.join_one]; exact cutAt_one c w (h w List.mem_cons_self)
  | w :: x :: r, _, h => by
    have ih := cutAt_join c (x :: r) (by simp) fun y hy => h y (List.mem_cons_of_mem _ hy)
    have e : Lib.join (w :: x :: r) [c] = w ++ c :: Lib.join (x :: r) [c] := by
      rw [Lib.join_cons, Lib.join_cons]
      simp [Lib.joinTail]
    rw [e, cutAt_app c w _ (h w List.mem_cons_self), ih]
/-- words come back -/
theorem split_join (c : UInt8) (ws : List (List UInt8)) (hne : ws ≠ []) (h : ∀ w ∈ ws, c ∉ w) : Lib.split (Lib.join ws [c]) [c] = ws := by
  rw [split_cut]
  exact cutAt_join c ws hne h

/-! numerals -/
theorem parse_app : ∀ (l : List UInt8) (acc : Nat) (d : Nat), d < 10 → ∀ u, Lib.parseUint10 acc l = .ok u → u * 10 + d < 18446744073709551616 → Lib.parseUint10 acc (l ++ [UInt8.ofNat (48 + d)]) = .ok (u * 10 + d)
  | [], acc, d, hd, u, h, hu => by
    simp only [Lib.parseUint10] at h
    injection h with h
    subst h
    have e : (UInt8.ofNat (48 + d)).toNat = 48 + d := by simp; omega
    simp only [List.nil_append, Lib.parseUint10, e]
    rw [if_pos (by omega), if_neg (by omega), if_neg (by omega)]
    congr 1
    omega
  | c :: r, acc, d, hd, u, h, hu => by
    rw [List.cons_append, Lib.parseUint10]
    rw [Lib.parseUint10] at h
    split at h
    · rename_i h1
      rw [if_pos h1]
      split at h
      · cases h
      · rename_i h2
        rw [if_neg h2]
        split at h
        · cases h
        · rename_i h3
          rw [if_neg h3]
          exact parse_app r _ d hd u h hu
    · cases h
theorem parse_dec : ∀ (n u : Nat), u ≤ n → u < 18446744073709551616 → Lib.parseUint10 0 (Lib.decDigits u) = .ok u := by
  intro n
  induction n with
  | zero =>
    intro u hu _
    obtain rfl : u = 0 := by omega
    rw [Lib.decDigits_one (by decide)]
    rfl
  | succ n ih =>
    intro u hu h64
    by_cases h : u < 10
    · rw [Lib.decDigits_one h]
      have := parse_app [] 0 u h 0 rfl (by omega)
      simpa using this
    · rw [Lib.decDigits, dif_neg h]
      have h1 := ih (u / 10) (by omega) (by omega)
      have := parse_app (Lib.decDigits (u / 10)) 0 (u % 10) (Nat.mod_lt _ (by decide)) (u / 10) h1 (by omega)
      rw [this]
      congr 1
      omega
theorem dec_digits (u : Nat) : ∀ b ∈ Lib.decDigits u, 48 ≤ b.toNat ∧ b.toNat ≤ 57 := by
  induction u using Nat.strongRecOn with
  | _ u ih =>
    intro b hb
    by_cases h : u < 10
    · rw [Lib.decDigits_one h] at hb
      simp at hb
      subst hb
      simp
      omega
    · rw [Lib.decDigits, dif_neg h, List.mem_append] at hb
      rcases hb with hb | hb
      · exact ih _ (by omega) b hb
      · simp at hb
        subst hb
        have := Nat.mod_lt u (show 0 < 10 by decide)
        simp
        omega
theorem dec_ne (u : Nat) : Lib.decDigits u ≠ [] := by
  by_cases h : u < 10
  · rw [Lib.decDigits_one h]; simp
  · rw [Lib.decDigits, dif_neg h]; simp
theorem atoi_itoa (n : Int) (h0 : -9223372036854775808 ≤ n) (h1 : n ≤ 9223372036854775807) : Lib.atoiAll (Lib.itoa n) = .ok n := by
  unfold Lib.itoa
  by_cases hn : n < 0
  · rw [if_pos hn]
    have hp := parse_dec n.natAbs n.natAbs (Nat.le_refl _) (by omega)
    have hm : Lib.parseMag (Lib.decDigits n.natAbs) = .ok n.natAbs := by unfold Lib.parseMag; rw [if_neg (dec_ne _)]; exact hp
    simp only [Lib.atoiAll]
    rw [if_pos (.inr (by decide)), hm]
    show (if ¬ (45 : UInt8).toNat = 45 ∧ _ then _ else if (45 : UInt8).toNat = 45 ∧ _ then _ else Lib.NumEnd.ok (if (45 : UInt8).toNat = 45 then _ else _)) = _
    rw [if_neg (fun h => h.1 (by decide)), if_neg (fun h => by have := h.2; omega), if_pos (by decide)]
    congr 1
    omega
  · rw [if_neg hn]
    have hp := parse_dec n.toNat n.toNat (Nat.le_refl _) (by omega)
    have hm : Lib.parseMag (Lib.decDigits n.toNat) = .ok n.toNat := by unfold Lib.parseMag; rw [if_neg (dec_ne _)]; exact hp
    obtain ⟨c, r, e⟩ := List.exists_cons_of_ne_nil (dec_ne n.toNat)
    have hc := dec_digits n.toNat c (by rw [e]; exact List.mem_cons_self)
    rw [e] at hm ⊢
    simp only [Lib.atoiAll]
    rw [if_neg (by omega), hm]
    have h2 : ¬ c.toNat = 45 := by omega
    show (if ¬ c.toNat = 45 ∧ _ then _ else if c.toNat = 45 ∧ _ then _ else Lib.NumEnd.ok (if c.toNat = 45 then _ else _)) = _
    rw [if_neg (fun h => by have := h.2; omega), if_neg (fun h => h2 h.1), if_neg h2]
    congr 1
    omega
theorem itoa_byte (n : Int) : ∀ b ∈ Lib.itoa n, b.toNat = 45 ∨ (48 ≤ b.toNat ∧ b.toNat ≤ 57) := by
  intro b hb
  unfold Lib.itoa at hb
  split at hb
  · rw [List.mem_cons] at hb
    rcases hb with rfl | hb
    · exact .inl rfl
    · exact .inr (dec_digits _ b hb)
  · exact .inr (dec_digits _ b hb)
theorem itoa_no (n : Int) (c : UInt8) (hc : c.toNat < 45) : c ∉ Lib.itoa n := fun h => by
  have := itoa_byte n c h
  omega
end Go.Al
/-! ScP -/
namespace Go.Proofs.YtlodanjpkjfjiaaGreatDoor
open Go.RowKit Go.Al
set_option linter.unusedVariables false

/-- an act: its kind, who, how often, a request, bytes -/
structure Ac where
  k : Int
  id : Int
  n : Int
  r : Rq
  b : List UInt8
def z3' : P3 := (0, 0, 0)
def cg0 : Cg := ⟨0, z3', z3'⟩
def qy0 : Qy := ⟨0, 0, 0, 0, 0, 0, 0, 0, 0, 0⟩
def rqz : Rq := ⟨0, cg0, qy0⟩
def ac0 : Ac := ⟨0, 0, 0, rqz, []⟩
/-- a request's numbers, in order -/
def numsR (r : Rq) : List Int :=
  if r.k = 1 then (if r.c.k = 1 then [r.c.p.1, r.c.p.2.1, r.c.p.2.2] else if r.c.k = 2 then [r.c.p.1] else if r.c.k = 3 then [r.c.s.1, r.c.s.2.1, r.c.s.2.2] else [r.c.s.1])
  else if r.q.k ≤ 2 then [r.q.a, r.q.b, r.q.c, r.q.d] else if r.q.k ≤ 4 then [r.q.e, r.q.f, r.q.g] else if r.q.k = 5 then [r.q.x] else [r.q.x, r.q.h]
/-- a request of kind k (1 to 11) with these numbers, if they are as many -/
def ofNums (k : Int) (l : List Int) : Option Rq :=
  match l with
  | [x] => if k = 2 then some ⟨1, ⟨2, (x, 0, 0), z3'⟩, qy0⟩ else if k = 4 then some ⟨1, ⟨4, z3', (x, 0, 0)⟩, qy0⟩ else if k = 9 then some ⟨2, cg0, ⟨5, 0, 0, 0, 0, 0, 0, 0, x, 0⟩⟩ else none
  | [x, y] => if k = 10 then some ⟨2, cg0, ⟨6, 0, 0, 0, 0, 0, 0, 0, x, y⟩⟩ else if k = 11 then some ⟨2, cg0, ⟨7, 0, 0, 0, 0, 0, 0, 0, x, y⟩⟩ else none
  | [x, y, z] => if k = 1 then some ⟨1, ⟨1, (x, y, z), z3'⟩, qy0⟩ else if k = 3 then some ⟨1, ⟨3, z3', (x, y, z)⟩, qy0⟩ else if k = 7 then some ⟨2, cg0, ⟨3, 0, 0, 0, 0, x, y, z, 0, 0⟩⟩ else if k = 8 then some ⟨2, cg0, ⟨4, 0, 0, 0, 0, x, y, z, 0, 0⟩⟩ else none
  | [x, y, z, u] => if k = 5 then some ⟨2, cg0, ⟨1, x, y, z, u, 0, 0, 0, 0, 0⟩⟩ else if k = 6 then some ⟨2, cg0, ⟨2, x, y, z, u, 0, 0, 0, 0, 0⟩⟩ else none
  | _ => none
/-- which of the eleven words a request has -/
def kindR (r : Rq) : Int := if r.k = 1 then r.c.k else 4 + r.q.k
/-- a request with what plays a part -/
def onlyR (r : Rq) : Rq :=
  if r.k = 1 then (if r.c.k = 1 then ⟨1, ⟨1, r.c.p, z3'⟩, qy0⟩ else if r.c.k = 2 then ⟨1, ⟨2, (r.c.p.1, 0, 0), z3'⟩, qy0⟩ else if r.c.k = 3 then ⟨1, ⟨3, z3', r.c.s⟩, qy0⟩ else ⟨1, ⟨r.c.k, z3', (r.c.s.1, 0, 0)⟩, qy0⟩)
  else if r.q.k ≤ 2 then ⟨r.k, cg0, ⟨r.q.k, r.q.a, r.q.b, r.q.c, r.q.d, 0, 0, 0, 0, 0⟩⟩ else if r.q.k ≤ 4 then ⟨r.k, cg0, ⟨r.q.k, 0, 0, 0, 0, r.q.e, r.q.f, r.q.g, 0, 0⟩⟩ else if r.q.k = 5 then ⟨r.k, cg0, ⟨5, 0, 0, 0, 0, 0, 0, 0, r.q.x, 0⟩⟩ else ⟨r.k, cg0, ⟨r.q.k, 0, 0, 0, 0, 0, 0, 0, r.q.x, r.q.h⟩⟩
theorem good_cases {r : Rq} (h : goodR r = true) : (r.k = 1 ∧ (r.c.k = 1 ∨ r.c.k = 2 ∨ r.c.k = 3 ∨ r.c.k = 4)) ∨ (r.k = 2 ∧ (r.q.k = 1 ∨ r.q.k = 2 ∨ r.q.k = 3 ∨ r.q.k = 4 ∨ r.q.k = 5 ∨ r.q.k = 6 ∨ r.q.k = 7)) := by
  unfold goodR at h
  simp at h
  omega
theorem ofNums_numsR {r : Rq} (h : goodR r = true) : ofNums (kindR r) (numsR r) = some (onlyR r) := by
  obtain ⟨k, ⟨ck, ⟨p1, p2, p3⟩, ⟨s1, s2, s3⟩⟩, ⟨qk, a, b, c, d, e, f, g, x, y⟩⟩ := r
  have := good_cases h
  simp only at this
  rcases this with ⟨rfl, rfl | rfl | rfl | rfl⟩ | ⟨rfl, rfl | rfl | rfl | rfl | rfl | rfl | rfl⟩ <;> rfl
theorem ofNums_good {k : Int} {l : List Int} {r : Rq} (h : ofNums k l = some r) : goodR r = true ∧ onlyR r = r ∧ kindR r = k ∧ numsR r = l := by
  unfold ofNums at h
  split at h
  all_goals (try (cases h; done))
  all_goals repeat' split at h
  all_goals first
    | (cases h; done)
    | (rename_i hk; subst hk; obtain rfl := (Option.some.inj h).symm; exact ⟨rfl, rfl, rfl, rfl⟩)
theorem onlyR_good {r : Rq} (h : goodR r = true) : goodR (onlyR r) = true ∧ kindR (onlyR r) = kindR r ∧ numsR (onlyR r) = numsR r ∧ onlyR (onlyR r) = onlyR r := by
  have := ofNums_good (ofNums_numsR h)
  exact ⟨this.1, this.2.2.1, this.2.2.2, this.2.1⟩
theorem kindR_good {r : Rq} (h : goodR r = true) : 1 ≤ kindR r ∧ kindR r ≤ 11 := by
  have := good_cases h
  unfold kindR
  split <;> omega

/-- the words of acts, of requests -/
def wordsA : List (List UInt8) := [[119, 97, 110, 116], [115, 116, 101, 112], [97, 98, 111, 114, 116], [99, 108, 101, 97, 110], [115, 101, 110, 100]]
def wordsR : List (List UInt8) := [[97, 100, 100, 45, 112, 111, 105, 110, 116], [100, 114, 111, 112, 45, 112, 111, 105, 110, 116], [97, 100, 100, 45, 115, 112, 97, 110], [100, 114, 111, 112, 45, 115, 112, 97, 110], [98, 111, 120], [99, 111, 117, 110, 116], [119, 105, 110], [119, 105, 110, 45, 99, 111, 117, 110, 116], [115, 116, 97, 98], [111, 118, 101, 114, 108, 97, 112], [111, 118, 101, 114, 108, 97, 112, 45, 99, 111, 117, 110, 116]]
def wordAt (ws : List (List UInt8)) (k : Int) : List UInt8 := (ws[(k - 1).toNat]?).getD []
/-- from 1 on; 0: it is none -/
def placeOf (ws : List (List UInt8)) (w : List UInt8) : Int := if w ∈ ws then (ws.idxOf w : Nat) + 1 else 0
def hexD (n : Nat) : UInt8 := ([48, 49, 50, 51, 52, 53, 54, 55, 56, 57, 97, 98, 99, 100, 101, 102] : List UInt8)[n]?.getD 0
def hexB (b : List UInt8) : List UInt8 := if b = [] then [45] else b.flatMap fun x => [hexD (x.toNat / 16), hexD (x.toNat % 16)]
def goodA (a : Ac) : Bool := if a.k = 1 then goodR a.r else if a.k = 2 ∨ a.k = 4 then decide (1 ≤ a.n) && decide (a.n ≤ 10000) else if a.k = 3 then true else decide (a.k = 5) && decide (a.b.length ≤ 1000)
def onlyA (a : Ac) : Ac := ⟨a.k, if a.k = 4 then 0 else a.id, if a.k = 2 ∨ a.k = 4 then a.n else 0, if a.k = 1 then onlyR a.r else rqz, if a.k = 5 then a.b else []⟩
def showW (a : Ac) : List (List UInt8) :=
  wordAt wordsA a.k :: ((if a.k = 4 then [] else [Lib.itoa a.id]) ++ (if a.k = 1 then wordAt wordsR (kindR a.r) :: (numsR a.r).map Lib.itoa else if a.k = 2 ∨ a.k = 4 then [Lib.itoa a.n] else if a.k = 5 then [hexB a.b] else []))
def showB (a : Ac) : List UInt8 := Lib.join (showW a) [32]
theorem goodA_cases {a : Ac} (h : goodA a = true) : a.k = 1 ∧ goodR a.r = true ∨ (a.k = 2 ∧ 1 ≤ a.n ∧ a.n ≤ 10000) ∨ a.k = 3 ∨ (a.k = 4 ∧ 1 ≤ a.n ∧ a.n ≤ 10000) ∨ (a.k = 5 ∧ a.b.length ≤ 1000) := by
  unfold goodA at h
  split at h
  · exact .inl ⟨‹_›, h⟩
  · split at h
    · rename_i h1
      simp at h
      omega
    · split at h
      · exact .inr (.inr (.inl ‹_›))
      · simp at h
        exact .inr (.inr (.inr (.inr h)))

/-! reading -/
def popW : List (List UInt8) → Except Int (List UInt8 × List (List UInt8))
  | [] => .error 1
  | w :: l => .ok (w, l)
def intW (w : List UInt8) : Except Int Int := match Lib.atoiAll w with | .ok v => .ok v | _ => .error 8
def popI : List (List UInt8) → Except Int (Int × List (List UInt8))
  | [] => .error 1
  | w :: l => match intW w with | .ok v => .ok (v, l) | .error c => .error c
def intsW : List (List UInt8) → Except Int (List Int)
  | [] => .ok []
  | w :: l => match intW w with | .ok v => (match intsW l with | .ok vs => .ok (v :: vs) | .error c => .error c) | .error c => .error c
/-- a digit's value; below 0: none -/
def hexV (c : UInt8) : Int := Lib.indexByte [48, 49, 50, 51, 52, 53, 54, 55, 56, 57, 97, 98, 99, 100, 101, 102] c
def reqW (l : List (List UInt8)) : Except Int Rq := match popW l with
  | .ok (w, l) => (match intsW l with | .ok vs => (match ofNums (placeOf wordsR w) vs with | some r => .ok r | none => .error 8) | .error c => .error c)
  | .error c => .error c
theorem placeOf_wordAt {ws : List (List UInt8)} (hn : ws.Nodup) {k : Int} (h1 : 1 ≤ k) (h2 : k ≤ ws.length) : placeOf ws (wordAt ws k) = k := by
  have hlt : (k - 1).toNat < ws.length := by omega
  have e : wordAt ws k = ws[(k - 1).toNat] := by unfold wordAt; rw [List.getElem?_eq_getElem hlt]; rfl
  rw [e]
  unfold placeOf
  rw [if_pos (List.getElem_mem hlt), List.Nodup.idxOf_getElem hn]
  omega
theorem nodupA : wordsA.Nodup := by decide
theorem nodupR : wordsR.Nodup := by decide
theorem intW_itoa {n : Int} (h : -9223372036854775808 ≤ n ∧ n ≤ 9223372036854775807) : intW (Lib.itoa n) = .ok n := by
  unfold intW
  rw [atoi_itoa n h.1 h.2]
theorem intsW_itoa : ∀ {l : List Int}, (∀ n ∈ l, -9223372036854775808 ≤ n ∧ n ≤ 9223372036854775807) → intsW (l.map Lib.itoa) = .ok l
  | [], _ => rfl
  | n :: l, h => by
    have h1 := intW_itoa (h n List.mem_cons_self)
    have h2 := intsW_itoa (l := l) fun m hm => h m (List.mem_cons_of_mem _ hm)
    simp only [List.map_cons, intsW, h1, h2]
def inI' (n : Int) : Prop := -9223372036854775808 ≤ n ∧ n ≤ 9223372036854775807
structure WfR (r : Rq) : Prop where
  all : ∀ n ∈ [r.c.p.1, r.c.p.2.1, r.c.p.2.2, r.c.s.1, r.c.s.2.1, r.c.s.2.2, r.q.a, r.q.b, r.q.c, r.q.d, r.q.e, r.q.f, r.q.g, r.q.x, r.q.h], inI' n
theorem WfR.nums {r : Rq} (h : WfR r) : ∀ n ∈ numsR r, -9223372036854775808 ≤ n ∧ n ≤ 9223372036854775807 := by
  intro n hn
  refine h.all n ?_
  unfold numsR at hn
  repeat' split at hn
  all_goals (simp at hn ⊢; rcases hn with h | h | h | h <;> simp [h]) <;> skip
  all_goals (simp at hn ⊢; try (rcases hn with h | h | h <;> simp [h]))
  all_goals (try (rcases hn with h | h <;> simp [h]))
  all_goals (try simp [hn])
theorem reqW_words {r : Rq} (h : goodR r = true) (hw : WfR r) : reqW (wordAt wordsR (kindR r) :: (numsR r).map Lib.itoa) = .ok (onlyR r) := by
  have hk := kindR_good h
  unfold reqW popW
  simp only [intsW_itoa hw.nums, placeOf_wordAt nodupR hk.1 (by exact hk.2), ofNums_numsR h]
/-! bytes as digits; 'one': what two digits are taken for -/
def pairsW (one : UInt8 → UInt8 → UInt8) : List UInt8 → List UInt8
  | c :: d :: l => one c d :: pairsW one l
  | _ => []
def bytesW (one : UInt8 → UInt8 → UInt8) (w : List UInt8) : List UInt8 := if w = [45] then [] else pairsW one w
def Ones (one : UInt8 → UInt8 → UInt8) : Prop := ∀ x : UInt8, one (hexD (x.toNat / 16)) (hexD (x.toNat % 16)) = x
theorem pairs_hex {one : UInt8 → UInt8 → UInt8} (h : Ones one) : ∀ b : List UInt8, pairsW one (b.flatMap fun x => [hexD (x.toNat / 16), hexD (x.toNat % 16)]) = b
  | [] => rfl
  | x :: b => by
    rw [List.flatMap_cons]
    simp only [List.cons_append, List.nil_append, pairsW]
    rw [h x, pairs_hex h b]
theorem bytes_hex {one : UInt8 → UInt8 → UInt8} (h : Ones one) (b : List UInt8) : bytesW one (hexB b) = b := by
  unfold bytesW hexB
  cases b with
  | nil => rfl
  | cons x b =>
    rw [if_neg (List.cons_ne_nil x b), if_neg, pairs_hex h]
    rw [List.flatMap_cons]
    simp
/-- what an act's words tell -/
def actW (one : UInt8 → UInt8 → UInt8) (ws : List (List UInt8)) : Except Int Ac := match popW ws with
  | .error c => .error c
  | .ok (w, l) => match (if placeOf wordsA w = 4 then .ok (0, l) else popI l : Except Int (Int × List (List UInt8))) with
    | .error c => .error c
    | .ok (id, l) =>
      if placeOf wordsA w = 1 then (match reqW l with | .ok r => .ok ⟨1, id, 0, r, []⟩ | .error c => .error c)
      else if placeOf wordsA w = 2 ∨ placeOf wordsA w = 4 then (match popI l with | .ok (n, _) => .ok ⟨placeOf wordsA w, id, n, rqz, []⟩ | .error c => .error c)
      else if placeOf wordsA w = 5 then (match popW l with | .ok (x, _) => .ok ⟨5, id, 0, rqz, bytesW one x⟩ | .error c => .error c)
      else .ok ⟨placeOf wordsA w, id, 0, rqz, []⟩
theorem reqW_only {l : List (List UInt8)} {r : Rq} (h : reqW l = .ok r) : onlyR r = r := by
  unfold reqW at h
  split at h
  · split at h
    · split at h
      · rename_i h1
        cases h
        exact (ofNums_good h1).2.1
      · cases h
    · cases h
  · cases h
theorem actW_only {one : UInt8 → UInt8 → UInt8} {ws : List (List UInt8)} {a : Ac} (h : actW one ws = .ok a) : onlyA a = a := by
  unfold actW at h
  split at h
  · cases h
  · rename_i w l hp
    generalize placeOf wordsA w = k at h
    by_cases h4 : k = 4
    · subst h4
      simp at h
      split at h
      · rename_i n l2 hn
        cases h
        simp [onlyA]
      · cases h
    · rw [if_neg h4] at h
      split at h
      · cases h
      · split at h
        · rename_i h1
          split at h
          · rename_i r hr
            cases h
            simp [onlyA, reqW_only hr]
          · cases h
        · split at h
          · rename_i h1 h2
            split at h
            · cases h
              have : k = 2 := by omega
              subst this
              simp [onlyA]
            · cases h
          · split at h
            · split at h
              · cases h
                simp [onlyA]
              · cases h
            · rename_i h1 h2 h5
              cases h
              simp [onlyA, h1, h4, h5]
structure WfA (a : Ac) : Prop where
  id : inI' a.id
  n : inI' a.n
  r : WfR a.r
theorem actW_show {one : UInt8 → UInt8 → UInt8} (ho : Ones one) {a : Ac} (h : goodA a = true) (hw : WfA a) : actW one (showW a) = .ok (onlyA a) := by
  have hid := intW_itoa (n := a.id) hw.id
  have hn := intW_itoa (n := a.n) hw.n
  obtain ⟨k, id, n, r, b⟩ := a
  rcases goodA_cases h with ⟨hk, hr⟩ | ⟨hk, _⟩ | hk | ⟨hk, _⟩ | ⟨hk, _⟩
  · simp only at hk hr hid
    subst hk
    have hp : placeOf wordsA (wordAt wordsA 1) = 1 := by decide
    have hq := reqW_words hr hw.r
    simp [actW, showW, onlyA, popW, popI, hp, hid, hq]
  · simp only at hk hid hn
    subst hk
    have hp : placeOf wordsA (wordAt wordsA 2) = 2 := by decide
    simp [actW, showW, onlyA, popW, popI, hp, hid, hn]
  · simp only at hk hid
    subst hk
    have hp : placeOf wordsA (wordAt wordsA 3) = 3 := by decide
    simp [actW, showW, onlyA, popW, popI, hp, hid]
  · simp only at hk hn
    subst hk
    have hp : placeOf wordsA (wordAt wordsA 4) = 4 := by decide
    simp [actW, showW, onlyA, popW, popI, hp, hn]
  · simp only at hk hid
    subst hk
    have hp : placeOf wordsA (wordAt wordsA 5) = 5 := by decide
    simp [actW, showW, onlyA, popW, popI, hp, hid, bytes_hex ho]
theorem no32A : ∀ k : Int, (32 : UInt8) ∉ wordAt wordsA k := by
  intro k h
  unfold wordAt at h
  cases hw : wordsA[(k - 1).toNat]? with
  | none => rw [hw] at h; simp at h
  | some w =>
    rw [hw] at h
    have hm := List.mem_of_getElem? hw
    have : ∀ w ∈ wordsA, (32 : UInt8) ∉ w := by decide
    exact this w hm h
theorem no32R : ∀ k : Int, (32 : UInt8) ∉ wordAt wordsR k := by
  intro k h
  unfold wordAt at h
  cases hw : wordsR[(k - 1).toNat]? with
  | none => rw [hw] at h; simp at h
  | some w =>
    rw [hw] at h
    have hm := List.mem_of_getElem? hw
    have : ∀ w ∈ wordsR, (32 : UInt8) ∉ w := by decide
    exact this w hm h
theorem hexD_ne (n : Nat) : hexD n ≠ 32 := by
  unfold hexD
  cases hw : ([48, 49, 50, 51, 52, 53, 54, 55, 56, 57, 97, 98, 99, 100, 101, 102] : List UInt8)[n]? with
  | none => decide
  | some x =>
    have hm := List.mem_of_getElem? hw
    have : ∀ x ∈ ([48, 49, 50, 51, 52, 53, 54, 55, 56, 57, 97, 98, 99, 100, 101, 102] : List UInt8), x ≠ 32 := by decide
    exact this x hm
theorem no32H (b : List UInt8) : (32 : UInt8) ∉ hexB b := by
  unfold hexB
  split
  · decide
  · intro h
    obtain ⟨x, _, hx⟩ := List.mem_flatMap.1 h
    simp at hx
    rcases hx with hx | hx
    · exact hexD_ne _ hx.symm
    · exact hexD_ne _ hx.symm
theorem showW_no (a : Ac) : ∀ w ∈ showW a, (32 : UInt8) ∉ w := by
  intro w hw
  have hi : ∀ n : Int, (32 : UInt8) ∉ Lib.itoa n := fun n => itoa_no n 32 (by decide)
  unfold showW at hw
  rw [List.mem_cons, List.mem_append] at hw
  rcases hw with rfl | hw | hw
  · exact no32A _
  · split at hw
    · cases hw
    · simp at hw; subst hw; exact hi _
  · split at hw
    · rw [List.mem_cons] at hw
      rcases hw with rfl | hw
      · exact no32R _
      · obtain ⟨n, _, rfl⟩ := List.mem_map.1 hw
        exact hi n
    · split at hw
      · simp at hw; subst hw; exact hi _
      · split at hw
        · simp at hw; subst hw; exact no32H _
        · cases hw
theorem split_show (a : Ac) : Lib.split (showB a) [32] = showW a := split_join 32 _ (by unfold showW; simp) (showW_no a)
/-- what a line tells: an act, or none -/
def parseB (one : UInt8 → UInt8 → UInt8) (s : List UInt8) : Option Ac := match actW one (Lib.split s [32]) with
  | .ok a => if goodA a && decide (showB a = s) then some a else none
  | .error _ => none
theorem only_show {a : Ac} (h : goodA a = true) : goodA (onlyA a) = true ∧ showB (onlyA a) = showB a ∧ onlyA (onlyA a) = onlyA a := by
  obtain ⟨k, id, n, r, b⟩ := a
  rcases goodA_cases h with ⟨hk, hr⟩ | ⟨hk, h1, h2⟩ | hk | ⟨hk, h1, h2⟩ | ⟨hk, h1⟩
  · simp only at hk hr
    subst hk
    obtain ⟨g1, g2, g3, g4⟩ := onlyR_good hr
    refine ⟨?_, ?_, ?_⟩
    · simpa [goodA, onlyA] using g1
    · unfold showB; simp [showW, onlyA, g2, g3]
    · simp [onlyA, g4]
  · simp only at hk h1 h2
    subst hk
    exact ⟨by simp [goodA, onlyA, h1, h2], by unfold showB; simp [showW, onlyA], by simp [onlyA]⟩
  · simp only at hk
    subst hk
    exact ⟨by simp [goodA, onlyA], by unfold showB; simp [showW, onlyA], by simp [onlyA]⟩
  · simp only at hk h1 h2
    subst hk
    exact ⟨by simp [goodA, onlyA, h1, h2], by unfold showB; simp [showW, onlyA], by simp [onlyA]⟩
  · simp only at hk h1
    subst hk
    exact ⟨by simp [goodA, onlyA, h1], by unfold showB; simp [showW, onlyA], by simp [onlyA]⟩
theorem parse_show {one : UInt8 → UInt8 → UInt8} (ho : Ones one) {a : Ac} (h : goodA a = true) (hw : WfA a) : parseB one (showB a) = some (onlyA a) := by
  obtain ⟨g1, g2, _⟩ := only_show h
  unfold parseB
  rw [split_show, actW_show ho h hw]
  simp [g1, g2]
theorem parse_some {one : UInt8 → UInt8 → UInt8} {s : List UInt8} {a : Ac} (h : parseB one s = some a) : goodA a = true ∧ onlyA a = a ∧ showB a = s := by
  unfold parseB at h
  split at h
  · rename_i x hx
    split at h
    · rename_i hc
      cases h
      simp at hc
      exact ⟨hc.1, actW_only hx, hc.2⟩
    · cases h
  · cases h
/-- no line but its own: what is told of none -/
theorem parse_none {one : UInt8 → UInt8 → UInt8} (ho : Ones one) {s : List UInt8} (h : parseB one s = none) (a : Ac) (hw : WfA a) : goodA a = false ∨ showB a ≠ s := by
  cases hg : goodA a
  · exact .inl rfl
  · refine .inr fun e => ?_
    rw [← e, parse_show ho hg hw] at h
    cases h
end Go.Proofs.YtlodanjpkjfjiaaGreatDoor
