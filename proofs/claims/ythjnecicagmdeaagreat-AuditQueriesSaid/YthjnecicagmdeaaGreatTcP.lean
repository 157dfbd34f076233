/-
  Plain words on rising lists of triples: where one stands, where one is laid, and slices of triples. No program is named here. No conditions.
-/
import Derived.Test.YthjnecicagmdeaaGreatMp
namespace Go.Al
open Go.RowKit
set_option linter.unusedVariables false

/-- where the one of key k stands; the length, if there is none -/
def pos3 : List P3 → Int → Nat
  | [], _ => 0
  | x :: r, k => if x.1 = k then 0 else pos3 r k + 1
/-- how many at the beginning are below k -/
def low3 (k : Int) : List P3 → Nat
  | [] => 0
  | x :: r => if x.1 < k then low3 k r + 1 else 0
def at3 (l : List P3) (k : Int) : Int := if hasK l k then (pos3 l k : Nat) else -1
theorem hasK_cons (x : P3) (r : List P3) (k : Int) : hasK (x :: r) k = (x.1 == k || hasK r k) := rfl
theorem pos3_lt {k : Int} : ∀ {l : List P3}, hasK l k = true → pos3 l k < l.length
  | [], h => by simp [hasK] at h
  | x :: r, h => by
    rw [pos3]
    by_cases hx : x.1 = k
    · rw [if_pos hx]; simp
    · rw [if_neg hx]
      rw [hasK_cons] at h
      have : hasK r k = true := by simpa [hx] using h
      have := pos3_lt this
      simp; omega
theorem pos3_get {k : Int} : ∀ {l : List P3} (h : hasK l k = true), (l[pos3 l k]'(pos3_lt h)).1 = k
  | [], h => by simp [hasK] at h
  | x :: r, h => by
    by_cases hx : x.1 = k
    · simp [pos3, hx]
    · have h2 : hasK r k = true := by rw [hasK_cons] at h; simpa [hx] using h
      have := pos3_get h2
      simp [pos3, hx, this]
theorem find3_pos {k : Int} : ∀ {l : List P3} (h : hasK l k = true), find3 l k = some (l[pos3 l k]'(pos3_lt h))
  | [], h => by simp [hasK] at h
  | x :: r, h => by
    by_cases hx : x.1 = k
    · simp [find3, pos3, hx]
    · have h2 : hasK r k = true := by rw [hasK_cons] at h; simpa [hx] using h
      have := find3_pos h2
      simp only [find3] at this
      simp [find3, pos3, hx, this]
theorem pos3_found {l : List P3} {k : Int} : ∀ {i : Nat} (hi : i < l.length), l[i].1 = k → (∀ j (hj : j < i), ¬ (l[j]'(Nat.lt_trans hj hi)).1 = k) → hasK l k = true ∧ pos3 l k = i := by
  induction l with
  | nil => intro i hi; simp at hi
  | cons x r ih =>
    intro i hi h hn
    cases i with
    | zero =>
      have hx : x.1 = k := h
      exact ⟨by simp [hasK_cons, hx], by simp [pos3, hx]⟩
    | succ i =>
      have hx : ¬ x.1 = k := hn 0 (Nat.succ_pos _)
      obtain ⟨h1, h2⟩ := ih (i := i) (by simpa using hi) (by simpa using h) (fun j hj => by simpa using hn (j + 1) (by omega))
      exact ⟨by simp [hasK_cons, h1], by simp [pos3, hx, h2]⟩
theorem hasK_none {l : List P3} {k : Int} (h : ∀ j (hj : j < l.length), ¬ l[j].1 = k) : hasK l k = false := by
  rw [Bool.eq_false_iff]
  intro hc
  obtain ⟨p, hp, e⟩ := hasK_iff.1 hc
  obtain ⟨j, hj, rfl⟩ := List.mem_iff_getElem.1 hp
  exact h j hj e
theorem low3_le (k : Int) : ∀ l : List P3, low3 k l ≤ l.length
  | [] => Nat.le_refl _
  | x :: r => by
    rw [low3]
    split
    · have := low3_le k r; simp; omega
    · exact Nat.zero_le _
theorem low3_lt {k : Int} : ∀ {l : List P3} {j : Nat} (hj : j < low3 k l), (l[j]'(Nat.lt_of_lt_of_le hj (low3_le k l))).1 < k
  | [], j, hj => by simp [low3] at hj
  | x :: r, j, hj => by
    rw [low3] at hj
    split at hj
    · cases j with
      | zero => assumption
      | succ j => exact low3_lt (l := r) (j := j) (by omega)
    · omega
theorem low3_at {k : Int} : ∀ {l : List P3} (h : low3 k l < l.length), ¬ (l[low3 k l]).1 < k
  | [], h => by simp at h
  | x :: r, h => by
    by_cases hx : x.1 < k
    · have h2 : low3 k r < r.length := by rw [low3, if_pos hx] at h; simpa using h
      have := low3_at h2
      simpa [low3, hx] using this
    · simp [low3, hx]
theorem low3_is {l : List P3} {k : Int} {i : Nat} (hi : i ≤ l.length) (h1 : ∀ j (hj : j < i), (l[j]'(Nat.lt_of_lt_of_le hj hi)).1 < k) (h2 : ∀ h : i < l.length, ¬ l[i].1 < k) : low3 k l = i := by
  rcases Nat.lt_trichotomy (low3 k l) i with h | h | h
  · exact absurd (h1 _ h) (low3_at (Nat.lt_of_lt_of_le h hi))
  · exact h
  · exact absurd (low3_lt h) (h2 (Nat.lt_of_lt_of_le h (low3_le k l)))
theorem ins3_low {p : P3} : ∀ {l : List P3}, hasK l p.1 = false → ins3 p l = l.take (low3 p.1 l) ++ p :: l.drop (low3 p.1 l)
  | [], _ => rfl
  | x :: r, h => by
    rw [hasK_cons] at h
    simp at h
    rw [ins3, low3]
    by_cases hx : x.1 < p.1
    · rw [if_neg (by omega), if_pos hx, ins3_low h.2]
      simp
    · rw [if_pos (by omega), if_neg hx]
      simp
theorem del3_pos {k : Int} : ∀ {l : List P3}, Srt l → hasK l k = true → del3 k l = l.take (pos3 l k) ++ l.drop (pos3 l k + 1)
  | [], _, h => by simp [hasK] at h
  | x :: r, hs, h => by
    have h1 := List.pairwise_cons.1 hs
    by_cases hx : x.1 = k
    · have h2 : hasK r k = false := by
        rw [Bool.eq_false_iff]
        intro hc
        obtain ⟨q, hq, e⟩ := hasK_iff.1 hc
        have := h1.1 q hq
        omega
      have e1 : del3 k (x :: r) = del3 k r := by simp [del3, hx]
      rw [e1, del3_none h2]
      simp [pos3, hx]
    · have e1 : del3 k (x :: r) = x :: del3 k r := by simp [del3, hx]
      have hr : hasK r k = true := by rw [hasK_cons] at h; simpa [hx] using h
      rw [e1, del3_pos h1.2 hr]
      simp [pos3, hx]

/-! slices of triples -/
def is3 (l : List P3) : List Value := l.flatMap fun p => [.int .i64 p.1, .int .i64 p.2.1, .int .i64 p.2.2]
theorem is3_nil : is3 [] = [] := rfl
theorem is3_cons (p : P3) (l : List P3) : is3 (p :: l) = .int .i64 p.1 :: .int .i64 p.2.1 :: .int .i64 p.2.2 :: is3 l := rfl
theorem is3_len : ∀ l : List P3, (is3 l).length = l.length * 3
  | [] => rfl
  | p :: r => by rw [is3_cons]; simp [is3_len r]; omega
theorem is3_append (l r : List P3) : is3 (l ++ r) = is3 l ++ is3 r := List.flatMap_append
theorem is3_take : ∀ (l : List P3) (k : Nat), (is3 l).take (k * 3) = is3 (l.take k)
  | [], k => by simp [is3_nil]
  | p :: r, 0 => by simp [is3_nil]
  | p :: r, k + 1 => by
    rw [is3_cons, show (k + 1) * 3 = k * 3 + 1 + 1 + 1 by omega]
    simp only [List.take_succ_cons]
    rw [is3_take r k, is3_cons]
theorem is3_drop : ∀ (l : List P3) (k : Nat), (is3 l).drop (k * 3) = is3 (l.drop k)
  | [], k => by simp [is3_nil]
  | p :: r, 0 => by simp
  | p :: r, k + 1 => by
    rw [is3_cons, show (k + 1) * 3 = k * 3 + 1 + 1 + 1 by omega]
    simp only [List.drop_succ_cons]
    exact is3_drop r k
theorem is3_get : ∀ {l : List P3} {i : Nat} (h : i < l.length), (is3 l)[i * 3]? = some (.int .i64 l[i].1) ∧ (is3 l)[i * 3 + 1]? = some (.int .i64 l[i].2.1) ∧ (is3 l)[i * 3 + 2]? = some (.int .i64 l[i].2.2)
  | p :: r, 0, _ => by simp [is3_cons]
  | p :: r, i + 1, h => by
    have := is3_get (l := r) (i := i) (by simpa using h)
    rw [is3_cons, show (i + 1) * 3 = i * 3 + 1 + 1 + 1 by omega]
    simpa using this
theorem one_is3 (l : List P3) : ∀ u ∈ is3 l, u.oneCell' = true := by
  intro u hu
  obtain ⟨p, _, hp⟩ := List.mem_flatMap.1 hu
  simp at hp
  rcases hp with rfl | rfl | rfl <;> rfl

/-- a slice of triples that can be read -/
def Row3 (w : World) (A : Option Addr) (n c : Nat) (l : List P3) : Prop := Rd w A (is3 l) ∧ l.length = n ∧ n ≤ c ∧ c ≤ maxLen ∧ ∀ b, blkOf A = some b → b < w.heap.size
theorem Row3.chg {S : Nat → Prop} {w w' : World} {A : Option Addr} {n c : Nat} {l : List P3} (h : Row3 w A n c l) (hs : Chg S w w') (hn : ∀ b, blkOf A = some b → ¬ S b) : Row3 w' A n c l :=
  ⟨h.1.chg hs fun b hb _ => hn b hb, h.2.1, h.2.2.1, h.2.2.2.1, fun b hb => by have := h.2.2.2.2 b hb; have := hs.size; omega⟩
theorem Row3.same {w w' : World} {A : Option Addr} {n c : Nat} {l : List P3} (h : Row3 w A n c l) (hs : Same w w') : Row3 w' A n c l := h.chg hs fun _ _ h => h
theorem Row3.own {w : World} {base n c : Nat} {e : TypeId} {A : Option Addr} {l : List P3} (h : w.ownsRow base e 3 (.slice A n c) n (is3 l)) (hl : l.length = n) : Row3 w A n c l := by
  obtain ⟨A', c', he, h1, h2, h3, h4, h5, h6⟩ := own_form h
  obtain ⟨rfl, rfl⟩ : A = A' ∧ c = c' := by injection he with e1 e2 e3; exact ⟨e1, e3⟩
  exact ⟨h2, hl, h1, h5, fun b hb => ty_lt (h3 b hb)⟩
theorem Row3.at_ {w : World} {A : Option Addr} {n c i : Nat} {l : List P3} (h : Row3 w A n c l) (hi : i < l.length) :
    ∃ b off, A = some ⟨b, off, none⟩ ∧ b < w.heap.size ∧ w.cell? ⟨b, off + i * 3, none⟩ = some (.int .i64 l[i].1) ∧ w.cell? ⟨b, off + i * 3 + 1, none⟩ = some (.int .i64 l[i].2.1) ∧ w.cell? ⟨b, off + i * 3 + 2, none⟩ = some (.int .i64 l[i].2.2) := by
  have hx : is3 l ≠ [] := fun e => by have := is3_len l; rw [e] at this; simp at this; omega
  obtain ⟨b, off, rfl, hc⟩ := h.1 hx
  obtain ⟨g0, g1, g2⟩ := is3_get hi
  exact ⟨b, off, rfl, h.2.2.2.2 b rfl, hc _ _ g0, by rw [Nat.add_assoc]; exact hc _ _ g1, by rw [Nat.add_assoc]; exact hc _ _ g2⟩
end Go.Al
