/-
  Plain laws of a ring: how a list lies in an array that goes round, and what a push, a pop and a cut do to it. No program in sight, no conditions.
-/
namespace Go.Al.Rg

theorem modw {a i n : Nat} (ha : a < n) (hi : i ≤ n) : (a + i) % n = if a + i < n then a + i else a + i - n := by
  split
  · rename_i h; exact Nat.mod_eq_of_lt h
  · rename_i h
    rw [Nat.mod_eq_sub_mod (by omega), Nat.mod_eq_of_lt (by omega)]
theorem mod_ne {a i j n : Nat} (ha : a < n) (hi : i < n) (hj : j < n) (h : i ≠ j) : (a + i) % n ≠ (a + j) % n := by
  rw [modw ha (by omega), modw ha (by omega)]
  split <;> split <;> omega
theorem mod_lt' {a i n : Nat} (ha : a < n) : (a + i) % n < n := Nat.mod_lt _ (by omega)

/-- the list q lies in the array P from place a on, going round -/
def Lay (P : List Int) (a : Nat) (q : List Int) : Prop := ∀ i, i < q.length → P[(a + i) % P.length]? = q[i]?

theorem Lay.nil (P : List Int) (a : Nat) : Lay P a [] := fun i h => by simp at h
theorem Lay.push {P : List Int} {a : Nat} {q : List Int} (h : Lay P a q) (ha : a < P.length) (hn : q.length < P.length) (v : Int) :
    Lay (P.set ((a + q.length) % P.length) v) a (q ++ [v]) := by
  intro i hi
  simp at hi
  rw [List.length_set, List.getElem?_set]
  by_cases he : i = q.length
  · subst he
    rw [if_pos rfl, if_pos (mod_lt' ha)]
    simp
  · rw [if_neg (mod_ne ha hn (by omega) (Ne.symm he)), List.getElem?_append_left (by omega)]
    exact h i (by omega)
theorem Lay.tail {P : List Int} {a : Nat} {x : Int} {q : List Int} (h : Lay P a (x :: q)) (ha : a < P.length) (hn : (x :: q).length ≤ P.length) (v : Int) :
    Lay (P.set a v) ((a + 1) % P.length) q := by
  intro i hi
  simp only [List.length_cons] at hn
  have h1 := h (i + 1) (by simp; omega)
  have e : ((a + 1) % P.length + i) % P.length = (a + (i + 1)) % P.length := by
    rw [Nat.mod_add_mod]; congr 1; omega
  rw [List.length_set, List.getElem?_set, e]
  have hne : ¬ a = (a + (i + 1)) % P.length := by
    have := mod_ne (a := a) (i := 0) (j := i + 1) ha (by omega) (by omega) (by omega)
    rw [Nat.add_zero, Nat.mod_eq_of_lt ha] at this
    exact this
  rw [if_neg hne, h1]
  simp
/-- one place nearer: what stands at i+1 comes to i -/
theorem Lay.shift {P : List Int} {a : Nat} {q : List Int} (h : Lay P a q) (ha : a < P.length) (hn : q.length ≤ P.length) {i : Nat} (hi : i + 1 < q.length) :
    Lay (P.set ((a + i) % P.length) (q.getD (i + 1) 0)) a (q.set i (q.getD (i + 1) 0)) := by
  intro j hj
  rw [List.length_set] at hj
  rw [List.length_set, List.getElem?_set, List.getElem?_set]
  by_cases he : j = i
  · subst he
    rw [if_pos rfl, if_pos rfl, if_pos (mod_lt' ha), if_pos (by omega)]
  · rw [if_neg (mod_ne ha (by omega) (by omega) (Ne.symm he)), if_neg (Ne.symm he)]
    exact h j hj
theorem Lay.last {P : List Int} {a : Nat} {q : List Int} {x v : Int} (h : Lay P a (q ++ [x])) (ha : a < P.length) (hn : (q ++ [x]).length ≤ P.length) :
    Lay (P.set ((a + q.length) % P.length) v) a q := by
  intro j hj
  simp only [List.length_append, List.length_cons, List.length_nil] at hn
  rw [List.length_set, List.getElem?_set, if_neg (mod_ne ha (by omega) (by omega) (by omega))]
  have := h j (by simp; omega)
  rw [List.getElem?_append_left hj] at this
  exact this
theorem Lay.copy {Q : List Int} {q : List Int} (hn : q.length ≤ Q.length) (hQ : ∀ i, i < q.length → Q[i]? = q[i]?) : Lay Q 0 q := by
  intro i hi
  rw [Nat.zero_add, Nat.mod_eq_of_lt (by omega)]
  exact hQ i hi

/-- the list without what stands at i, as the loop makes it: shifted one by one -/
def shifted (q : List Int) (i j : Nat) : List Int := q.take i ++ (q.drop (i + 1)).take (j - i) ++ q.drop j

theorem shifted_start (q : List Int) (i : Nat) : shifted q i i = q := by
  simp [shifted]
theorem shifted_length (q : List Int) {i j : Nat} (hi : i ≤ j) (hj : j < q.length) : (shifted q i j).length = q.length := by
  simp [shifted]; omega
theorem shifted_at (q : List Int) {i j : Nat} (hi : i ≤ j) (hj : j < q.length) (k : Nat) : (shifted q i j)[k]? = if k < i then q[k]? else if k < j then q[k + 1]? else q[k]? := by
  have h1 : (q.take i).length = i := by simp; omega
  have h2 : ((q.drop (i + 1)).take (j - i)).length = j - i := by simp; omega
  unfold shifted
  by_cases hk : k < i
  · rw [if_pos hk, List.append_assoc, List.getElem?_append_left (by omega), List.getElem?_take, if_pos hk]
  · rw [if_neg hk, List.append_assoc, List.getElem?_append_right (by omega), h1]
    by_cases hk2 : k < j
    · rw [if_pos hk2, List.getElem?_append_left (by omega), List.getElem?_take, if_pos (by omega), List.getElem?_drop]
      congr 1
      omega
    · rw [if_neg hk2, List.getElem?_append_right (by omega), h2, List.getElem?_drop]
      congr 1
      omega
theorem shifted_get (q : List Int) {i j k : Nat} (hi : i ≤ j) (hj : j < q.length) (hk : j ≤ k) : (shifted q i j)[k]? = q[k]? := by
  rw [shifted_at q hi hj, if_neg (by omega), if_neg (by omega)]
theorem shifted_step (q : List Int) {i j : Nat} (hi : i ≤ j) (hj : j + 1 < q.length) : (shifted q i j).set j (q.getD (j + 1) 0) = shifted q i (j + 1) := by
  apply List.ext_getElem?
  intro k
  rw [List.getElem?_set, shifted_at q hi (by omega), shifted_at q (by omega) hj, shifted_length q hi (by omega)]
  by_cases hk : j = k
  · subst hk
    rw [if_pos rfl, if_pos (by omega), if_neg (by omega), if_pos (by omega), List.getD_eq_getElem?_getD, List.getElem?_eq_getElem hj]
    rfl
  · rw [if_neg hk]
    by_cases h1 : k < i
    · rw [if_pos h1, if_pos h1]
    · rw [if_neg h1, if_neg h1]
      by_cases h2 : k < j
      · rw [if_pos h2, if_pos (by omega)]
      · rw [if_neg h2, if_neg (by omega)]
theorem shifted_end (q : List Int) {i : Nat} (hi : i < q.length) : ∃ x, shifted q i (q.length - 1) = q.eraseIdx i ++ [x] := by
  refine ⟨q.getD (q.length - 1) 0, ?_⟩
  unfold shifted
  rw [List.eraseIdx_eq_take_drop_succ]
  have e1 : (q.drop (i + 1)).take (q.length - 1 - i) = q.drop (i + 1) := List.take_of_length_le (by simp; omega)
  have e2 : q.drop (q.length - 1) = [q.getD (q.length - 1) 0] := by
    rw [List.drop_eq_getElem_cons (by omega), List.drop_of_length_le (by omega), List.getD_eq_getElem?_getD, List.getElem?_eq_getElem (by omega)]
    rfl
  rw [e1, e2]

/-- where one stands, from the beginning; the length, if it doesn't -/
def pos : List Int → Int → Nat
  | [], _ => 0
  | x :: r, v => if x = v then 0 else pos r v + 1
theorem pos_lt {v : Int} : ∀ {q : List Int}, v ∈ q → pos q v < q.length := by
  intro q
  induction q with
  | nil => intro h; simp at h
  | cons x r ih =>
    intro h
    simp only [pos]
    by_cases hx : x = v
    · rw [if_pos hx]; simp
    · rw [if_neg hx]
      rcases List.mem_cons.1 h with h | h
      · exact absurd h.symm hx
      · have := ih h; simp; omega
theorem pos_get {v : Int} : ∀ {q : List Int}, v ∈ q → q[pos q v]? = some v := by
  intro q
  induction q with
  | nil => intro h; simp at h
  | cons x r ih =>
    intro h
    simp only [pos]
    by_cases hx : x = v
    · rw [if_pos hx]; simp [hx]
    · rw [if_neg hx]
      rcases List.mem_cons.1 h with h | h
      · exact absurd h.symm hx
      · simpa using ih h
theorem pos_first {v : Int} : ∀ {q : List Int} {j : Nat}, j < pos q v → q[j]? ≠ some v := by
  intro q
  induction q with
  | nil => intro j h; simp [pos] at h
  | cons x r ih =>
    intro j h
    simp only [pos] at h
    by_cases hx : x = v
    · rw [if_pos hx] at h; omega
    · rw [if_neg hx] at h
      cases j with
      | zero => simpa using hx
      | succ j => simpa using ih (j := j) (by omega)
theorem pos_found {q : List Int} {v : Int} {i : Nat} (hi : i < q.length) (h : q[i] = v) (hn : ∀ j, j < i → q[j]? ≠ some v) : v ∈ q ∧ pos q v = i := by
  have hm : v ∈ q := by rw [← h]; exact List.getElem_mem hi
  refine ⟨hm, ?_⟩
  rcases Nat.lt_trichotomy (pos q v) i with h2 | h2 | h2
  · exact absurd (pos_get hm) (hn _ h2)
  · exact h2
  · refine absurd ?_ (pos_first h2)
    rw [List.getElem?_eq_getElem hi, h]
theorem not_mem_of {q : List Int} {v : Int} (hn : ∀ j, j < q.length → q[j]? ≠ some v) : ¬ v ∈ q := fun h => hn _ (pos_lt h) (pos_get h)
end Go.Al.Rg
