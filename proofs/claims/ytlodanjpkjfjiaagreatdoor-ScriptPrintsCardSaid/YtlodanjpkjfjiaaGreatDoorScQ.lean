/-
  Plain words: the text of acts, a line each; which acts a text tells, or at which line it is none. A text of good acts comes back. No program is walked here. No conditions.
-/
import Derived.Test.YtlodanjpkjfjiaaGreatDoorScP
import Derived.Lib.IndexMore
namespace Go.Proofs.YtlodanjpkjfjiaaGreatDoor
open Go.RowKit Go.Al
set_option linter.unusedVariables false

theorem cut_cases (c : UInt8) : ∀ s : List UInt8, (c ∉ s ∧ Lib.cut s [c] = (s, [], false) ∧ cutAt c s = [s]) ∨ ∃ x r, c ∉ x ∧ s = x ++ c :: r ∧ Lib.cut s [c] = (x, r, true) ∧ cutAt c s = x :: cutAt c r
  | [] => .inl ⟨by simp, rfl, rfl⟩
  | b :: l => by
    by_cases hb : b = c
    · subst hb
      refine .inr ⟨[], l, by simp, rfl, ?_, by simp [cutAt]⟩
      unfold Lib.cut
      rw [index_byte_hit]
      rfl
    · have hi := index_byte_miss l hb
      rcases cut_cases c l with ⟨h1, h2, h3⟩ | ⟨x, r, h1, h2, h3, h4⟩
      · refine .inl ⟨fun h => by rw [List.mem_cons] at h; rcases h with h | h; exact hb h.symm; exact h1 h, ?_, by rw [cutAt, if_neg hb, h3]⟩
        unfold Lib.cut at h2 ⊢
        have hn : ¬ 0 ≤ Lib.index l [c] := fun h => by rw [if_pos h] at h2; simp at h2
        have hm : Lib.index l [c] = -1 := by have := index_byte_ge c l; omega
        rw [hi, hm]
        rfl
      · refine .inr ⟨b :: x, r, fun h => by rw [List.mem_cons] at h; rcases h with h | h; exact hb h.symm; exact h1 h, by rw [h2]; rfl, ?_, by rw [cutAt, if_neg hb, h4]⟩
        unfold Lib.cut at h3 ⊢
        have hp : 0 ≤ Lib.index l [c] := by
          rcases Int.lt_or_le (Lib.index l [c]) 0 with h | h
          · rw [if_neg (by omega)] at h3; cases h3
          · exact h
        rw [if_pos hp] at h3
        obtain ⟨n, hn⟩ : ∃ n : Nat, Lib.index l [c] = n := ⟨(Lib.index l [c]).toNat, by omega⟩
        rw [hn] at h3
        have e : Lib.index (b :: l) [c] = ((n + 1 : Nat) : Int) := by
          have hz : ¬ ((n : Int) == -1) = true := fun h => by have := eq_of_beq h; omega
          rw [hi, hn, if_neg hz]
          omega
        rw [e, if_pos (by omega)]
        simp only [Int.toNat_natCast, List.length_cons, List.length_nil, Nat.zero_add] at h3 ⊢
        injection h3 with h5 h6
        injection h6 with h6 _
        rw [List.take_succ_cons, h5, List.drop_succ_cons, h6]
/-- which acts the pieces of a text tell; n: the line that comes -/
def readL (one : UInt8 → UInt8 → UInt8) : List (List UInt8) → Nat → Except Nat (List Ac)
  | [], _ => .ok []
  | [x], n => if x = [] then .ok [] else .error n
  | x :: y :: r, n => match parseB one x with
    | some a => (match readL one (y :: r) (n + 1) with | .ok l => .ok (a :: l) | .error m => .error m)
    | none => .error n
def readB (one : UInt8 → UInt8 → UInt8) (s : List UInt8) (n : Nat) : Except Nat (List Ac) := readL one (cutAt 10 s) n
theorem readB_nil (one : UInt8 → UInt8 → UInt8) (n : Nat) : readB one [] n = .ok [] := rfl
theorem readB_none {one : UInt8 → UInt8 → UInt8} {s : List UInt8} (h : (10 : UInt8) ∉ s) (hs : s ≠ []) (n : Nat) : readB one s n = .error n := by
  unfold readB
  rw [cutAt_one 10 s h]
  simp [readL, hs]
theorem readB_cons {one : UInt8 → UInt8 → UInt8} {x r : List UInt8} (h : (10 : UInt8) ∉ x) (n : Nat) :
    readB one (x ++ 10 :: r) n = match parseB one x with
    | some a => (match readB one r (n + 1) with | .ok l => .ok (a :: l) | .error m => .error m)
    | none => .error n := by
  unfold readB
  rw [cutAt_app 10 x r h]
  obtain ⟨y, l, e⟩ := List.exists_cons_of_ne_nil (cutAt_ne 10 r)
  rw [e]
  rfl
/-- the text of acts -/
def textA (l : List Ac) : List UInt8 := l.flatMap fun a => showB a ++ [10]
theorem textA_snoc (l : List Ac) (a : Ac) : textA (l ++ [a]) = textA l ++ (showB a ++ [10]) := by simp [textA]
theorem no10_words {ws : List (List UInt8)} (h : ∀ w ∈ ws, (10 : UInt8) ∉ w) : (10 : UInt8) ∉ Lib.join ws [32] := by
  match ws with
  | [] => simp [Lib.join_nil]
  | [w] => rw [Lib.join_one]; exact h w List.mem_cons_self
  | w :: x :: r =>
    have ih := no10_words (ws := x :: r) fun y hy => h y (List.mem_cons_of_mem _ hy)
    have e : Lib.join (w :: x :: r) [32] = w ++ 32 :: Lib.join (x :: r) [32] := by
      rw [Lib.join_cons, Lib.join_cons]
      simp [Lib.joinTail]
    rw [e, List.mem_append, List.mem_cons]
    rintro (h1 | h1 | h1)
    · exact h w List.mem_cons_self h1
    · exact absurd h1 (by decide)
    · exact ih h1
theorem no10A : ∀ k : Int, (10 : UInt8) ∉ wordAt wordsA k := by
  intro k h
  unfold wordAt at h
  cases hw : wordsA[(k - 1).toNat]? with
  | none => rw [hw] at h; simp at h
  | some w =>
    rw [hw] at h
    have hm := List.mem_of_getElem? hw
    have : ∀ w ∈ wordsA, (10 : UInt8) ∉ w := by decide
    exact this w hm h
theorem no10R : ∀ k : Int, (10 : UInt8) ∉ wordAt wordsR k := by
  intro k h
  unfold wordAt at h
  cases hw : wordsR[(k - 1).toNat]? with
  | none => rw [hw] at h; simp at h
  | some w =>
    rw [hw] at h
    have hm := List.mem_of_getElem? hw
    have : ∀ w ∈ wordsR, (10 : UInt8) ∉ w := by decide
    exact this w hm h
theorem hexD_10 (n : Nat) : hexD n ≠ 10 := by
  unfold hexD
  cases hw : ([48, 49, 50, 51, 52, 53, 54, 55, 56, 57, 97, 98, 99, 100, 101, 102] : List UInt8)[n]? with
  | none => decide
  | some x =>
    have hm := List.mem_of_getElem? hw
    have : ∀ x ∈ ([48, 49, 50, 51, 52, 53, 54, 55, 56, 57, 97, 98, 99, 100, 101, 102] : List UInt8), x ≠ 10 := by decide
    exact this x hm
theorem no10H (b : List UInt8) : (10 : UInt8) ∉ hexB b := by
  unfold hexB
  split
  · decide
  · intro h
    obtain ⟨x, _, hx⟩ := List.mem_flatMap.1 h
    simp at hx
    rcases hx with hx | hx
    · exact hexD_10 _ hx.symm
    · exact hexD_10 _ hx.symm
theorem no10_show (a : Ac) : (10 : UInt8) ∉ showB a := by
  refine no10_words fun w hw => ?_
  have hi : ∀ n : Int, (10 : UInt8) ∉ Lib.itoa n := fun n => itoa_no n 10 (by decide)
  unfold showW at hw
  rw [List.mem_cons, List.mem_append] at hw
  rcases hw with rfl | hw | hw
  · exact no10A _
  · split at hw
    · cases hw
    · simp at hw; subst hw; exact hi _
  · split at hw
    · rw [List.mem_cons] at hw
      rcases hw with rfl | hw
      · exact no10R _
      · obtain ⟨n, _, rfl⟩ := List.mem_map.1 hw
        exact hi n
    · split at hw
      · simp at hw; subst hw; exact hi _
      · split at hw
        · simp at hw; subst hw; exact no10H _
        · cases hw
/-- good acts come back from their text -/
theorem read_text {one : UInt8 → UInt8 → UInt8} (ho : Ones one) : ∀ (l : List Ac) (n : Nat), (∀ a ∈ l, goodA a = true ∧ WfA a) → readB one (textA l) n = .ok (l.map onlyA)
  | [], n, _ => rfl
  | a :: l, n, h => by
    have ih := read_text ho l (n + 1) fun x hx => h x (List.mem_cons_of_mem _ hx)
    have ha := h a List.mem_cons_self
    have e : textA (a :: l) = showB a ++ 10 :: textA l := by simp [textA]
    rw [e, readB_cons (no10_show a), parse_show ho ha.1 ha.2, ih]
    rfl
theorem count_text (l : List Ac) : Lib.count (textA l) [10] = l.length := by
  rw [Lib.count_one]
  induction l with
  | nil => rfl
  | cons a l ih =>
    have e : textA (a :: l) = showB a ++ 10 :: textA l := by simp [textA]
    rw [e, List.count_append, List.count_cons_self, ih, List.count_eq_zero_of_not_mem (no10_show a)]
    simp
end Go.Proofs.YtlodanjpkjfjiaaGreatDoor
