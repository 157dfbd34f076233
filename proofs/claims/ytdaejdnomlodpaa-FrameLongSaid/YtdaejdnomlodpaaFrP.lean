/-
  Plain laws of frames, with no program in sight: what a run over bytes tells, at once and piece by piece. No conditions.
-/
namespace Go.Al.Fr

def need (l : List UInt8) : Nat := (l.getD 0 0).toNat * 256 + (l.getD 1 0).toNat
theorem need_lt (l : List UInt8) : need l < 65536 := by
  unfold need
  have h0 := (l.getD 0 0).toNat_lt
  have h1 := (l.getD 1 0).toNat_lt
  omega

/-- the frames that are whole, what is left behind them, whether one was too long (then nothing is left) -/
def run (most : Nat) : Nat → List UInt8 → List (List UInt8) × List UInt8 × Bool
  | 0, l => ([], l, false)
  | f + 1, l =>
    if l.length < 2 then ([], l, false)
    else if most < need l then ([], [], true)
    else if l.length < 2 + need l then ([], l, false)
    else
      let r := run most f (l.drop (2 + need l))
      ((l.drop 2).take (need l) :: r.1, r.2.1, r.2.2)
def all (most : Nat) (l : List UInt8) : List (List UInt8) × List UInt8 × Bool := run most l.length l

theorem run_more (most : Nat) : ∀ (f f' : Nat) (l : List UInt8), l.length ≤ f → l.length ≤ f' → run most f l = run most f' l := by
  intro f
  induction f with
  | zero =>
    intro f' l h _
    have : l = [] := List.eq_nil_of_length_eq_zero (by omega)
    subst this
    cases f' <;> simp [run]
  | succ f ih =>
    intro f' l h h'
    cases f' with
    | zero =>
      have : l = [] := List.eq_nil_of_length_eq_zero (by omega)
      subst this
      simp [run]
    | succ f' =>
      simp only [run]
      by_cases h1 : l.length < 2
      · simp [h1]
      · by_cases h2 : most < need l
        · simp [h1, h2]
        · by_cases h3 : l.length < 2 + need l
          · simp [h1, h2, h3]
          · simp only [h1, h2, h3, if_false]
            rw [ih f' (l.drop (2 + need l)) (by simp; omega) (by simp; omega)]

theorem all_eq (most : Nat) (l : List UInt8) : all most l =
    if l.length < 2 then ([], l, false)
    else if most < need l then ([], [], true)
    else if l.length < 2 + need l then ([], l, false)
    else ((l.drop 2).take (need l) :: (all most (l.drop (2 + need l))).1, (all most (l.drop (2 + need l))).2.1, (all most (l.drop (2 + need l))).2.2) := by
  unfold all
  cases hl : l.length with
  | zero => simp [run]
  | succ n =>
    simp only [run]
    rw [hl]
    by_cases h1 : n + 1 < 2
    · simp [h1]
    · by_cases h2 : most < need l
      · simp [h1, h2]
      · by_cases h3 : n + 1 < 2 + need l
        · simp [h1, h2, h3]
        · simp only [h1, h2, h3, if_false]
          rw [run_more most n (l.drop (2 + need l)).length (l.drop (2 + need l)) (by simp; omega) (Nat.le_refl _)]

theorem all_short {most : Nat} {l : List UInt8} (h : l.length < 2) : all most l = ([], l, false) := by rw [all_eq, if_pos h]
theorem all_long {most : Nat} {l : List UInt8} (h : 2 ≤ l.length) (h2 : most < need l) : all most l = ([], [], true) := by
  rw [all_eq, if_neg (by omega), if_pos h2]
theorem all_wait {most : Nat} {l : List UInt8} (h : 2 ≤ l.length) (h2 : need l ≤ most) (h3 : l.length < 2 + need l) : all most l = ([], l, false) := by
  rw [all_eq, if_neg (by omega), if_neg (by omega), if_pos h3]
theorem all_frame {most : Nat} {l : List UInt8} (h2 : need l ≤ most) (h3 : 2 + need l ≤ l.length) :
    all most l = ((l.drop 2).take (need l) :: (all most (l.drop (2 + need l))).1, (all most (l.drop (2 + need l))).2.1, (all most (l.drop (2 + need l))).2.2) := by
  rw [all_eq, if_neg (by omega), if_neg (by omega), if_neg (by omega)]

/-- an induction along the frames -/
theorem frames_ind {P : List UInt8 → Prop} (most : Nat) (h1 : ∀ l, l.length < 2 → P l) (h2 : ∀ l, 2 ≤ l.length → most < need l → P l)
    (h3 : ∀ l, 2 ≤ l.length → need l ≤ most → l.length < 2 + need l → P l)
    (h4 : ∀ l, need l ≤ most → 2 + need l ≤ l.length → P (l.drop (2 + need l)) → P l) : ∀ l, P l := by
  intro l
  generalize hn : l.length = n
  induction n using Nat.strongRecOn generalizing l with
  | _ n ih =>
    by_cases c1 : l.length < 2
    · exact h1 l c1
    · by_cases c2 : most < need l
      · exact h2 l (by omega) c2
      · by_cases c3 : l.length < 2 + need l
        · exact h3 l (by omega) (by omega) c3
        · exact h4 l (by omega) (by omega) (ih _ (by simp; omega) _ rfl)

theorem need_append {l m : List UInt8} (h : 2 ≤ l.length) : need (l ++ m) = need l := by
  unfold need
  match l, h with
  | x :: y :: r, _ => rfl

/-- more bytes: the frames of what waited and the new ones come behind the elder frames -/
theorem all_append (most : Nat) (m : List UInt8) : ∀ l, (all most l).2.2 = false →
    all most (l ++ m) = ((all most l).1 ++ (all most ((all most l).2.1 ++ m)).1, (all most ((all most l).2.1 ++ m)).2.1, (all most ((all most l).2.1 ++ m)).2.2) := by
  refine frames_ind most ?_ ?_ ?_ ?_
  · intro l h _
    rw [all_short h]
    simp
  · intro l h h2 hf
    rw [all_long h h2] at hf
    cases hf
  · intro l h h2 h3 _
    rw [all_wait h h2 h3]
    simp
  · intro l h2 h3 ih hf
    have e : need (l ++ m) = need l := need_append (by omega)
    rw [all_frame h2 h3] at hf ⊢
    have hd : (l ++ m).drop (2 + need l) = l.drop (2 + need l) ++ m := List.drop_append_of_le_length (by omega)
    have ht : ((l ++ m).drop 2).take (need l) = (l.drop 2).take (need l) := by
      rw [List.drop_append_of_le_length (by omega), List.take_append_of_le_length (by simp; omega)]
    rw [all_frame (l := l ++ m) (by rw [e]; exact h2) (by rw [e]; simp; omega), e, hd, ht, ih hf]
    simp
theorem all_append_broken (most : Nat) (m : List UInt8) : ∀ l, (all most l).2.2 = true → all most (l ++ m) = all most l := by
  refine frames_ind most ?_ ?_ ?_ ?_
  · intro l h hf
    rw [all_short h] at hf
    cases hf
  · intro l h h2 _
    rw [all_long h h2, all_long (by simp; omega) (by rw [need_append h]; exact h2)]
  · intro l h h2 h3 hf
    rw [all_wait h h2 h3] at hf
    cases hf
  · intro l h2 h3 ih hf
    have e : need (l ++ m) = need l := need_append (by omega)
    rw [all_frame h2 h3] at hf ⊢
    have hd : (l ++ m).drop (2 + need l) = l.drop (2 + need l) ++ m := List.drop_append_of_le_length (by omega)
    have ht : ((l ++ m).drop 2).take (need l) = (l.drop 2).take (need l) := by
      rw [List.drop_append_of_le_length (by omega), List.take_append_of_le_length (by simp; omega)]
    rw [all_frame (l := l ++ m) (by rw [e]; exact h2) (by rw [e]; simp; omega), e, hd, ht, ih hf]
/-- what is left is no frame -/
theorem all_rest (most : Nat) : ∀ l, (all most l).2.2 = false → all most (all most l).2.1 = ([], (all most l).2.1, false) := by
  refine frames_ind most ?_ ?_ ?_ ?_
  · intro l h _
    rw [all_short h, all_short h]
  · intro l h h2 hf
    rw [all_long h h2] at hf
    cases hf
  · intro l h h2 h3 _
    rw [all_wait h h2 h3, all_wait h h2 h3]
  · intro l h2 h3 ih hf
    rw [all_frame h2 h3] at hf ⊢
    exact ih hf
theorem all_rest_le (most : Nat) : ∀ l, (all most l).2.1.length ≤ l.length := by
  refine frames_ind most ?_ ?_ ?_ ?_
  · intro l h; rw [all_short h]; exact Nat.le_refl _
  · intro l h h2; rw [all_long h h2]; simp
  · intro l h h2 h3; rw [all_wait h h2 h3]; exact Nat.le_refl _
  · intro l h2 h3 ih
    rw [all_frame h2 h3]
    have : (l.drop (2 + need l)).length ≤ l.length := by simp
    exact Nat.le_trans ih this
/-- how many bytes the told frames take, with their heads -/
def bytesOf (fs : List (List UInt8)) : Nat := (fs.map fun f => 2 + f.length).sum
theorem bytesOf_append (a b : List (List UInt8)) : bytesOf (a ++ b) = bytesOf a + bytesOf b := by simp [bytesOf]
theorem all_bytes (most : Nat) : ∀ l, (all most l).2.2 = false → bytesOf (all most l).1 + (all most l).2.1.length = l.length := by
  refine frames_ind most ?_ ?_ ?_ ?_
  · intro l h _; rw [all_short h]; simp [bytesOf]
  · intro l h h2 hf; rw [all_long h h2] at hf; cases hf
  · intro l h h2 h3 _; rw [all_wait h h2 h3]; simp [bytesOf]
  · intro l h2 h3 ih hf
    rw [all_frame h2 h3] at hf ⊢
    have := ih hf
    simp only [bytesOf, List.map_cons, List.sum_cons, List.length_take, List.length_drop] at this ⊢
    omega
theorem all_count (most : Nat) : ∀ l, 2 * (all most l).1.length ≤ l.length := by
  refine frames_ind most ?_ ?_ ?_ ?_
  · intro l h; rw [all_short h]; simp
  · intro l h h2; rw [all_long h h2]; simp
  · intro l h h2 h3; rw [all_wait h h2 h3]; simp
  · intro l h2 h3 ih
    rw [all_frame h2 h3]
    simp only [List.length_drop, List.length_cons] at ih ⊢
    omega
theorem all_flen (most : Nat) : ∀ l, ∀ f ∈ (all most l).1, f.length ≤ l.length := by
  refine frames_ind most ?_ ?_ ?_ ?_
  · intro l h; rw [all_short h]; simp
  · intro l h h2; rw [all_long h h2]; simp
  · intro l h h2 h3; rw [all_wait h h2 h3]; simp
  · intro l h2 h3 ih f hf
    rw [all_frame h2 h3] at hf
    rcases List.mem_cons.1 hf with rfl | hf
    · simp; omega
    · have := ih f hf
      simp at this
      omega
theorem all_bytes_le (most : Nat) : ∀ l, bytesOf (all most l).1 ≤ l.length := by
  refine frames_ind most ?_ ?_ ?_ ?_
  · intro l h; rw [all_short h]; simp [bytesOf]
  · intro l h h2; rw [all_long h h2]; simp [bytesOf]
  · intro l h h2 h3; rw [all_wait h h2 h3]; simp [bytesOf]
  · intro l h2 h3 ih
    rw [all_frame h2 h3]
    simp only [bytesOf, List.map_cons, List.sum_cons, List.length_take, List.length_drop] at ih ⊢
    omega
theorem bytesOf_snoc (fs : List (List UInt8)) (i : Nat) (f : List UInt8) (h : fs[i]? = some f) : bytesOf (fs.take (i + 1)) = bytesOf (fs.take i) + (2 + f.length) := by
  have hi : i < fs.length := by
    rcases Nat.lt_or_ge i fs.length with h' | h'
    · exact h'
    · rw [List.getElem?_eq_none h'] at h; cases h
  have e : fs[i] = f := by rw [List.getElem?_eq_getElem hi] at h; exact Option.some.inj h
  rw [List.take_succ_eq_append_getElem hi, bytesOf_append, e]
  simp [bytesOf]
theorem bytesOf_take_le (fs : List (List UInt8)) (k : Nat) : bytesOf (fs.take k) ≤ bytesOf fs := by
  conv => rhs; rw [← List.take_append_drop k fs, bytesOf_append]
  omega

/-- somewhat cut -/
def cutL (most : Nat) (ls : List (List UInt8)) : List (List UInt8) := (ls.take 12).map (·.take most)
theorem cutL_snoc (most : Nat) (ls : List (List UInt8)) (i : Nat) (l : List UInt8) (h : ls[i]? = some l) : (ls.take (i + 1)).map (·.take most) = (ls.take i).map (·.take most) ++ [l.take most] := by
  have hi : i < ls.length := by
    rcases Nat.lt_or_ge i ls.length with h' | h'
    · exact h'
    · rw [List.getElem?_eq_none h'] at h; cases h
  have e : ls[i] = l := by rw [List.getElem?_eq_getElem hi] at h; exact Option.some.inj h
  rw [List.take_succ_eq_append_getElem hi, e, List.map_append]
  rfl
theorem cutL_len (most : Nat) (ls : List (List UInt8)) : ∀ l ∈ cutL most ls, l.length ≤ most := by
  intro l hl
  simp only [cutL, List.mem_map] at hl
  obtain ⟨x, _, rfl⟩ := hl
  simp; omega
theorem cutL_count (most : Nat) (ls : List (List UInt8)) : (cutL most ls).length ≤ 12 := by simp [cutL]; omega
/-- a frame's head -/
def head (n : Nat) : List UInt8 := [UInt8.ofNat (n / 256), UInt8.ofNat (n % 256)]
/-- frames one behind the other; none: one is too long, or all together are -/
def wrapFrom (out : List UInt8) : List (List UInt8) → Option (List UInt8)
  | [] => some out
  | b :: r => if 65535 < b.length ∨ 65536 < out.length + 2 + b.length then none else wrapFrom (out ++ head b.length ++ b) r
theorem wrapFrom_bad {out b : List UInt8} {ls : List (List UInt8)} {i : Nat} (h : ls[i]? = some b) (hb : 65535 < b.length ∨ 65536 < out.length + 2 + b.length) : wrapFrom out (ls.drop i) = none := by
  have hi : i < ls.length := by
    rcases Nat.lt_or_ge i ls.length with h' | h'
    · exact h'
    · rw [List.getElem?_eq_none h'] at h; cases h
  have e : ls[i] = b := by rw [List.getElem?_eq_getElem hi] at h; exact Option.some.inj h
  rw [List.drop_eq_getElem_cons hi, e, wrapFrom, if_pos hb]
theorem wrapFrom_step {out b : List UInt8} {ls : List (List UInt8)} {i : Nat} (h : ls[i]? = some b) (h1 : b.length ≤ 65535) (h2 : out.length + 2 + b.length ≤ 65536) :
    wrapFrom out (ls.drop i) = wrapFrom (out ++ head b.length ++ b) (ls.drop (i + 1)) := by
  have hi : i < ls.length := by
    rcases Nat.lt_or_ge i ls.length with h' | h'
    · exact h'
    · rw [List.getElem?_eq_none h'] at h; cases h
  have e : ls[i] = b := by rw [List.getElem?_eq_getElem hi] at h; exact Option.some.inj h
  rw [List.drop_eq_getElem_cons hi, e, wrapFrom, if_neg (by omega)]
theorem head_length (n : Nat) : (head n).length = 2 := rfl
theorem need_head (n : Nat) (hn : n ≤ 65535) (r : List UInt8) : need (head n ++ r) = n := by
  simp [need, head]
  omega
/-- what frames were made of is told again -/
theorem all_wrapFrom (most : Nat) : ∀ (ls : List (List UInt8)) (out b : List UInt8), wrapFrom out ls = some b → (∀ l ∈ ls, l.length ≤ most) →
    ∃ r, b = out ++ r ∧ all most r = (ls, [], false) := by
  intro ls
  induction ls with
  | nil =>
    intro out b h _
    simp only [wrapFrom, Option.some.injEq] at h
    exact ⟨[], by simp [h], by rw [all_short (by simp)]⟩
  | cons l ls ih =>
    intro out b h hm
    simp only [wrapFrom] at h
    split at h
    · cases h
    · rename_i hc
      obtain ⟨r, hr, hall⟩ := ih _ b h (fun x hx => hm x (List.mem_cons_of_mem _ hx))
      refine ⟨head l.length ++ (l ++ r), by rw [hr]; simp, ?_⟩
      have hn : need (head l.length ++ (l ++ r)) = l.length := need_head _ (by omega) _
      have hl := hm l (List.mem_cons_self ..)
      rw [all_frame (by rw [hn]; exact hl) (by rw [hn]; simp [head_length]), hn]
      have e1 : (head l.length ++ (l ++ r)).drop 2 = l ++ r := rfl
      have e2 : (head l.length ++ (l ++ r)).drop (2 + l.length) = r := by
        rw [← List.drop_drop, e1]
        exact List.drop_left
      rw [e1, e2, hall, List.take_left]
theorem wrapFrom_le : ∀ (ls : List (List UInt8)) (out b : List UInt8), out.length ≤ 65536 → wrapFrom out ls = some b → b.length ≤ 65536 := by
  intro ls
  induction ls with
  | nil => intro out b h h'; simp only [wrapFrom, Option.some.injEq] at h'; rw [← h']; exact h
  | cons l ls ih =>
    intro out b h h'
    simp only [wrapFrom] at h'
    split at h'
    · cases h'
    · rename_i hc
      exact ih _ b (by simp [head_length]; omega) h'

theorem cutL_idem (m : Nat) (ls : List (List UInt8)) : cutL m (cutL m ls) = cutL m ls := by
  unfold cutL
  rw [List.take_of_length_le (by simp; omega), List.map_map]
  congr 1
  funext l
  show (l.take m).take m = l.take m
  rw [List.take_take, Nat.min_self]
theorem wrap_small : ∀ (ks : List (List UInt8)) (out : List UInt8), (∀ l ∈ ks, l.length ≤ 400) → out.length + 402 * ks.length ≤ 65536 →
    ∃ b, wrapFrom out ks = some b ∧ b.length ≤ out.length + 402 * ks.length := by
  intro ks
  induction ks with
  | nil => intro out _ _; exact ⟨out, rfl, by simp⟩
  | cons l ks ih =>
    intro out hl hs
    have h1 := hl l (List.mem_cons_self ..)
    simp only [List.length_cons] at hs
    obtain ⟨b, hb, hle⟩ := ih (out ++ head l.length ++ l) (fun x hx => hl x (List.mem_cons_of_mem _ hx)) (by simp [head_length]; omega)
    refine ⟨b, ?_, ?_⟩
    · rw [wrapFrom, if_neg (by omega)]; exact hb
    · simp only [List.length_append, head_length, List.length_cons] at hle ⊢; omega
/-- what frames were made of comes back in two pieces -/
theorem two_pieces {m : Nat} {b : List UInt8} {ks : List (List UInt8)} (h : all m b = (ks, [], false)) (k : Nat) :
    (all m (b.take k)).2.2 = false ∧ (all m ((all m (b.take k)).2.1 ++ b.drop k)).2.2 = false ∧ (all m ((all m (b.take k)).2.1 ++ b.drop k)).2.1 = [] ∧
      (all m (b.take k)).1 ++ (all m ((all m (b.take k)).2.1 ++ b.drop k)).1 = ks := by
  have e : b.take k ++ b.drop k = b := List.take_append_drop k b
  have h1 : (all m (b.take k)).2.2 = false := by
    cases hb : (all m (b.take k)).2.2 with
    | false => rfl
    | true =>
      have := all_append_broken m (b.drop k) (b.take k) hb
      rw [e, h] at this
      rw [← this] at hb
      cases hb
  have h2 := all_append m (b.drop k) (b.take k) h1
  rw [e, h] at h2
  have h3 := congrArg (·.1) h2
  have h4 := congrArg (·.2.1) h2
  have h5 := congrArg (·.2.2) h2
  exact ⟨h1, h5.symm, h4.symm, h3.symm⟩
end Go.Al.Fr
