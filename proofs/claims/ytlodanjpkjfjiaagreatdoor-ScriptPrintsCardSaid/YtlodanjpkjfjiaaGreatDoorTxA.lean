/-
  Plain words: which acts of a list are good; the text of acts fits script.Read. No conditions.
-/
import Derived.Test.YtlodanjpkjfjiaaGreatDoorPrA
namespace Go.Proofs.YtlodanjpkjfjiaaGreatDoor
open Go.RowKit Go.Al
set_option linter.unusedVariables false

theorem badAt_le (l : List Ac) : badAt l ≤ l.length := List.findIdx_le_length
theorem badAt_snoc (l : List Ac) (d : Ac) : badAt (l ++ [d]) = if badAt l < l.length then badAt l else if goodA d = true then l.length + 1 else l.length := by
  have hle := badAt_le l
  unfold badAt at *
  rw [List.findIdx_append]
  split
  · rfl
  · rename_i h
    cases hd : goodA d <;> simp [List.findIdx_cons, hd] <;> omega
theorem badAt_good {l : List Ac} (h : badAt l = l.length) : ∀ a ∈ l, goodA a = true := by
  unfold badAt at h
  rw [List.findIdx_eq_length] at h
  intro a ha
  have := h a ha
  simpa using this
theorem fit_text {l : List Ac} (h : ∀ a ∈ l, goodA a = true ∧ WfA a) (hl : (textA l).length ≤ 1000000) : FitS (textA l) := by
  refine ⟨hl, ?_⟩
  · have key : ∀ (l : List Ac), (∀ a ∈ l, goodA a = true ∧ WfA a) → ∀ x ∈ cutAt 10 (textA l), x = [] ∨ ∃ a ∈ l, x = showB a := by
      intro l
      induction l with
      | nil => intro _ x hx; simp [textA, cutAt] at hx; exact .inl hx
      | cons a r ih =>
        intro h x hx
        have e : textA (a :: r) = showB a ++ 10 :: textA r := by simp [textA]
        rw [e] at hx
        rw [cutAt_app 10 _ _ (no10_show a)] at hx
        rcases List.mem_cons.1 hx with h1 | h1
        · exact .inr ⟨a, List.mem_cons_self, h1⟩
        · rcases ih (fun b hb => h b (List.mem_cons_of_mem _ hb)) x h1 with h2 | ⟨b, hb, h2⟩
          · exact .inl h2
          · exact .inr ⟨b, List.mem_cons_of_mem _ hb, h2⟩
    intro x hx
    rcases key l h x hx with rfl | ⟨a, ha, rfl⟩
    · rw [split_cut]; decide
    · rw [split_show]
      have := showW_len (h a ha).1
      omega
theorem count10 : ∀ l : List Ac, Lib.countByte (textA l) 10 = l.length
  | [] => rfl
  | a :: r => by
    have e : textA (a :: r) = showB a ++ 10 :: textA r := by simp [textA]
    have ih := count10 r
    unfold Lib.countByte at ih ⊢
    rw [e, List.count_append, List.count_cons_self, ih, List.count_eq_zero_of_not_mem (no10_show a), List.length_cons]
    omega
theorem acts_lit (w : World) : OwnA w (w.alloc (.cells #[] 38)) (some ⟨w.heap.size, 0, none⟩) 0 0 [] :=
  ⟨rfl, own_lit w w.heap.size 38 22 #[] 0 (Nat.le_refl _) (by decide) rfl, by simp, by simp, (Chg.refl _ _).alloc _⟩
end Go.Proofs.YtlodanjpkjfjiaaGreatDoor
