/-
  The table's Do, as one contract; Point, Span, Len, Most; what is told of no table; the law's own 'lives'. Condition: ids that an int holds.
-/
import Derived.Test.YthjnecicagmdeaaGreatTbD
namespace Go.Proofs.YthjnecicagmdeaaGreat
open Go.RowKit Go.Al
set_option linter.unusedVariables false

/-! Do in one contract -/
def doB (p s : List P3) (most : Int) (c : Cg) : Cg := if mayE p s most c = 0 then backC p s c else ⟨0, z3, z3⟩
def doP' (p s : List P3) (most : Int) (c : Cg) : List P3 := if mayE p s most c = 0 then doP p c else p
def doS' (p s : List P3) (most : Int) (c : Cg) : List P3 := if mayE p s most c = 0 then doS s c else s
theorem may_zero {p s : List P3} {most : Int} {c : Cg} (h : mayE p s most c = 0) :
    (c.k = 1 ∨ c.k = 2 ∨ c.k = 3 ∨ c.k = 4) ∧ (addsC c = true → isC p s c = false ∧ (p.length : Int) + (s.length : Int) < most) ∧ (addsC c = false → isC p s c = true) ∧ judgeE c = 0 := by
  unfold mayE at h
  by_cases hj : judgeE c = 0
  · rw [if_pos hj] at h
    refine ⟨?_, ?_, ?_, hj⟩
    · unfold judgeE at hj
      split at hj
      · omega
      · rename_i hn
        have : kindC c = true := by
          cases hk : kindC c
          · exact absurd (.inl hk) hn
          · rfl
        simpa [kindC] using this
    · intro ha
      rw [if_pos ha] at h
      cases hi : isC p s c
      · rw [hi] at h
        refine ⟨rfl, ?_⟩
        by_cases hl : most ≤ (p.length : Int) + (s.length : Int)
        · rw [if_pos hl] at h; simp at h
        · omega
      · rw [hi] at h; simp at h
    · intro ha
      rw [if_neg (by simp [ha])] at h
      cases hi : isC p s c
      · rw [hi] at h; simp at h
      · rfl
  · rw [if_neg hj] at h
    exact absurd h hj
/-! no table -/
set_option maxHeartbeats 400000 in
theorem points_nil (w : World) : Calls Tryz.prog 51 #[.pointer none] w fun e w' => e = .returned (.slice none 0 0) ∧ Same w w' := by
  go_enter Tryz.func51, Tryz.ntmps51
  go_wp2_with fail
  go_ret
  exact ⟨rfl, Chg.refl _ _⟩
set_option maxHeartbeats 400000 in
theorem spans_nil (w : World) : Calls Tryz.prog 52 #[.pointer none] w fun e w' => e = .returned (.slice none 0 0) ∧ Same w w' := by
  go_enter Tryz.func52, Tryz.ntmps52
  go_wp2_with fail
  go_ret
  exact ⟨rfl, Chg.refl _ _⟩
end Go.Proofs.YthjnecicagmdeaaGreat
