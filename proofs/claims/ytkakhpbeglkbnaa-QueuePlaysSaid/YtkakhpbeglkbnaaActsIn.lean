/-
  A slice of pairs of integers that came in, as a reading tells it. No conditions.
-/
import Derived.Test.YtkakhpbeglkbnaaRgG
import Derived.Deep.SlicePairs
namespace Go.Proofs.Ytkakhpbeglkbnaa
open Go.Al Go.RowKit
set_option linter.unusedVariables false
theorem acts_in {w : World} {x : Addr} {n : Nat} (h : ∀ i, i < n → ∃ k v, w.cell? (x.add (i * 2)) = some (.int .i64 k) ∧ w.cell? (x.add (i * 2 + 1)) = some (.int .i64 v) ∧ (Lit.int .i64 k).wf = true ∧ (Lit.int .i64 v).wf = true) :
    ∃ l, Acts w (some x) n l ∧ ∀ p ∈ l, (Lit.int .i64 p.1).wf = true ∧ (Lit.int .i64 p.2).wf = true := by
  have h' : ∀ i, ∃ p : Int × Int, i < n → w.cell? (x.add (i * 2)) = some (.int .i64 p.1) ∧ w.cell? (x.add (i * 2 + 1)) = some (.int .i64 p.2) ∧ (Lit.int .i64 p.1).wf = true ∧ (Lit.int .i64 p.2).wf = true := fun i => by
    by_cases hi : i < n
    · obtain ⟨k, v, h⟩ := h i hi
      exact ⟨(k, v), fun _ => h⟩
    · exact ⟨(0, 0), fun h => absurd h hi⟩
  obtain ⟨f, hf⟩ := Classical.skolem.1 h'
  refine ⟨(List.range n).map f, ⟨by simp, fun hne => ?_⟩, fun p hp => ?_⟩
  · have h0 : 0 < n := by
      rcases Nat.eq_zero_or_pos n with e | e
      · subst e; simp at hne
      · exact e
    have hz := (hf 0 h0).1
    have hlt := World.block_lt_of_cell? w _ hz
    obtain ⟨xb, xo, xs⟩ := x
    have hs : xs = none := by simpa [Addr.add] using World.cell?_spot hz
    subst hs
    rw [add_lit] at hlt
    refine ⟨xb, xo, rfl, hlt, fun i hi => ?_⟩
    have hi' : i < n := by simpa using hi
    have := hf i hi'
    rw [add_lit, add_lit] at this
    simp only [List.getElem_map, List.getElem_range]
    exact ⟨this.1, this.2.1⟩
  · obtain ⟨i, hi, rfl⟩ := List.mem_map.1 hp
    exact (hf i (List.mem_range.1 hi)).2.2
theorem acts_nil (w : World) : Acts w none 0 [] := ⟨rfl, fun h => absurd rfl h⟩
end Go.Proofs.Ytkakhpbeglkbnaa
