/-
  Slices of points and of intervals that came in, as a reading tells them. No conditions.
-/
import Derived.Test.YthjnecicagmdeaaGreatCgIn
import Derived.Test.YthjnecicagmdeaaGreatTcP
namespace Go.Proofs.YthjnecicagmdeaaGreat
open Go.Al Go.RowKit Go.ChangeShapes Go.WideShapes
set_option linter.unusedVariables false

theorem okWide_blk {P : Program} {w : World} {r : Reach} {b0 : Nat} {t e : TypeId} {a : Addr} {len cap : Nat} (ht : P.underlying t = some (.slice e)) (h : Value.okWide P w r b0 t (.slice (some a) len cap)) : a.block < w.heap.size := by
  simp only [Value.okWide, ht, Cell.okWide, Cell.ok, World.has] at h
  obtain ⟨_, _, _, _, row, cells, hs, _⟩ := h
  rcases Nat.lt_or_ge a.block w.heap.size with hlt | hge
  · exact hlt
  · rw [World.shape?, Array.getElem?_eq_none hge] at hs
    cases hs
theorem is3_read {w : World} {b : Nat} : ∀ (l : List P3) (o : Nat), (∀ i (h : i < l.length), w.cell? ⟨b, o + i * 3, none⟩ = some (.int .i64 l[i].1) ∧ w.cell? ⟨b, o + i * 3 + 1, none⟩ = some (.int .i64 l[i].2.1) ∧ w.cell? ⟨b, o + i * 3 + 2, none⟩ = some (.int .i64 l[i].2.2)) →
    ∀ j v, (is3 l)[j]? = some v → w.cell? ⟨b, o + j, none⟩ = some v
  | [], o, _, j, v, h => by cases h
  | p :: l, o, hc, j, v, h => by
    have h0 := hc 0 (by simp)
    simp only [Nat.zero_mul, Nat.add_zero, List.getElem_cons_zero] at h0
    rw [is3_cons] at h
    match j, h with
    | 0, h => cases h; exact h0.1
    | 1, h => cases h; exact h0.2.1
    | 2, h => cases h; exact h0.2.2
    | j + 3, h =>
      have ih := is3_read l (o + 3) (fun i hi => by
        have := hc (i + 1) (by simp; omega)
        rw [show o + (i + 1) * 3 = o + 3 + i * 3 by omega] at this
        simpa using this) j v (by simpa using h)
      rwa [show o + 3 + j = o + (j + 3) by omega] at ih
/-- cells of three, in a row -/
theorem open_3s {H : Type} {enc : TypeId × Value → H} {P : Program} {w : World} {base fuel b0 : Nat} {spare : Nat → Bool} {held : Bool} {r : Reach} {t e : TypeId} {a : Option Addr} {len cap : Nat} {x : DataW H × List MemPlace} (ht : P.underlying t = some (.slice e)) (hC : P.cellsOf e = 3)
    (h3 : ∀ {n : Nat} {cs : List Value} {x : DataW H × List MemPlace}, DataW.trod enc P w base spare held n e cs = some x → ∃ p : P3, cs = [.int .i64 p.1, .int .i64 p.2.1, .int .i64 p.2.2] ∧ Wf3 p)
    (hv : Value.okWide P w r b0 t (.slice a len cap)) (h : DataW.trod enc P w base spare held fuel t [.slice a len cap] = some x) : ∃ l : List P3, Row3 w a len cap l ∧ ∀ p ∈ l, Wf3 p := by
  rcases Deep.open_slice ht h with ⟨h0, _⟩ | ⟨A, l, c, m, n, D, Pl, hcs, _, hl, hm, hmm, _, hx⟩
  · simp at h0
    obtain ⟨rfl, rfl, rfl⟩ := h0
    exact ⟨[], ⟨Rd.nil _ _, rfl, Nat.le_refl _, Nat.zero_le _, fun b hb => by cases hb⟩, by simp⟩
  · simp at hcs
    obtain ⟨rfl, rfl, rfl⟩ := hcs
    have hlm : len ≤ m := by rw [hmm]; split <;> omega
    have each : ∀ i, ∃ p : P3, i < len → Wf3 p ∧ w.cell? (A.add (i * 3)) = some (.int .i64 p.1) ∧ w.cell? (A.add (i * 3 + 1)) = some (.int .i64 p.2.1) ∧ w.cell? (A.add (i * 3 + 2)) = some (.int .i64 p.2.2) := fun i => by
      by_cases hi : i < len
      · obtain ⟨cs', h1, h2⟩ := hx i (Nat.lt_of_lt_of_le hi hlm)
        rw [hC] at h1
        obtain ⟨_, hlen, hcell⟩ := World.cells?_some h1
        obtain ⟨c, rfl, hw⟩ := h3 h2
        refine ⟨c, fun _ => ⟨hw, ?_⟩⟩
        have e0 := hcell 0 (by omega)
        have e1 := hcell 1 (by omega)
        have e2 := hcell 2 (by omega)
        rw [Deep.add_add] at e0 e1 e2
        exact ⟨e0, e1, e2⟩
      · exact ⟨(0, 0, 0), fun h => absurd h hi⟩
    obtain ⟨f, hf⟩ := Classical.skolem.1 each
    refine ⟨(List.range len).map f, ⟨?_, by simp, hl, hm, fun b hb => ?_⟩, fun p hp => ?_⟩
    · intro hne
      have h0 : 0 < len := by
        rcases Nat.eq_zero_or_pos len with e | e
        · subst e; simp [is3] at hne
        · exact e
      have hz := (hf 0 h0).2.1
      obtain ⟨xb, xo, xs⟩ := A
      have hs : xs = none := by simpa [Addr.add] using World.cell?_spot hz
      subst hs
      refine ⟨xb, xo, rfl, is3_read _ xo fun i hi => ?_⟩
      have hi' : i < len := by simpa using hi
      have := (hf i hi').2
      simp only [add_lit] at this
      simp only [List.getElem_map, List.getElem_range]
      exact this
    · have := okWide_blk ht hv
      simp [blkOf] at hb
      omega
    · obtain ⟨i, hi, rfl⟩ := List.mem_map.1 hp
      exact (hf i (List.mem_range.1 hi)).1
set_option maxRecDepth 100000 in
theorem open_pts {H : Type} {enc : TypeId × Value → H} {w : World} {base fuel b0 : Nat} {spare : Nat → Bool} {held : Bool} {r : Reach} {a : Option Addr} {len cap : Nat} {x : DataW H × List MemPlace}
    (hv : Value.okWide Tryz.prog w r b0 22 (.slice a len cap)) (h : DataW.trod enc Tryz.prog w base spare held fuel 22 [.slice a len cap] = some x) : ∃ l : List P3, Row3 w a len cap l ∧ ∀ p ∈ l, Wf3 p :=
  open_3s Tryz.underlying22 (by kernel_rfl) (fun h => trod_i3 Tryz.underlying40 (by kernel_rfl) rfl rfl rfl Tryz.underlying3 Tryz.underlying3 Tryz.underlying3 (by kernel_rfl) (by kernel_rfl) (by kernel_rfl) h) hv h
set_option maxRecDepth 100000 in
theorem open_sps {H : Type} {enc : TypeId × Value → H} {w : World} {base fuel b0 : Nat} {spare : Nat → Bool} {held : Bool} {r : Reach} {a : Option Addr} {len cap : Nat} {x : DataW H × List MemPlace}
    (hv : Value.okWide Tryz.prog w r b0 23 (.slice a len cap)) (h : DataW.trod enc Tryz.prog w base spare held fuel 23 [.slice a len cap] = some x) : ∃ l : List P3, Row3 w a len cap l ∧ ∀ p ∈ l, Wf3 p :=
  open_3s Tryz.underlying23 (by kernel_rfl) (fun h => trod_i3 Tryz.underlying42 (by kernel_rfl) rfl rfl rfl Tryz.underlying3 Tryz.underlying3 Tryz.underlying3 (by kernel_rfl) (by kernel_rfl) (by kernel_rfl) h) hv h
end Go.Proofs.YthjnecicagmdeaaGreat
