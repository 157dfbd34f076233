/-
  Plain law: no order explains a count that no points and intervals have; and what a living search finds. No conditions.
-/
import Derived.Test.YtenkdjfikppkdaaGreatLnP
namespace Go.Proofs.YtenkdjfikppkdaaGreat
open Go.RowKit Go.Al
set_option linter.unusedVariables false

/-- what a search finds -/
def foundP (l : List Dd) (most : Int) : Option (List Int) := srch l most l.length [] [] []

theorem len_del3' (k : Int) (l : List P3) : (del3 k l).length ≤ l.length := List.length_filter_le _ _
theorem room_any {p s : List P3} {most : Int} (c : Cg) (h : (p.length : Int) + (s.length : Int) ≤ most) : ((doP' p s most c).length : Int) + ((doS' p s most c).length : Int) ≤ most := by
  unfold doP' doS'
  by_cases hm : mayE p s most c = 0
  · rw [if_pos hm, if_pos hm]
    obtain ⟨hk, hadd, hdrop, _⟩ := may_zero hm
    obtain ⟨k, q, x⟩ := c
    simp only at hk
    rcases hk with rfl | rfl | rfl | rfl
    · obtain ⟨h1, h2⟩ := hadd rfl
      have h3 : hasK p q.1 = false := h1
      show ((put3 q p).length : Int) + (s.length : Int) ≤ most
      rw [len_put3 h3]; omega
    · have := len_del3' q.1 p
      show ((del3 q.1 p).length : Int) + (s.length : Int) ≤ most
      omega
    · obtain ⟨h1, h2⟩ := hadd rfl
      have h3 : hasK s x.1 = false := h1
      show (p.length : Int) + ((put3 x s).length : Int) ≤ most
      rw [len_put3 h3]; omega
    · have := len_del3' x.1 s
      show (p.length : Int) + ((del3 x.1 s).length : Int) ≤ most
      omega
  · rw [if_neg hm, if_neg hm]; exact h
theorem room_does {p s : List P3} {most : Int} (r : Rq) (h : (p.length : Int) + (s.length : Int) ≤ most) : ((doesP r p s most).length : Int) + ((doesS r p s most).length : Int) ≤ most := by
  unfold doesP doesS
  cases goodR r && decide (r.k = 1)
  · exact h
  · exact room_any r.c h
theorem ids_len (q : Qy) (p s : List P3) : (idsOf q p s).length ≤ p.length + s.length := by
  unfold idsOf
  split
  · rw [List.length_map]; exact Nat.le_trans (List.length_filter_le _ _) (by omega)
  · rw [List.length_map]; exact Nat.le_trans (List.length_filter_le _ _) (by omega)

/-- a query that counts, told more than there can be -/
structure Wrong (d : Dd) : Prop where
  must : 0 ≤ d.rp
  kind : d.r.k = 2
  asked : d.t.asked = true
  many : 50 < d.t.n
theorem wrong_tells {d : Dd} (h : Wrong d) {p s : List P3} (hr : (p.length : Int) + (s.length : Int) ≤ 50) : tellsB p s 50 d = false := by
  unfold tellsB mustD
  rw [decide_eq_true h.must]
  cases ht : (decide (doesE d.r = 0) && if true = true then sameA (doesA d.r p s 50) d.t.ans else decide ((doesA d.r p s 50).e = 0)) with
  | false => rfl
  | true =>
    exfalso
    simp only [if_true, Bool.and_eq_true, decide_eq_true_eq] at ht
    obtain ⟨hE, hs⟩ := ht
    have hg : goodR d.r = true := by
      unfold doesE at hE
      split at hE
      · assumption
      · cases hE
    have hk : ¬ d.r.k = 1 := by rw [h.kind]; decide
    have hd : doesA d.r p s 50 = told d.r.q p s := by unfold doesA; rw [hg, if_pos rfl, if_neg hk]
    rw [hd] at hs
    unfold sameA Rp.ans at hs
    simp only [Bool.and_eq_true, decide_eq_true_eq, beq_iff_eq] at hs
    obtain ⟨_, h2, _, h4, _⟩ := hs
    have hi := ids_len d.r.q p s
    have hm := h.many
    unfold told at h2 h4
    split at h4
    · split at h4
      · simp only at h4; omega
      · simp only at h4; omega
    · rename_i hc
      rw [if_neg hc] at h2
      rw [h.asked] at h2
      cases h2
theorem wrong_none {l : List Dd} {i : Nat} (hi : i < l.length) (h : Wrong l[i]) : ∀ (f : Nat) (p s : List P3) (done : List Int), (p.length : Int) + (s.length : Int) ≤ 50 → hasI done i = false → srch l 50 f p s done = none := by
  have hex : ∀ done, hasI done i = false → explainsB l done = false := fun done hn => by
    unfold explainsB
    rw [List.all_eq_false]
    refine ⟨i, List.mem_range.2 hi, ?_⟩
    unfold leftB mustD
    rw [List.getElem?_eq_getElem hi]
    simp [h.must, hn]
  intro f
  induction f with
  | zero => intro p s done hr hn; simp [srch, hex done hn]
  | succ f ih =>
    intro p s done hr hn
    simp only [srch, hex done hn, Bool.false_eq_true, if_false]
    rw [List.findSome?_eq_none_iff]
    intro x hx
    obtain ⟨k, hk, rfl, hfr⟩ := mem_allL.1 hx
    rw [Int.toNat_natCast, List.getElem?_eq_getElem hk]
    simp only
    cases ht : tellsB p s 50 l[k] with
    | false => rfl
    | true =>
      rw [if_pos rfl]
      have hki : ¬ k = i := fun e => by
        subst e
        rw [wrong_tells h hr] at ht
        cases ht
      refine ih _ _ _ (room_does _ hr) ?_
      cases hh : hasI (done ++ [(k : Int)]) i with
      | false => rfl
      | true =>
        rw [hasI_iff, List.mem_append] at hh
        rcases hh with hh | hh
        · rw [hasI_iff.2 hh] at hn; cases hn
        · simp at hh; omega
def addD : Dd := ⟨0, -1, 3, -1, -1, 0, ⟨1, ⟨1, (1, 0, 0), (0, 0, 0)⟩, ⟨0, 0, 0, 0, 0, 0, 0, 0, 0, 0⟩⟩, ⟨0, false, false, 0, none, 0, []⟩⟩
def askD : Dd := ⟨0, -1, 2, -1, -1, 0, ⟨2, ⟨0, (0, 0, 0), (0, 0, 0)⟩, ⟨2, 0, 0, 0, 0, 0, 0, 0, 0, 0⟩⟩, ⟨0, true, false, 1, none, 0, []⟩⟩
theorem lives_found : foundP [askD, addD] 5 = some [1, 0] := by decide +kernel
end Go.Proofs.YtenkdjfikppkdaaGreat
