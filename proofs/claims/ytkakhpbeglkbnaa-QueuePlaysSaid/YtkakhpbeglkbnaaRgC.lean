/-
  The ring's cut: who stands at i goes, those behind come nearer. Conditions: the ring's cells are known, at most 65536 wait.
-/
import Derived.Test.YtkakhpbeglkbnaaRgB
namespace Go.Proofs.Ytkakhpbeglkbnaa
open Go.RowKit Go.Al Go.Al.Rg
set_option linter.unusedVariables false
attribute [local go_sem ↓] Go.wp_at_zero Go.wp_at_succ

theorem far_off (b i j : Nat) (h : i ≠ j) : ∀ (W : World) (v : Value), (W.setCell ⟨b, i, none⟩ v).cell? ⟨b, j, none⟩ = W.cell? ⟨b, j, none⟩ := fun W v => World.cell?_setCell_other W _ _ v fun e => h (by cases e; rfl)

theorem Rgm.pop {w : World} {g most a ga : Nat} {x : Int} {q P : List Int} (h : Rgm w g most (x :: q) (some ⟨ga, 0, none⟩) P a) :
    Rgm (((w.setCell ⟨ga, a, none⟩ (.int .i64 0)).setCell ⟨g, 1, none⟩ (.int .i64 ((a + 1) % P.length : Nat))).setCell ⟨g, 2, none⟩ (.int .i64 (q.length : Nat))) g most q (some ⟨ga, 0, none⟩) (P.set a 0) ((a + 1) % P.length) := by
  obtain ⟨ga', e, hb, ha, _⟩ := h.first
  cases e
  have hgn := h.ne hb
  have hql : (x :: q).length ≤ P.length := h.2.2.2.1
  have hne : P ≠ [] := fun e => by rw [e] at ha; simp at ha
  refine ⟨?_, fun _ => ⟨ga, rfl, ?_, by rw [List.length_set]; exact mod_lt' ha⟩, fun e => absurd (by rw [← List.length_eq_zero_iff] at e ⊢; rw [List.length_set] at e; exact e) hne, ?_, ?_, ?_, ?_⟩
  · have := ((h.1.far (p := ⟨ga, a, none⟩) (Ne.symm hgn) (.int .i64 0)).set_ 1 (.int .i64 ((a + 1) % P.length : Nat))).set_ 2 (.int .i64 (q.length : Nat))
    simpa using this
  · have := ((hb.set_ a (.int .i64 0)).far (p := ⟨g, 1, none⟩) hgn (.int .i64 ((a + 1) % P.length : Nat))).far (p := ⟨g, 2, none⟩) hgn (.int .i64 (q.length : Nat))
    rw [is_set] at this
    exact this
  · simp at hql ⊢; omega
  · exact h.2.2.2.2.1.tail ha hql 0
  · have := h.2.2.2.2.2.1; simp at this; omega
  · rw [List.length_set]; exact h.2.2.2.2.2.2

set_option maxRecDepth 100000 in
set_option maxHeartbeats 2000000 in
theorem cut_first (g most a : Nat) (x : Int) (q P : List Int) (A : Option Addr) (w : World) (hr : Rgm w g most (x :: q) A P a) (hm : most ≤ 65536) :
    Calls Try.prog 37 #[.pointer (some ⟨g, 0, none⟩), .int .i64 0] w fun e w' => e = .returned (.tuple #[]) ∧ ∃ P' a', Rgm w' g most q A P' a' ∧ Chg (fun k => k = g ∨ blkOf A = some k) w w' := by
  obtain ⟨ga, rfl, hb, ha, hcell⟩ := hr.first
  have hgn := hr.ne hb
  have hk0 := hr.1.cell 0
  have hk1 := hr.1.cell 1
  have hk2 : w.cell? ⟨g, 2, none⟩ = some (.int .i64 ((q.length : Int) + 1)) := by rw [hr.1.cell]; simp
  have hf := hr.1.frozen
  have hfa := hb.frozen a
  have hqm : q.length + 1 ≤ most := hr.2.2.2.2.2.1
  have hPl : P.length ≤ 2 * most + 1 := hr.2.2.2.2.2.2
  have hpm := pmod a 1 P.length
  have Hpm := hide hpm
  have Hpop := hide (fun (w : World) (h : Rgm w g most (x :: q) (some ⟨ga, 0, none⟩) P a) => h.pop)
  have Hr := hide hr
  clear hr hb hpm
  generalize (a + 1) % P.length = p at *
  have i0 : (0 : Int) ≤ (a : Int) := by omega
  have i1 : (a : Int) < (P.length : Int) := by omega
  have n0 := far_cell ga a g 0 hgn
  have n1 := far_cell ga a g 1 hgn
  have n2 := far_cell ga a g 2 hgn
  go_enter Try.func37, Try.ntmps37
  go_wp2_with fail
  go_region_held3 (fun w' => w'.cell? ⟨g, 0, none⟩ = some (.slice (some ⟨ga, 0, none⟩) P.length P.length) ∧ w'.cell? ⟨g, 1, none⟩ = some (.int .i64 a)) (go_keep) (fail)
  go_wp2_with fail
  generalize hw1 : (w.setCell ⟨ga, a, none⟩ (.int .i64 0)).drew = w1
  have Hw1 := hide hw1
  have k0 : w1.cell? ⟨g, 0, none⟩ = _ := (by rw [← hw1]; exact n0 w _ : w1.cell? ⟨g, 0, none⟩ = w.cell? ⟨g, 0, none⟩).trans hk0
  have k1 : w1.cell? ⟨g, 1, none⟩ = _ := (by rw [← hw1]; exact n1 w _ : w1.cell? ⟨g, 1, none⟩ = w.cell? ⟨g, 1, none⟩).trans hk1
  have k2 : w1.cell? ⟨g, 2, none⟩ = _ := (by rw [← hw1]; exact n2 w _ : w1.cell? ⟨g, 2, none⟩ = w.cell? ⟨g, 2, none⟩).trans hk2
  have f1 : w1.frozen? ⟨g, 1, none⟩ = _ := (by rw [← hw1]; simp : w1.frozen? ⟨g, 1, none⟩ = w.frozen? ⟨g, 1, none⟩).trans (hf 1)
  have f2 : w1.frozen? ⟨g, 2, none⟩ = _ := (by rw [← hw1]; simp : w1.frozen? ⟨g, 2, none⟩ = w.frozen? ⟨g, 2, none⟩).trans (hf 2)
  clear hw1 n0 n1 n2 hk0 hk1 hk2
  have hF := place_any g P.length P.length a 1 p _ w1 k0 k1 (by omega) (by omega) (by omega) (by omega) (by simpa using Hpm.out)
  refine hF.mono ?_
  clear hF
  rintro e w' ⟨rfl, k, rfl⟩
  go_wp2_with fail
  refine bodyPost_ret (results_none rfl _ _ _) rfl ⟨rfl, _, _, (by rw [← Hw1.out]; exact Hpop.out w Hr.out), ?_⟩
  have h0 : Chg (fun k => k = g ∨ blkOf (some ⟨ga, 0, none⟩) = some k) w w1 := by rw [← Hw1.out]; exact ((Chg.refl _ w).setCell (p := ⟨ga, a, none⟩) (.inl (.inr rfl)) _).drew
  exact ((h0.drewN k).setCell (p := ⟨g, 1, none⟩) (.inl (.inl rfl)) _).setCell (p := ⟨g, 2, none⟩) (.inl (.inl rfl)) _

theorem Rgm.shift {w : World} {g most a ga j : Nat} {q P : List Int} (h : Rgm w g most q (some ⟨ga, 0, none⟩) P a) (hj : j + 1 < q.length) :
    Rgm (w.setCell ⟨ga, (a + j) % P.length, none⟩ (.int .i64 (q.getD (j + 1) 0))) g most (q.set j (q.getD (j + 1) 0)) (some ⟨ga, 0, none⟩) (P.set ((a + j) % P.length) (q.getD (j + 1) 0)) a := by
  have hql : q.length ≤ P.length := h.2.2.2.1
  have hne : P ≠ [] := fun e => by rw [e] at hql; simp at hql; rw [hql] at hj; simp at hj
  obtain ⟨ga', e, hb, ha⟩ := h.2.1 hne
  cases e
  have hgn := h.ne hb
  refine ⟨?_, fun _ => ⟨ga, rfl, ?_, by rw [List.length_set]; exact ha⟩, fun e => absurd (by rw [← List.length_eq_zero_iff] at e ⊢; rw [List.length_set] at e; exact e) hne, ?_, ?_, ?_, ?_⟩
  · have := h.1.far (p := ⟨ga, (a + j) % P.length, none⟩) (Ne.symm hgn) (.int .i64 (q.getD (j + 1) 0))
    rw [List.length_set, List.length_set]
    exact this
  · have := hb.set_ ((a + j) % P.length) (.int .i64 (q.getD (j + 1) 0))
    rw [is_set] at this
    exact this
  · rw [List.length_set, List.length_set]; exact hql
  · exact h.2.2.2.2.1.shift ha hql hj
  · rw [List.length_set]; exact h.2.2.2.2.2.1
  · rw [List.length_set]; exact h.2.2.2.2.2.2
theorem Rgm.last {w : World} {g most a ga : Nat} {x : Int} {q P : List Int} (h : Rgm w g most (q ++ [x]) (some ⟨ga, 0, none⟩) P a) :
    Rgm ((w.setCell ⟨ga, (a + q.length) % P.length, none⟩ (.int .i64 0)).setCell ⟨g, 2, none⟩ (.int .i64 (q.length : Nat))) g most q (some ⟨ga, 0, none⟩) (P.set ((a + q.length) % P.length) 0) a := by
  have hql : (q ++ [x]).length ≤ P.length := h.2.2.2.1
  have hne : P ≠ [] := fun e => by rw [e] at hql; simp at hql
  obtain ⟨ga', e, hb, ha⟩ := h.2.1 hne
  cases e
  have hgn := h.ne hb
  refine ⟨?_, fun _ => ⟨ga, rfl, ?_, by rw [List.length_set]; exact ha⟩, fun e => absurd (by rw [← List.length_eq_zero_iff] at e ⊢; rw [List.length_set] at e; exact e) hne, ?_, ?_, ?_, ?_⟩
  · have := (h.1.far (p := ⟨ga, (a + q.length) % P.length, none⟩) (Ne.symm hgn) (.int .i64 0)).set_ 2 (.int .i64 (q.length : Nat))
    rw [List.length_set]
    simpa using this
  · have := (hb.set_ ((a + q.length) % P.length) (.int .i64 0)).far (p := ⟨g, 2, none⟩) hgn (.int .i64 (q.length : Nat))
    rw [is_set] at this
    exact this
  · simp at hql ⊢; omega
  · exact h.2.2.2.2.1.last ha hql
  · have := h.2.2.2.2.2.1; simp at this; omega
  · rw [List.length_set]; exact h.2.2.2.2.2.2

set_option maxRecDepth 100000 in
set_option maxHeartbeats 4000000 in
theorem cut_later (g most a i : Nat) (q P : List Int) (A : Option Addr) (w : World) (hr : Rgm w g most q A P a) (hm : most ≤ 65536) (hi0 : 0 < i) (hi : i < q.length) :
    Calls Try.prog 37 #[.pointer (some ⟨g, 0, none⟩), .int .i64 i] w fun e w' => e = .returned (.tuple #[]) ∧ ∃ P' a', Rgm w' g most (q.eraseIdx i) A P' a' ∧ Chg (fun k => k = g ∨ blkOf A = some k) w w' := by
  have hqP : q.length ≤ P.length := hr.2.2.2.1
  have hne : P ≠ [] := fun e => by rw [e] at hqP; simp at hqP; rw [hqP] at hi; simp at hi
  obtain ⟨ga, rfl, _, _⟩ := hr.2.1 hne
  have hqm : q.length ≤ most := hr.2.2.2.2.2.1
  have hPl : P.length ≤ 2 * most + 1 := hr.2.2.2.2.2.2
  have hib : ((i : Int) == 0) = false := by simp; omega
  obtain ⟨pl, hpl⟩ : ∃ pl, pl = P.length := ⟨_, rfl⟩
  have Hpl := hide hpl
  rw [← hpl] at hqP hPl
  have Hr := hide hr
  clear hr hne hpl
  go_enter Try.func37, Try.ntmps37
  go_wp2_with fail
  go_loopg [1] (q.length - i) (fun k vi wr => ∃ (j : Nat) (Pj : List Int), i ≤ j ∧ j + 1 ≤ q.length ∧ k + j = q.length ∧ vi = .int .i64 j ∧ Rgm wr g most (shifted q i j) (some ⟨ga, 0, none⟩) Pj a ∧ Pj.length = pl ∧ Chg (fun k => k = g ∨ blkOf (some ⟨ga, 0, none⟩) = some k) w wr)
  case atStart => exact ⟨i, P, Nat.le_refl _, hi, by omega, rfl, by rw [shifted_start]; exact Hr.out, Hpl.out.symm, Chg.refl _ _⟩
  case round =>
    obtain ⟨j, Pj, hij, hj, hkk, rfl, hr, hPj, hchg⟩ := hrel
    have Hk := hide hkk
    have Hchg := hide hchg
    have HPj := hide hPj
    have hsl := shifted_length q hij (show j < q.length by omega)
    clear hkk hchg
    have hne : Pj ≠ [] := fun e => by rw [e] at hPj; simp at hPj; omega
    obtain ⟨ga', e, hb, ha⟩ := hr.2.1 hne
    cases e
    rw [hPj] at ha
    have hgn := hr.ne hb
    have hk0 : wr.cell? ⟨g, 0, none⟩ = some (.slice (some ⟨ga, 0, none⟩) pl pl) := by rw [hr.1.cell, ← hPj]; rfl
    have hk1 := hr.1.cell 1
    have hk2 : wr.cell? ⟨g, 2, none⟩ = some (.int .i64 (q.length : Nat)) := by rw [hr.1.cell, ← hsl]; rfl
    have hf2 := hr.1.frozen 2
    by_cases hlt : j + 1 < q.length
    · have hp0 : (a + j) % pl < pl := mod_lt' ha
      have hp1 : (a + (j + 1)) % pl < pl := mod_lt' ha
      have hpn : (a + j) % pl ≠ (a + (j + 1)) % pl := mod_ne ha (by omega) (by omega) (by omega)
      have hc1 : wr.cell? ⟨ga, (a + (j + 1)) % pl, none⟩ = some (.int .i64 (q.getD (j + 1) 0)) := by
        rw [hb.cell]
        have h1 := hr.2.2.2.2.1 (j + 1) (by rw [hsl]; exact hlt)
        rw [hPj, shifted_get q hij (by omega) (by omega)] at h1
        simp [is, h1, hlt, List.getD_eq_getElem?_getD]
      have hc0 : wr.cell? ⟨ga, (a + j) % pl, none⟩ = some (.int .i64 (Pj.getD ((a + j) % pl) 0)) := by
        rw [hb.cell]; exact is_at (by rw [hPj]; exact hp0)
      have hf0 : wr.frozen? ⟨ga, (a + j) % pl, none⟩ = false := hb.frozen _
      have hpm0 := pmod a j pl
      have hpm1 := pmod a (j + 1) pl
      have hsh := hr.shift (j := j) (by rw [hsl]; exact hlt)
      have hgd : (shifted q i j).getD (j + 1) 0 = q.getD (j + 1) 0 := by
        rw [List.getD_eq_getElem?_getD, List.getD_eq_getElem?_getD, shifted_get q hij (by omega) (by omega)]
      rw [hgd, shifted_step q hij hlt, hPj] at hsh
      have Hsh := hide hsh
      have Hpm0 := hide hpm0
      have Hpm1 := hide (show ((a : Int) + ((j : Int) + 1)) % (pl : Int) = (((a + (j + 1)) % pl : Nat) : Int) from by rw [← hpm1]; rfl)
      clear hr hb hpm0 hpm1 hsh hgd hsl hne hPj
      generalize q.getD (j + 1) 0 = x at *
      generalize Pj.getD ((a + j) % pl) 0 = y at *
      generalize (a + j) % pl = p0 at *
      generalize (a + (j + 1)) % pl = p1 at *
      have i0 : (0 : Int) ≤ (p0 : Int) := by omega
      have i1 : (p0 : Int) < (pl : Int) := by omega
      have i2 : (0 : Int) ≤ (p1 : Int) := by omega
      have i3 : (p1 : Int) < (pl : Int) := by omega
      have n0 := far_cell ga p0 g 0 hgn
      have n1 := far_cell ga p0 g 1 hgn
      have n2 := far_off ga p0 p1 hpn
      go_wp2_with fail
      have o1 : pl ≤ 1048576 := by omega
      have o2 : (0 : Int) ≤ (j : Int) := by omega
      have o3 : (j : Int) ≤ 1048576 := by omega
      have o4 : (0 : Int) ≤ (j : Int) + 1 := by omega
      have o5 : (j : Int) + 1 ≤ 1048576 := by omega
      have hwr : IntKind.i64.wrap ((j : Int) + 1) = (j : Int) + 1 := IntWalk.i64_in _ (by omega)
      go_region_held3 (fun w' => w'.cell? ⟨g, 0, none⟩ = some (.slice (some ⟨ga, 0, none⟩) pl pl) ∧ w'.cell? ⟨g, 1, none⟩ = some (.int .i64 a) ∧ w'.cell? ⟨ga, p1, none⟩ = some (.int .i64 x)) (go_keep)
        (first
         | (go_at_call_of 36 (Value.int IntKind.i64 (j : Int)); (refine (place_any g pl pl a j p0 _ _ (by assumption) (by assumption) ha o1 o2 o3 Hpm0.out).mono ?_; rintro e w' ⟨rfl, k, rfl⟩))
         | (go_at_call 36; refine (place_any g pl pl a ((j : Int) + 1) p1 _ _ (by assumption) (by assumption) ha o1 o4 o5 Hpm1.out).mono ?_; rintro e w' ⟨rfl, k', rfl⟩))
      clear n0 n1 n2 hwr
      go_wp2_with fail
      go_roundg (q.length - (j + 1))
      case measure => have := Hk.out; omega
      case rel =>
        refine ⟨j + 1, _, by omega, by omega, by omega, by go_num, Hsh.out, by rw [List.length_set]; exact HPj.out, ?_⟩
        exact ((Hchg.out.drewN _).setCell (p := ⟨ga, p0, none⟩) (.inl (.inr rfl)) _)
    · have hjq : j = q.length - 1 := by omega
      subst hjq
      obtain ⟨x, hx⟩ := shifted_end q hi
      rw [hx] at hr
      have hel : (q.eraseIdx i).length = q.length - 1 := by rw [List.length_eraseIdx, if_pos hi]
      have hlast := hr.last
      rw [hel, hPj] at hlast
      have hp0 : (a + (q.length - 1)) % pl < pl := mod_lt' ha
      have hc0 : wr.cell? ⟨ga, (a + (q.length - 1)) % pl, none⟩ = some (.int .i64 (Pj.getD ((a + (q.length - 1)) % pl) 0)) := by
        rw [hb.cell]; exact is_at (by rw [hPj]; exact hp0)
      have hf0 : wr.frozen? ⟨ga, (a + (q.length - 1)) % pl, none⟩ = false := hb.frozen _
      have hpm0 := pmod a (q.length - 1) pl
      obtain ⟨n, hn⟩ : ∃ n, q.length = n + 1 := ⟨q.length - 1, by omega⟩
      have hn1 : q.length - 1 = n := by omega
      rw [hn1] at hlast hp0 hc0 hf0 hpm0 hlt hel
      rw [hn1]
      have Hlast := hide hlast
      have Hpm0 := hide hpm0
      have Hn := hide hn
      clear hr hb hpm0 hlast hsl hne hPj hx hel
      generalize Pj.getD ((a + n) % pl) 0 = y at *
      generalize (a + n) % pl = p0 at *
      rw [hn] at hk2 hqm hqP
      have hk2' : wr.cell? ⟨g, 2, none⟩ = some (.int .i64 ((n : Int) + 1)) := by rw [hk2]; rfl
      clear hk2
      clear hn1
      have i0 : (0 : Int) ≤ (p0 : Int) := by omega
      have i1 : (p0 : Int) < (pl : Int) := by omega
      have n0 := far_cell ga p0 g 0 hgn
      have n1 := far_cell ga p0 g 1 hgn
      have n2 := far_cell ga p0 g 2 hgn
      have o1 : pl ≤ 1048576 := by omega
      have o2 : (0 : Int) ≤ (n : Int) := by omega
      have o3 : (n : Int) ≤ 1048576 := by omega
      go_wp2_with fail
      have hwr : IntKind.i64.wrap ((n : Int) + 1 - 1) = (n : Int) := by rw [IntWalk.i64_in _ (by omega)]; omega
      have hwr2 : IntKind.i64.wrap (n : Int) = (n : Int) := IntWalk.i64_in _ (by omega)
      go_region_held3 (fun w' => w'.cell? ⟨g, 0, none⟩ = some (.slice (some ⟨ga, 0, none⟩) pl pl) ∧ w'.cell? ⟨g, 1, none⟩ = some (.int .i64 a) ∧ w'.cell? ⟨g, 2, none⟩ = some (.int .i64 ((n : Int) + 1))) (go_keep)
        (first
         | (go_at_call 36; refine (place_any g pl pl a n p0 _ _ (by assumption) (by assumption) ha o1 o2 o3 Hpm0.out).mono ?_; rintro e w' ⟨rfl, k, rfl⟩))
      clear hwr hwr2
      go_wp2_with fail
      go_end0
      refine ⟨rfl, _, _, Hlast.out.same (Same.of_drewN _ _), ?_⟩
      exact ((Hchg.out.drewN _).setCell (p := ⟨ga, p0, none⟩) (.inl (.inr rfl)) _).setCell (p := ⟨g, 2, none⟩) (.inl (.inl rfl)) _
end Go.Proofs.Ytkakhpbeglkbnaa
