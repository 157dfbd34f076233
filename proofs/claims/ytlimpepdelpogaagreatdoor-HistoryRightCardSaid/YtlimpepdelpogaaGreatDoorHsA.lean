/-
  Replies: reply.Changed, reply.Told, reply.Same. Condition: lists of at most 1048576 ids.
-/
import Derived.Test.YtlimpepdelpogaaGreatDoorQyE
namespace Go.Proofs.YtlimpepdelpogaaGreatDoor
open Go.RowKit Go.Al
set_option linter.unusedVariables false
set_option maxHeartbeats 16000000
set_option maxRecDepth 100000
theorem Blk.put5 {w : World} {g : Nat} {t : TypeId} {b0 b1 b2 b3 b4 : Value} (h : Blk w g t #[b0, b1, b2, b3, b4]) (u0 u1 u2 u3 u4 : Value) : Blk (((((w.setCell ⟨g, 0, none⟩ u0).setCell ⟨g, 1, none⟩ u1).setCell ⟨g, 2, none⟩ u2).setCell ⟨g, 3, none⟩ u3).setCell ⟨g, 4, none⟩ u4) g t #[u0, u1, u2, u3, u4] := by
  have := ((((h.set_ 0 u0).set_ 1 u1).set_ 2 u2).set_ 3 u3).set_ 4 u4
  simpa using this
theorem Chg.put5 {S : Nat → Prop} {a w : World} {g : Nat} (h : Chg S a w) (hg : S g ∨ a.heap.size ≤ g) (u0 u1 u2 u3 u4 : Value) : Chg S a (((((w.setCell ⟨g, 0, none⟩ u0).setCell ⟨g, 1, none⟩ u1).setCell ⟨g, 2, none⟩ u2).setCell ⟨g, 3, none⟩ u3).setCell ⟨g, 4, none⟩ u4) :=
  ((((h.setCell (p := ⟨g, 0, none⟩) hg u0).setCell (p := ⟨g, 1, none⟩) hg u1).setCell (p := ⟨g, 2, none⟩) hg u2).setCell (p := ⟨g, 3, none⟩) hg u3).setCell (p := ⟨g, 4, none⟩) hg u4
theorem Rd.put5 {w : World} {g : Nat} {A : Option Addr} {xs : List Value} (h : Rd w A xs) (hA : blkOf A ≠ some g) (u0 u1 u2 u3 u4 : Value) : Rd (((((w.setCell ⟨g, 0, none⟩ u0).setCell ⟨g, 1, none⟩ u1).setCell ⟨g, 2, none⟩ u2).setCell ⟨g, 3, none⟩ u3).setCell ⟨g, 4, none⟩ u4) A xs :=
  ((((h.setCell (p := ⟨g, 0, none⟩) hA u0).setCell (p := ⟨g, 1, none⟩) hA u1).setCell (p := ⟨g, 2, none⟩) hA u2).setCell (p := ⟨g, 3, none⟩) hA u3).setCell (p := ⟨g, 4, none⟩) hA u4
theorem changed_any (c : Int) (w : World) :
    Calls Tryz.prog 51 #[.int .i64 c] w fun e w' => e = .returned (.agg #[.int .i64 c, .bool false, .bool false, .int .i64 0, .slice none 0 0]) ∧ Same w w' := by
  go_enter Tryz.func51, Tryz.ntmps51
  go_wp2_with fail
  exact bodyPost_ret (results_cell_row rfl _ _ _ _ _ _ _ rfl (Blk.new w 43 _) Tryz.underlying43 rfl (by kernel_rfl)) rfl ⟨rfl, (Chg.refl _ w).alloc _⟩
theorem rsame_any (a b : Rp) (w : World) (ha : RpAt w a) (hb : RpAt w b) :
    Calls Tryz.prog 38 #[rpV a, rpV b] w fun e w' => e = .returned (.bool (sameA a.ans b.ans)) ∧ Same w w' := by
  have Hs := hide (((Chg.refl (fun _ => False) w).alloc (.cells (rpL a).toArray 43)).alloc (.cells (rpL b).toArray 43))
  have HE := hide (fun w' (hs : Same w w') => equal_any (c := a.cp) (d := b.cp) a.ids b.ids w' (ha.rd.same hs) (hb.rd.same hs) (Nat.le_trans ha.le ha.cp) (Nat.le_trans hb.le hb.cp))
  obtain ⟨e1, as1, li1, n1, A1, c1, l1⟩ := a
  obtain ⟨e2, as2, li2, n2, A2, c2, l2⟩ := b
  unfold rpV sameA Rp.ans
  simp only [rpL] at Hs HE ⊢
  clear ha hb
  obtain ⟨v, hv⟩ : ∃ v, (decide (e1 = e2) && (as1 == as2 && (li1 == li2 && (decide (n1 = n2) && l1 == l2)))) = v := ⟨_, rfl⟩
  rw [hv]
  have HV := hide hv
  clear hv
  by_cases h1 : e1 = e2
  · subst h1
    cases h2 : (as1 == as2)
    · go_enter Tryz.func38, Tryz.ntmps38
      go_wp2_with fail
      go_ret
      exact ⟨by rw [← HV.out, h2]; simp, Hs.out⟩
    · cases h3 : (li1 == li2)
      · go_enter Tryz.func38, Tryz.ntmps38
        go_wp2_with fail
        go_ret
        exact ⟨by rw [← HV.out, h3]; simp, Hs.out⟩
      · by_cases h4 : n1 = n2
        · subst h4
          go_enter Tryz.func38, Tryz.ntmps38
          go_wp2_with (go_at_call 69; refine (HE.out _ Hs.out).mono ?_; rintro e w' ⟨rfl, hs⟩; have Hs2 := hide hs; clear hs)
          go_ret
          refine ⟨by rw [← HV.out]; simp [h2, h3, eqI]; rw [Bool.eq_iff_iff]; simp, Hs.out.same Hs2.out⟩
        · go_enter Tryz.func38, Tryz.ntmps38
          go_wp2_with fail
          go_ret
          exact ⟨by rw [← HV.out]; simp [h4], Hs.out⟩
  · go_enter Tryz.func38, Tryz.ntmps38
    go_wp2_with fail
    go_ret
    exact ⟨by rw [← HV.out]; simp [h1], Hs.out⟩
theorem told_bad {A : Option Addr} {n c : Nat} (q : Qy) (N E : Int) (w : World) (hE : ¬ E = 0) :
    Calls Tryz.prog 53 #[qV q, .agg #[.int .i64 N, .slice A n c], .int .i64 E] w fun e w' => e = .returned (.agg #[.int .i64 E, .bool false, .bool false, .int .i64 0, .slice none 0 0]) ∧ Same w w' := by
  have Hs := hide ((((Chg.refl (fun _ => False) w).alloc (.cells (qL q).toArray 35)).alloc (.cells #[.int .i64 N, .slice A n c] 41)).alloc (.cells #[.int .i64 E, .bool false, .bool false, .int .i64 0, .slice none 0 0] 43))
  have HB := hide (Blk.new ((w.alloc (.cells (qL q).toArray 35)).alloc (.cells #[.int .i64 N, .slice A n c] 41)) 43 #[.int .i64 E, .bool false, .bool false, .int .i64 0, .slice none 0 0])
  obtain ⟨k, a, b, c', d, e, f, g, x, h⟩ := q
  unfold qV
  simp only [qL] at Hs HB ⊢
  go_enter Tryz.func53, Tryz.ntmps53
  go_wp2_with fail
  refine bodyPost_ret (results_cell_row rfl _ _ _ _ _ _ _ (by simp) HB.out Tryz.underlying43 rfl (by kernel_rfl)) rfl ⟨rfl, Hs.out⟩
/-- how Told ends, of a query that may be -/
def ToldEnd (w : World) (N : Int) (cb : Bool) (l : List Int) (e : Ending) (w' : World) : Prop :=
  ∃ A' c', e = .returned (.agg #[.int .i64 0, .bool true, .bool (!cb), .int .i64 N, .slice A' (if cb then [] else l).length c']) ∧
      Rd w' A' (is (if cb then [] else l)) ∧ (if cb then [] else l).length ≤ c' ∧ c' ≤ maxLen ∧ Same w w' ∧ ∀ b, blkOf A' = some b → w.heap.size ≤ b
theorem told_ok {A : Option Addr} {c : Nat} {l : List Int} (q : Qy) (N : Int) (w : World) (hr : Rd w A (is l)) (hl : l.length ≤ 1048576) :
    Calls Tryz.prog 53 #[qV q, .agg #[.int .i64 N, .slice A l.length c], .int .i64 0] w (ToldEnd w N (countsB q) l) := by
  have HC := hide (Counts_any q)
  have hw2 : Same w (((w.alloc (.cells (qL q).toArray 35)).alloc (.cells #[.int .i64 N, .slice A l.length c] 41)).alloc (.cells #[.int .i64 0, .bool false, .bool false, .int .i64 0, .slice none 0 0] 43)) :=
    (((Chg.refl (fun _ => False) w).alloc _).alloc _).alloc _
  have hq := ((Blk.new w 35 (qL q).toArray).alloc (.cells #[.int .i64 N, .slice A l.length c] 41)).alloc (.cells #[.int .i64 0, .bool false, .bool false, .int .i64 0, .slice none 0 0] 43)
  have ha := (Blk.new (w.alloc (.cells (qL q).toArray 35)) 41 #[.int .i64 N, .slice A l.length c]).alloc (.cells #[.int .i64 0, .bool false, .bool false, .int .i64 0, .slice none 0 0] 43)
  have hb := Blk.new ((w.alloc (.cells (qL q).toArray 35)).alloc (.cells #[.int .i64 N, .slice A l.length c] 41)) 43 #[.int .i64 0, .bool false, .bool false, .int .i64 0, .slice none 0 0]
  simp only [World.size_alloc] at ha hb
  have hz : (((w.alloc (.cells (qL q).toArray 35)).alloc (.cells #[.int .i64 N, .slice A l.length c] 41)).alloc (.cells #[.int .i64 0, .bool false, .bool false, .int .i64 0, .slice none 0 0] 43)).heap.size = w.heap.size + 3 := by simp
  obtain ⟨W, hW⟩ : ∃ W, (((w.alloc (.cells (qL q).toArray 35)).alloc (.cells #[.int .i64 N, .slice A l.length c] 41)).alloc (.cells #[.int .i64 0, .bool false, .bool false, .int .i64 0, .slice none 0 0] 43)) = W := ⟨_, rfl⟩
  rw [hW] at hw2 hq ha hb hz
  have Hw2 := hide hw2
  have Hq := hide hq
  have Ha := hide ha
  have Hb := hide hb
  have Hz := hide hz
  have HW := hide hW
  have Hr := hide (hr.same hw2)
  have Hl := hide hl
  clear hw2 hq ha hb hz hW hr hl
  obtain ⟨n, hn⟩ : ∃ n, l.length = n := ⟨_, rfl⟩
  have HCl := hide (fun w' (hs : Same W w') => cloneI_any (c := c) l w' (Hr.out.same hs) Hl.out)
  rw [hn] at Ha HW HCl ⊢
  have Hn := hide hn
  clear hn
  obtain ⟨k, a, b, c', d, e, f, g, x, h⟩ := q
  unfold qV at HC ⊢
  simp only [qL] at HC Hq HW ⊢
  obtain ⟨cb, hcb⟩ : ∃ cb, countsB ⟨k, a, b, c', d, e, f, g, x, h⟩ = cb := ⟨_, rfl⟩
  rw [hcb] at HC ⊢
  clear hcb
  go_enter Tryz.func53, Tryz.ntmps53
  go_wp2_with fail
  rw [HW.out]
  clear HW
  have HK : Hid (∀ w', Same W w' → (w'.cell? ⟨w.heap.size, 0, none⟩ = some (.int .i64 k) ∧ w'.cell? ⟨w.heap.size, 1, none⟩ = some (.int .i64 a) ∧ w'.cell? ⟨w.heap.size, 2, none⟩ = some (.int .i64 b) ∧ w'.cell? ⟨w.heap.size, 3, none⟩ = some (.int .i64 c') ∧ w'.cell? ⟨w.heap.size, 4, none⟩ = some (.int .i64 d) ∧ w'.cell? ⟨w.heap.size, 5, none⟩ = some (.int .i64 e) ∧ w'.cell? ⟨w.heap.size, 6, none⟩ = some (.int .i64 f) ∧ w'.cell? ⟨w.heap.size, 7, none⟩ = some (.int .i64 g) ∧ w'.cell? ⟨w.heap.size, 8, none⟩ = some (.int .i64 x) ∧ w'.cell? ⟨w.heap.size, 9, none⟩ = some (.int .i64 h) ∧ w'.cell? ⟨w.heap.size + 1, 0, none⟩ = some (.int .i64 N)) ∧ w.heap.size + 3 ≤ w'.heap.size) :=
    hide fun w' hs => by
      have h1 := (Hq.out.same hs).cell
      have h2 := (Ha.out.same hs).cell
      have h3 := hs.size
      exact ⟨⟨h1 0, h1 1, h1 2, h1 3, h1 4, h1 5, h1 6, h1 7, h1 8, h1 9, h2 0⟩, by have := Hz.out; omega⟩
  go_region_held3 (fun w' => (w'.cell? ⟨w.heap.size, 0, none⟩ = some (.int .i64 k) ∧ w'.cell? ⟨w.heap.size, 1, none⟩ = some (.int .i64 a) ∧ w'.cell? ⟨w.heap.size, 2, none⟩ = some (.int .i64 b) ∧ w'.cell? ⟨w.heap.size, 3, none⟩ = some (.int .i64 c') ∧ w'.cell? ⟨w.heap.size, 4, none⟩ = some (.int .i64 d) ∧ w'.cell? ⟨w.heap.size, 5, none⟩ = some (.int .i64 e) ∧ w'.cell? ⟨w.heap.size, 6, none⟩ = some (.int .i64 f) ∧ w'.cell? ⟨w.heap.size, 7, none⟩ = some (.int .i64 g) ∧ w'.cell? ⟨w.heap.size, 8, none⟩ = some (.int .i64 x) ∧ w'.cell? ⟨w.heap.size, 9, none⟩ = some (.int .i64 h) ∧ w'.cell? ⟨w.heap.size + 1, 0, none⟩ = some (.int .i64 N)) ∧ w.heap.size + 3 ≤ w'.heap.size)
    ((refine HK.out _ ?_; repeat (first | exact Chg.refl _ _ | exact Hs1.out | apply Chg.drew | apply Chg.alloc | refine Chg.setCell ?_ (.inr (by simp)) _)))
    (first
      | ((go_at_call 82; have hF := HC.out; refine (hF _).mono ?_; rintro e w1 ⟨rfl, hs1⟩; have hs2 : Same (W.drew.alloc (.cells #[.int .i64 0, .bool false, .bool false, .int .i64 0, .slice none 0 0] 43)) w1 := hs1; have hk7 : ∀ i, w1.cell? ⟨W.heap.size, i, none⟩ = (#[Value.int .i64 0, .bool false, .bool false, .int .i64 0, .slice none 0 0])[i]? := ((Blk.new W.drew 43 #[.int .i64 0, .bool false, .bool false, .int .i64 0, .slice none 0 0]).same hs2).cell; have hf7 : ∀ i, w1.frozen? ⟨W.heap.size, i, none⟩ = false := ((Blk.new W.drew 43 #[.int .i64 0, .bool false, .bool false, .int .i64 0, .slice none 0 0]).same hs2).frozen; have HB7 : Hid (Blk w1 W.heap.size 43 #[.int .i64 0, .bool false, .bool false, .int .i64 0, .slice none 0 0]) := hide ((Blk.new W.drew 43 #[.int .i64 0, .bool false, .bool false, .int .i64 0, .slice none 0 0]).same hs2); have Hs1 : Hid (Same W w1) := hide (Same.trans (((Chg.refl _ W).drew).alloc _) hs1); clear hs1 hs2 hF))
      | ((go_at_call 82; have hF := HC.out; refine (hF _).mono ?_; rintro e w1 ⟨rfl, hs1⟩; have Hs1 : Hid (Same W w1) := hide (Chg.undrew hs1); clear hs1 hF)))
  · have HB := hide (Blk.new w1 43 #[.int .i64 0, .bool true, .bool (!cb), .int .i64 N, .slice none 0 0])
    have HS : Hid (Same W (w1.alloc (.cells #[.int .i64 0, .bool true, .bool (!cb), .int .i64 N, .slice none 0 0] 43))) := hide (Chg.alloc Hs1.out _)
    have Hbz := hide Hs1.out.size
    clear Hs1
    generalize w1.alloc (.cells #[.int .i64 0, .bool true, .bool (!cb), .int .i64 N, .slice none 0 0] 43) = wS at *
    generalize w1.heap.size = bS at *
    have hkS := HB.out.cell
    have hfS := HB.out.frozen
    have hka := (Ha.out.same HS.out).cell
    have hkb := (Hb.out.same HS.out).cell
    have hfb := (Hb.out.same HS.out).frozen
    have hne1 : ¬ bS = w.heap.size + 1 + 1 := by have := Hbz.out; have := Hz.out; omega
    have hne2 : ¬ w.heap.size + 1 + 1 = bS := fun e => hne1 e.symm
    cases cb
    · go_wp2_with (go_at_call 83; have hF := HCl.out _ HS.out; refine hF.mono ?_; rintro e w3 ⟨A3, c3, rfl, hr3, hl3, hm3, hs3, hn3⟩; have Hr3 := hide hr3; have Hl3 := hide hl3; have Hm3 := hide hm3; have Hs3 := hide hs3; have hkS3 := (HB.out.same hs3).cell; have hfS3 := (HB.out.same hs3).frozen; have hkb3 := ((Hb.out.same HS.out).same hs3).cell; have hfb3 := ((Hb.out.same HS.out).same hs3).frozen; have Hn3 := hide hn3; clear hr3 hl3 hm3 hs3 hn3 hF)
      have hbl := HB.out.lt
      have hbl2 := (Hb.out.same HS.out).lt
      have hb9 := Blk.put5 (((Hb.out.same HS.out).same Hs3.out).far (p := ⟨bS, 4, none⟩) hne2 (.slice A3 n c3)) (.int .i64 0) (.bool true) (.bool true) (.int .i64 N) (.slice A3 n c3)
      refine bodyPost_ret (results_cell_row rfl _ _ _ _ _ _ _ rfl hb9 Tryz.underlying43 rfl (by kernel_rfl)) rfl ⟨A3, c3, by rw [if_neg (by simp), Hn.out]; simp, ?_, by rw [if_neg (by simp), Hn.out]; exact Hl3.out, Hm3.out, ?_, fun b hb => by have h7 : wS.heap.size ≤ b := Hn3.out b hb; have := HS.out.size; have := Hz.out; omega⟩
      · rw [if_neg (by simp)]
        exact Rd.put5 (Hr3.out.setCell (p := ⟨bS, 4, none⟩) (fun e => by have := Hn3.out _ e; have h7 : wS.heap.size ≤ bS := this; omega) _) (fun e => by have := Hn3.out _ e; omega) _ _ _ _ _
      · exact Chg.put5 ((((Hw2.out.same HS.out).same Hs3.out).setCell (p := ⟨bS, 4, none⟩) (.inr (by have := Hbz.out; have := Hz.out; show w.heap.size ≤ bS; omega)) _)) (.inr (by omega)) _ _ _ _ _
    · go_wp2_with fail
      have hb9 := Blk.put5 (Hb.out.same HS.out) (.int .i64 0) (.bool true) (.bool false) (.int .i64 N) (.slice none 0 0)
      refine bodyPost_ret (results_cell_row rfl _ _ _ _ _ _ _ rfl hb9 Tryz.underlying43 rfl (by kernel_rfl)) rfl ⟨none, 0, by simp, by simpa [is] using Rd.nil _ _, by simp, Nat.zero_le _, ?_, fun b hb => by simp [blkOf] at hb⟩
      exact Chg.put5 (Hw2.out.same HS.out) (.inr (by omega)) _ _ _ _ _
  · have HB := hide (Blk.put5 HB7.out (.int .i64 0) (.bool true) (.bool (!cb)) (.int .i64 N) (.slice none 0 0))
    have HS : Hid (Same W _) := hide (Chg.put5 Hs1.out (.inr (Nat.le_refl _)) (.int .i64 0) (.bool true) (.bool (!cb)) (.int .i64 N) (.slice none 0 0))
    have Hbz := hide (Nat.le_refl W.heap.size)
    clear Hs1 HB7 hk7 hf7
    generalize ((((w1.setCell ⟨W.heap.size, 0, none⟩ (.int .i64 0)).setCell ⟨W.heap.size, 1, none⟩ (.bool true)).setCell ⟨W.heap.size, 2, none⟩ (.bool (!cb))).setCell ⟨W.heap.size, 3, none⟩ (.int .i64 N)).setCell ⟨W.heap.size, 4, none⟩ (.slice none 0 0) = wS at *
    obtain ⟨bS, hbS⟩ : ∃ bS, W.heap.size = bS := ⟨_, rfl⟩
    rw [hbS] at HB ⊢
    have Hbz : Hid (W.heap.size ≤ bS) := hide (Nat.le_of_eq hbS)
    clear hbS
    have hkS := HB.out.cell
    have hfS := HB.out.frozen
    have hka := (Ha.out.same HS.out).cell
    have hkb := (Hb.out.same HS.out).cell
    have hfb := (Hb.out.same HS.out).frozen
    have hne1 : ¬ bS = w.heap.size + 1 + 1 := by have := Hbz.out; have := Hz.out; omega
    have hne2 : ¬ w.heap.size + 1 + 1 = bS := fun e => hne1 e.symm
    cases cb
    · go_wp2_with (go_at_call 83; have hF := HCl.out _ HS.out; refine hF.mono ?_; rintro e w3 ⟨A3, c3, rfl, hr3, hl3, hm3, hs3, hn3⟩; have Hr3 := hide hr3; have Hl3 := hide hl3; have Hm3 := hide hm3; have Hs3 := hide hs3; have hkS3 := (HB.out.same hs3).cell; have hfS3 := (HB.out.same hs3).frozen; have hkb3 := ((Hb.out.same HS.out).same hs3).cell; have hfb3 := ((Hb.out.same HS.out).same hs3).frozen; have Hn3 := hide hn3; clear hr3 hl3 hm3 hs3 hn3 hF)
      have hbl := HB.out.lt
      have hbl2 := (Hb.out.same HS.out).lt
      have hb9 := Blk.put5 (((Hb.out.same HS.out).same Hs3.out).far (p := ⟨bS, 4, none⟩) hne2 (.slice A3 n c3)) (.int .i64 0) (.bool true) (.bool true) (.int .i64 N) (.slice A3 n c3)
      refine bodyPost_ret (results_cell_row rfl _ _ _ _ _ _ _ rfl hb9 Tryz.underlying43 rfl (by kernel_rfl)) rfl ⟨A3, c3, by rw [if_neg (by simp), Hn.out]; simp, ?_, by rw [if_neg (by simp), Hn.out]; exact Hl3.out, Hm3.out, ?_, fun b hb => by have h7 : wS.heap.size ≤ b := Hn3.out b hb; have := HS.out.size; have := Hz.out; omega⟩
      · rw [if_neg (by simp)]
        exact Rd.put5 (Hr3.out.setCell (p := ⟨bS, 4, none⟩) (fun e => by have := Hn3.out _ e; have h7 : wS.heap.size ≤ bS := this; omega) _) (fun e => by have := Hn3.out _ e; omega) _ _ _ _ _
      · exact Chg.put5 ((((Hw2.out.same HS.out).same Hs3.out).setCell (p := ⟨bS, 4, none⟩) (.inr (by have := Hbz.out; have := Hz.out; show w.heap.size ≤ bS; omega)) _)) (.inr (by omega)) _ _ _ _ _
    · go_wp2_with fail
      have hb9 := Blk.put5 (Hb.out.same HS.out) (.int .i64 0) (.bool true) (.bool false) (.int .i64 N) (.slice none 0 0)
      refine bodyPost_ret (results_cell_row rfl _ _ _ _ _ _ _ rfl hb9 Tryz.underlying43 rfl (by kernel_rfl)) rfl ⟨none, 0, by simp, by simpa [is] using Rd.nil _ _, by simp, Nat.zero_le _, ?_, fun b hb => by simp [blkOf] at hb⟩
      exact Chg.put5 (Hw2.out.same HS.out) (.inr (by omega)) _ _ _ _ _
end Go.Proofs.YtlimpepdelpogaaGreatDoor
