/-
  TableBack's walk: it answers true for every input, and leaves what was there as it was. Condition: the changes came in whole.
-/
import Derived.Test.YtllcjkddlenleaaTdF
namespace Go.Proofs.Ytllcjkddlenleaa
open Go.RowKit Go.Al
set_option linter.unusedVariables false

theorem both_start {w0 w1 : World} {g pm sm : Nat} (h : Same w0 w1) (ht : Tab w1 g pm sm 30 [] []) (h1 : w0.heap.size ≤ pm) (h2 : w0.heap.size ≤ sm) (hg : g < w1.heap.size) :
    Both w0 (w1.alloc (.cells #[.slice none 0 0, .slice none 0 0, .int .i64 30] 42)) g pm sm w1.heap.size [] [] [] [] := by
  have hs : Same w1 (w1.alloc (.cells #[.slice none 0 0, .slice none 0 0, .int .i64 30] 42)) := (Chg.refl _ w1).alloc _
  have hp := ht.mp.lt
  have hm := ht.ms.lt
  refine ⟨Same.trans h hs, ht.same hs, ⟨⟨none, 0, none, 0, ⟨Blk.new w1 _ _, ?_, ?_, by simp [blkOf], by simp [blkOf]⟩, fun b hb => by simp [blkOf] at hb, fun b hb => by simp [blkOf] at hb⟩, List.Pairwise.nil, List.Pairwise.nil, by simp, by omega, by omega⟩, h1, h2, h.size, by omega⟩
  · exact ⟨Rd.nil _ _, rfl, by simp, by simp, fun b hb => by simp [blkOf] at hb⟩
  · exact ⟨Rd.nil _ _, rfl, by simp, by simp, fun b hb => by simp [blkOf] at hb⟩

set_option maxRecDepth 100000 in
set_option maxHeartbeats 8000000 in
theorem tableBack_any (A0 : Option Addr) (N C : Nat) (l0 : List Cg) (x : Cg) (w : World) (ha : ActsC w A0 N l0) (hwf : ∀ c ∈ l0, WfCg c) (hNC : N ≤ C) (hC : C ≤ maxLen) (hx : WfCg x) :
    Calls Try.prog 4 #[.slice A0 N C, cgV x] w fun e w' => e = .returned (.bool true) ∧ Same w w' := by
  have n1 : N ≤ maxLen := by omega
  unfold maxLen at n1
  have Ha := hide ha
  have Hwf := hide hwf
  clear ha hwf hC hNC
  have hwx : WfC x := ⟨hx.2.1.1, hx.2.2.1⟩
  obtain ⟨w0, hw0⟩ : ∃ w0, w.alloc (.cells (bx x) 33) = w0 := ⟨_, rfl⟩
  have hs0 : Same w w0 := by rw [← hw0]; exact (Chg.refl _ w).alloc _
  have hb0 : Blk w0 w.heap.size 33 (bx x) := by rw [← hw0]; exact Blk.new w _ _
  have Hs0 := hide hs0
  have Hb0 := hide hb0
  have Hx := hide hwx
  have HB : Hid (∀ w', Same w0 w' → w'.cell? ⟨w.heap.size, 0, none⟩ = some (.int .i64 x.k) ∧ w'.cell? ⟨w.heap.size, 1, none⟩ = some (.int .i64 x.p.1) ∧ w'.cell? ⟨w.heap.size, 2, none⟩ = some (.int .i64 x.p.2.1) ∧ w'.cell? ⟨w.heap.size, 3, none⟩ = some (.int .i64 x.p.2.2) ∧ w'.cell? ⟨w.heap.size, 4, none⟩ = some (.int .i64 x.s.1) ∧ w'.cell? ⟨w.heap.size, 5, none⟩ = some (.int .i64 x.s.2.1) ∧ w'.cell? ⟨w.heap.size, 6, none⟩ = some (.int .i64 x.s.2.2)) :=
    hide fun w' hs => have hk := (hb0.same hs).cell; ⟨hk 0, hk 1, hk 2, hk 3, hk 4, hk 5, hk 6⟩
  clear hs0 hb0 hx hwx
  obtain ⟨k, ⟨pi, px, py⟩, ⟨si, lo, hh⟩⟩ := x
  unfold cgV bx at *
  go_enter Try.func4, Try.ntmps4
  go_wp2_with (first
    | (go_at_call 6
       refine (tnew_any 30 _ (by decide) (by decide)).mono ?_
       rintro e w1 ⟨g, pm, sm, rfl, hs1, ht1, hg, hp, hs⟩
       have HB1 := hide (both_start hs1 ht1 hp hs ht1.blk.lt); clear hs1 ht1 hg hp hs hw0))
  go_loopg [8] N (fun k vi wr => ∃ (i : Nat) (p s : List P3), i ≤ N ∧ k = N - i ∧ vi = .int .i64 i ∧ Both w0 wr g pm sm w1.heap.size p s p s ∧ GoodP p ∧ GoodS s)
  case atStart => exact ⟨0, [], [], Nat.zero_le _, rfl, rfl, HB1.out, fun _ h => by simp at h, fun _ h => by simp at h⟩
  case round =>
    obtain ⟨i, p, s, hi, hkk, rfl, hBo, hgp, hgs⟩ := hrel
    have Hk := hide hkk
    have HBo := hide hBo
    have Hgp := hide hgp
    have Hgs := hide hgs
    clear hkk HB1 hgp hgs
    by_cases hlt : i < N ∧ i < 60
    · have hsame := Same.trans Hs0.out hBo.same
      obtain ⟨bb, boff, c, rfl, hbl, hli, hwc, hcc⟩ := Ha.out.at_ Hwf.out hsame hlt.1
      obtain ⟨hlt1, hlt2⟩ := hlt
      have HC : Hid (∀ w', Same w w' → CellsC w' bb (boff + i * 7) c) := hide fun w' h => by
        obtain ⟨bb', boff', c', e, _, hli', _, hcc⟩ := Ha.out.at_ Hwf.out h hlt1
        obtain ⟨rfl, rfl⟩ : bb = bb' ∧ boff = boff' := by injection e with e; injection e with e1 e2; exact ⟨e1, e2⟩
        rw [hli] at hli'
        obtain rfl := Option.some.inj hli'
        exact hcc
      have HT := hide (both_doT c hBo ⟨hwc.2.1.1, hwc.2.2.1⟩)
      have HR := hide (fun w' (h : Both w0 w' g pm sm w1.heap.size (doP' p s 30 c) (doS' p s 30 c) p s) => both_doR c h)
      have Hg := hide (good_do (c := c) Hgp.out Hgs.out)
      generalize doP' p s 30 c = p2 at *
      generalize doS' p s 30 c = s2 at *
      generalize doB p s 30 c = B at *
      generalize mayE p s 30 c = E at *
      obtain ⟨ck, ⟨ci, cx, cy⟩, ⟨cs, cl, ch⟩⟩ := c
      obtain ⟨Bk, ⟨Bi, Bx, By⟩, ⟨Bs, Bl, Bh⟩⟩ := B
      unfold cgV CellsC at *
      obtain ⟨c0, c1, c2, c3, c4, c5, c6⟩ := hcc
      clear hBo hsame hli hwc
      go_wp2_with (first
        | (go_at_call 8
           refine HT.out.mono ?_
           rintro e w3 ⟨rfl, hB3, hC3⟩
           obtain ⟨d0, d1, d2, d3, d4, d5, d6⟩ := HC.out w3 (Same.trans Hs0.out hB3.same)
           have HB3 := hide hB3; clear hB3 hC3)
        | (go_at_call 10
           refine (HR.out _ HB3.out).mono ?_
           rintro e w4 ⟨rfl, hB4⟩
           have HB4 := hide hB4; clear hB4))
      go_roundg (N - (i + 1))
      case measure => have := Hk.out; omega
      case rel => exact ⟨i + 1, p2, s2, by omega, rfl, by go_num, HB4.out, Hg.out.1, Hg.out.2⟩
    · have HCl := hide (clone_any wr hBo.tab)
      have hlp : p.length ≤ 1048576 ∧ s.length ≤ 1048576 := by have := hBo.tab.room; omega
      have Hlp := hide hlp
      have Hpm : Hid (pm < wr.heap.size ∧ sm < wr.heap.size) := hide ⟨hBo.tab.mp.lt, hBo.tab.ms.lt⟩
      have HT := hide (fun w' (h : Both w0 w' g pm sm w1.heap.size p s p s) => both_doT ⟨k, (pi, px, py), (si, lo, hh)⟩ h Hx.out)
      have Hback := hide (back_law (c := ⟨k, (pi, px, py), (si, lo, hh)⟩) Hgp.out Hgs.out hBo.set.srtP hBo.set.srtS hBo.set.room)
      have Hbad : Hid (¬ mayE p s 30 ⟨k, (pi, px, py), (si, lo, hh)⟩ = 0 → doP' p s 30 ⟨k, (pi, px, py), (si, lo, hh)⟩ = p ∧ doS' p s 30 ⟨k, (pi, px, py), (si, lo, hh)⟩ = s ∧ doB p s 30 ⟨k, (pi, px, py), (si, lo, hh)⟩ = ⟨0, z3, z3⟩) := hide fun h => ⟨if_neg h, if_neg h, if_neg h⟩
      clear hBo hlp Ha Hwf Hgp Hgs
      generalize doP' p s 30 ⟨k, (pi, px, py), (si, lo, hh)⟩ = p2 at *
      generalize doS' p s 30 ⟨k, (pi, px, py), (si, lo, hh)⟩ = s2 at *
      generalize doB p s 30 ⟨k, (pi, px, py), (si, lo, hh)⟩ = B at *
      generalize mayE p s 30 ⟨k, (pi, px, py), (si, lo, hh)⟩ = E at *
      by_cases hE : E = 0
      · subst hE
        obtain ⟨b1, b2, b3, b4⟩ := Hback.out rfl
        have HT2 := hide (fun w' (h : Both w0 w' g pm sm w1.heap.size p2 s2 p s) => both_doT B h b1)
        rw [b2, b3, b4] at HT2
        clear b1 b2 b3 b4 Hback Hbad
        generalize doB p2 s2 30 B = B2 at *
        obtain ⟨Bk, ⟨Bi, Bx, By⟩, ⟨Bs, Bl, Bh⟩⟩ := B
        obtain ⟨Ck, ⟨Ci, Cx, Cy⟩, ⟨Cs, Cl, Ch⟩⟩ := B2
        unfold cgV at *
        by_cases hin2 : i < N
        all_goals
          go_wp2_with (first
            | (go_at_call 11
               refine HCl.out.mono ?_
               rintro e w3 ⟨g2, rfl, pm2, sm2, hu, hs3, hg2, hp2, hm2⟩
               have HB3 := hide (Both.go HBo.out hs3)
               obtain ⟨k0, k1, k2, k3, k4, k5, k6⟩ := HB.out w3 HB3.out.same
               have Hu := hide hu
               have Hg2 := hide (And.intro hg2 (And.intro hp2 hm2))
               clear hs3 hu hg2 hp2 hm2)
            | (go_at_call 8
               first
               | (refine (HT2.out _ (HB5.out.go (Same.trans HS6.out (Same.trans HS7.out HS8.out)))).mono ?_
                  rintro e w9 ⟨rfl, hB9, hC9⟩
                  have HB9 := hide (Both.go hB9 (Chg.alloc (Chg.refl _ w9) (.cells #[.int .i64 Ck, .int .i64 Ci, .int .i64 Cx, .int .i64 Cy, .int .i64 Cs, .int .i64 Cl, .int .i64 Ch] 33)))
                  clear hB9 hC9)
               | (refine (HT.out _ HB3.out).mono ?_
                  rintro e w4 ⟨rfl, hB4, hC4⟩
                  have HB5 := hide (Both.go hB4 (Chg.alloc (Chg.refl _ w4) (.cells #[.int .i64 Bk, .int .i64 Bi, .int .i64 Bx, .int .i64 By, .int .i64 Bs, .int .i64 Bl, .int .i64 Bh] 33)))
                  have Hn := hide (Blk.new w4 33 #[.int .i64 Bk, .int .i64 Bi, .int .i64 Bx, .int .i64 By, .int .i64 Bs, .int .i64 Bl, .int .i64 Bh])
                  have HU5 := hide (Tab.same (Hu.out.chg hC4 (fun e => by have := Hg2.out; have := Hpm.out; omega) (fun e => by have := Hg2.out; have := Hpm.out; omega) (fun e => by have := Hg2.out; have := Hpm.out; omega)) (Chg.alloc (Chg.refl _ w4) (.cells #[.int .i64 Bk, .int .i64 Bi, .int .i64 Bx, .int .i64 By, .int .i64 Bs, .int .i64 Bl, .int .i64 Bh] 33)))
                  clear hB4 hC4))
            | (go_at_call 13
               first
               | (refine (allP_any _ HB9.out.tab Hlp.out.1).mono ?_
                  rintro e w10 ⟨A3, a3, rfl, hr3, hs10, _⟩
                  have HS10 := hide hs10; have HR3 := hide hr3; clear hs10 hr3)
               | (refine (allP_any _ HU5.out Hlp.out.1).mono ?_
                  rintro e w6 ⟨A1, a1, rfl, hr1, hs6, _⟩
                  have HS6 := hide hs6; have HR1 := hide hr1; clear hs6 hr1))
            | (go_at_call 14
               first
               | (refine (allS_any _ (HB9.out.tab.same HS10.out) Hlp.out.2).mono ?_
                  rintro e w11 ⟨A4, a4, rfl, hr4, hs11, _⟩
                  have HS11 := hide hs11; have HR4 := hide hr4; clear hs11 hr4)
               | (refine (allS_any _ (HU5.out.same HS6.out) Hlp.out.2).mono ?_
                  rintro e w7 ⟨A2, a2, rfl, hr2, hs7, _⟩
                  have HS7 := hide hs7; have HR2 := hide hr2; clear hs7 hr2))
            | (go_at_call 12
               first
               | (refine (both_same (HB9.out.go (Same.trans HS10.out HS11.out)) (HR3.out.same HS11.out) HR4.out).mono ?_
                  rintro e w12 ⟨rfl, hs12⟩
                  have HS12 := hide hs12; clear hs12)
               | (refine (both_same (HB5.out.go (Same.trans HS6.out HS7.out)) (HR1.out.same HS7.out) HR2.out).mono ?_
                  rintro e w8 ⟨rfl, hs8⟩
                  have HS8 := hide hs8
                  have hk8 := (Hn.out.same (Same.trans HS6.out (Same.trans HS7.out hs8))).cell
                  clear hs8))
            | (go_at_call 9; refine (tlives_any _).mono ?_; rintro e w13 ⟨rfl, hs13⟩; have HS13 := hide hs13; clear hs13))
          go_ret
          exact ⟨rfl, Same.trans Hs0.out (Same.trans HB9.out.same (Same.trans HS10.out (Same.trans HS11.out (Same.trans HS12.out HS13.out))))⟩
      · obtain ⟨rfl, rfl, rfl⟩ := Hbad.out hE
        clear Hback Hbad
        unfold cgV z3 at *
        by_cases hin2 : i < N
        all_goals
          go_wp2_with (first
            | (go_at_call 11
               refine HCl.out.mono ?_
               rintro e w3 ⟨g2, rfl, pm2, sm2, hu, hs3, hg2, hp2, hm2⟩
               have HB3 := hide (Both.go HBo.out hs3)
               obtain ⟨k0, k1, k2, k3, k4, k5, k6⟩ := HB.out w3 HB3.out.same
               have Hu := hide hu
               have Hg2 := hide (And.intro hg2 (And.intro hp2 hm2))
               clear hs3 hu hg2 hp2 hm2)
            | (go_at_call 8
               first
               | (refine (HT.out _ HB3.out).mono ?_
                  rintro e w4 ⟨rfl, hB4, hC4⟩
                  have HB5 := hide (Both.go hB4 (Chg.alloc (Chg.refl _ w4) (.cells #[.int .i64 0, .int .i64 0, .int .i64 0, .int .i64 0, .int .i64 0, .int .i64 0, .int .i64 0] 33)))
                  have Hn := hide (Blk.new w4 33 #[.int .i64 0, .int .i64 0, .int .i64 0, .int .i64 0, .int .i64 0, .int .i64 0, .int .i64 0])
                  have HU5 := hide (Tab.same (Hu.out.chg hC4 (fun e => by have := Hg2.out; have := Hpm.out; omega) (fun e => by have := Hg2.out; have := Hpm.out; omega) (fun e => by have := Hg2.out; have := Hpm.out; omega)) (Chg.alloc (Chg.refl _ w4) (.cells #[.int .i64 0, .int .i64 0, .int .i64 0, .int .i64 0, .int .i64 0, .int .i64 0, .int .i64 0] 33)))
                  clear hB4 hC4))
            | (go_at_call 13
               first
               | (refine (allP_any _ HB8.out.tab Hlp.out.1).mono ?_
                  rintro e w10 ⟨A3, a3, rfl, hr3, hs10, _⟩
                  have HS10 := hide hs10; have HR3 := hide hr3; clear hs10 hr3)
               | (refine (allP_any _ HU5.out Hlp.out.1).mono ?_
                  rintro e w6 ⟨A1, a1, rfl, hr1, hs6, _⟩
                  have HS6 := hide hs6; have HR1 := hide hr1; clear hs6 hr1))
            | (go_at_call 14
               first
               | (refine (allS_any _ (HB8.out.tab.same HS10.out) Hlp.out.2).mono ?_
                  rintro e w11 ⟨A4, a4, rfl, hr4, hs11, _⟩
                  have HS11 := hide hs11; have HR4 := hide hr4; clear hs11 hr4)
               | (refine (allS_any _ (HU5.out.same HS6.out) Hlp.out.2).mono ?_
                  rintro e w7 ⟨A2, a2, rfl, hr2, hs7, _⟩
                  have HS7 := hide hs7; have HR2 := hide hr2; clear hs7 hr2))
            | (go_at_call 12
               first
               | (refine (both_same (HB8.out.go (Same.trans HS10.out HS11.out)) (HR3.out.same HS11.out) HR4.out).mono ?_
                  rintro e w12 ⟨rfl, hs12⟩
                  have HS12 := hide hs12; clear hs12)
               | (refine (both_same (HB5.out.go (Same.trans HS6.out HS7.out)) (HR1.out.same HS7.out) HR2.out).mono ?_
                  rintro e w8 ⟨rfl, hs8⟩
                  have HS8 := hide hs8
                  have HB8 := hide (HB5.out.go (Same.trans HS6.out (Same.trans HS7.out hs8)))
                  have hk8 := (Hn.out.same (Same.trans HS6.out (Same.trans HS7.out hs8))).cell
                  clear hs8))
            | (go_at_call 9; refine (tlives_any _).mono ?_; rintro e w13 ⟨rfl, hs13⟩; have HS13 := hide hs13; clear hs13))
          go_ret
          exact ⟨rfl, Same.trans Hs0.out (Same.trans HB8.out.same (Same.trans HS10.out (Same.trans HS11.out (Same.trans HS12.out HS13.out))))⟩
end Go.Proofs.Ytllcjkddlenleaa
