/-
  TableNone's walk; TableFull's walk. No conditions.
-/
import Derived.Test.YtllcjkddlenleaaTbF
namespace Go.Proofs.Ytllcjkddlenleaa
open Go.RowKit Go.Al
set_option linter.unusedVariables false

set_option maxRecDepth 100000 in
set_option maxHeartbeats 4000000 in
theorem tableNone_any (c : Cg) (id : Int) (w : World) :
    Calls Try.prog 5 #[cgV c, .int .i64 id] w fun e w' => e = .returned (.bool true) ∧ Same w w' := by
  have HD := hide (fun w' => do_nil c w')
  have HM := hide (fun w' => mayM_nil c w')
  have HP := hide (fun w' => point_nil id w')
  have HS := hide (fun w' => span_nil id w')
  have hs : Same w (w.alloc (.cells (bx c) 33)) := (Chg.refl _ w).alloc _
  have hb := Blk.new w 33 (bx c)
  have Hs := hide hs
  have Hb := hide hb
  clear hs hb
  obtain ⟨k, ⟨pi, px, py⟩, ⟨si, lo, hi⟩⟩ := c
  unfold cgV bx z3 agg3 at *
  go_enter Try.func5, Try.ntmps5
  go_wp2_with (first
    | (go_at_call 8; refine (HD.out _).mono ?_; rintro e w1 ⟨rfl, hs1⟩; have Hs1 := hide (Chg.alloc (Same.trans Hs.out hs1) (.cells #[.int .i64 0, .int .i64 0, .int .i64 0, .int .i64 0, .int .i64 0, .int .i64 0, .int .i64 0] 33)); have Hb1 := hide ((Hb.out.same hs1).alloc (.cells #[.int .i64 0, .int .i64 0, .int .i64 0, .int .i64 0, .int .i64 0, .int .i64 0, .int .i64 0] 33)); have Hn1 := hide (Blk.new w1 33 #[.int .i64 0, .int .i64 0, .int .i64 0, .int .i64 0, .int .i64 0, .int .i64 0, .int .i64 0]); clear hs1)
    | (go_at_call 15; refine (HP.out _).mono ?_; rintro e w2 ⟨rfl, hs2⟩; have Hs2 := hide (Chg.alloc (Same.trans Hs1.out hs2) (.cells #[.int .i64 0, .int .i64 0, .int .i64 0] 29)); have Hb2 := hide ((Hb1.out.same hs2).alloc (.cells #[.int .i64 0, .int .i64 0, .int .i64 0] 29)); have Hn2 := hide ((Hn1.out.same hs2).alloc (.cells #[.int .i64 0, .int .i64 0, .int .i64 0] 29)); clear hs2)
    | (go_at_call 16; refine (HS.out _).mono ?_; rintro e w3 ⟨rfl, hs3⟩; have Hs3 := hide (Chg.alloc (Same.trans Hs2.out hs3) (.cells #[.int .i64 0, .int .i64 0, .int .i64 0] 31)); have hb3 := ((Hb2.out.same hs3).alloc (.cells #[.int .i64 0, .int .i64 0, .int .i64 0] 31)).cell; have hn3 := ((Hn2.out.same hs3).alloc (.cells #[.int .i64 0, .int .i64 0, .int .i64 0] 31)).cell; have hb3' := (Hb2.out.same hs3).cell; have hn3' := (Hn2.out.same hs3).cell; have bb3 := (Hb2.out.same hs3).lt; have bn3 := (Hn2.out.same hs3).lt; clear hs3)
    | (go_at_call 17; refine (HM.out _).mono ?_; rintro e w4 ⟨rfl, hs4⟩; have Hs4 := hide (Same.trans Hs3.out hs4); clear hs4)
    | (go_at_call 13; refine (points_nil _).mono ?_; rintro e w5 ⟨rfl, hs5⟩; have Hs5 := hide (Same.trans Hs4.out hs5); clear hs5)
    | (go_at_call 14; refine (spans_nil _).mono ?_; rintro e w6 ⟨rfl, hs6⟩; have Hs6 := hide (Same.trans Hs5.out hs6); clear hs6)
    | (go_at_call 7; refine (len_nil _).mono ?_; rintro e w7 ⟨rfl, hs7⟩; have Hs7 := hide (Same.trans Hs6.out hs7); clear hs7)
    | (go_at_call 18; refine (most_nil _).mono ?_; rintro e w8 ⟨rfl, hs8⟩; have Hs8 := hide (Same.trans Hs7.out hs8); clear hs8)
    | (go_at_call 11; refine (clone_nil _).mono ?_; rintro e w9 ⟨rfl, hs9⟩; have Hs9 := hide (Same.trans Hs8.out hs9); clear hs9)
    | (go_at_call 9; refine (tlives_any _).mono ?_; rintro e w10 ⟨rfl, hs10⟩; have Hs10 := hide (Same.trans Hs9.out hs10); clear hs10))
  go_ret
  exact ⟨rfl, Hs10.out⟩

theorem may_range {p s : List P3} {most : Int} {c : Cg} (h : mayE p s most c = 4) : most ≤ (p.length : Int) + (s.length : Int) := by
  unfold mayE at h
  split at h
  · split at h
    · split at h
      · omega
      · split at h
        · assumption
        · omega
    · split at h <;> omega
  · unfold judgeE at h
    split at h
    · omega
    · unfold placeE at h
      repeat' split at h
      all_goals omega

set_option maxRecDepth 100000 in
set_option maxHeartbeats 8000000 in
theorem tableFull_any (a0 : Int) (A0 : Option Addr) (N C : Nat) (l0 : List Cg) (w : World) (h0 : 0 ≤ a0) (h1 : a0 ≤ 255) (ha : ActsC w A0 N l0) (hwf : ∀ c ∈ l0, WfCg c) (hNC : N ≤ C) (hC : C ≤ maxLen) :
    Calls Try.prog 3 #[.int .u8 a0, .slice A0 N C] w fun e w' => e = .returned (.bool true) ∧ Same w w' := by
  have n1 : N ≤ maxLen := by omega
  unfold maxLen at n1
  have Ha := hide ha
  have Hwf := hide hwf
  clear ha hwf hC hNC
  obtain ⟨m, hm⟩ : ∃ m : Nat, a0.tmod 20 = (m : Int) := ⟨(a0.tmod 20).toNat, by rw [Int.tmod_eq_emod_of_nonneg h0]; omega⟩
  have hm20 : m < 20 := by rw [Int.tmod_eq_emod_of_nonneg h0] at hm; omega
  obtain ⟨n, hn⟩ : ∃ n : Int, n = 1 + (m : Int) := ⟨_, rfl⟩
  have hw1 : IntKind.i64.wrap (1 + (m : Int)) = n := by rw [hn]; exact IntWalk.i64_in _ (by omega)
  have hn1 : 1 ≤ n := by omega
  have hn2 : n ≤ 20 := by omega
  clear hn
  go_enter Try.func3, Try.ntmps3
  go_wp2_with (first
    | (go_at_call 6
       refine (tnew_any n w hn1 (by omega)).mono ?_
       rintro e w1 ⟨g, pm, sm, rfl, hs1, ht1, hg, hp, hs⟩
       have Ht1 := hide ht1; have Hs1 := hide hs1; have Hp := hide hp; have Hsm := hide hs; clear hs1 ht1 hg hp hs))
  go_loopg [8] N (fun k vi wr => ∃ (i : Nat) (p s : List P3), i ≤ N ∧ k = N - i ∧ vi = .int .i64 i ∧ Same w wr ∧ Tab wr g pm sm n p s)
  case atStart => exact ⟨0, [], [], Nat.zero_le _, rfl, rfl, Hs1.out, Ht1.out⟩
  case round =>
    obtain ⟨i, p, s, hi, hkk, rfl, hsame, ht⟩ := hrel
    have Hk := hide hkk
    have HT := hide ht
    have Hs := hide hsame
    clear hkk ht Ht1 Hs1
    by_cases hlt : i < N ∧ i < 60
    · obtain ⟨bb, boff, c, rfl, hbl, hli, hwc, _⟩ := Ha.out.at_ Hwf.out hsame hlt.1
      obtain ⟨hlt1, hlt2⟩ := hlt
      have HC : Hid (∀ w', Same w w' → CellsC w' bb (boff + i * 7) c) := hide fun w' h => by
        obtain ⟨bb', boff', c', e, _, hli', _, hcc⟩ := Ha.out.at_ Hwf.out h hlt1
        obtain ⟨rfl, rfl⟩ : bb = bb' ∧ boff = boff' := by injection e with e; injection e with e1 e2; exact ⟨e1, e2⟩
        rw [hli] at hli'
        obtain rfl := Option.some.inj hli'
        exact hcc
      clear hsame hli
      have HL := hide (len_any wr HT.out)
      have HD := hide (fun w' h => do_any (p := p) (s := s) (g := g) (pm := pm) (sm := sm) (most := n) c w' h ⟨hwc.2.1.1, hwc.2.2.1⟩)
      have HL3 := hide (fun w' h => len_any (p := doP' p s n c) (s := doS' p s n c) (g := g) (pm := pm) (sm := sm) (most := n) w' h)
      have hr1 := HT.out.room
      have hl4 := hide (may_range (p := p) (s := s) (most := n) (c := c))
      have hbad : Hid (¬ mayE p s n c = 0 → doP' p s n c = p ∧ doS' p s n c = s) := hide fun h => ⟨if_neg h, if_neg h⟩
      have hroom : Hid (∀ w', Tab w' g pm sm n (doP' p s n c) (doS' p s n c) → ((doP' p s n c).length : Int) + ((doS' p s n c).length : Int) ≤ n) := hide fun w' h => h.room
      generalize hp2 : doP' p s n c = p2 at *
      generalize hs2 : doS' p s n c = s2 at *
      generalize doB p s n c = B at *
      generalize mayE p s n c = E at *
      generalize hal : (p.length : Int) + (s.length : Int) = al at *
      generalize hal2 : (p2.length : Int) + (s2.length : Int) = al2 at *
      have hge : 0 ≤ al2 := by omega
      obtain ⟨k, ⟨pi, px, py⟩, ⟨si, lo, hi'⟩⟩ := c
      obtain ⟨Bk, ⟨Bi, Bx, By⟩, ⟨Bs, Bl, Bh⟩⟩ := B
      unfold cgV CellsC at *
      clear hwc hp2 hs2
      by_cases hE : E = 0
      · subst hE
        clear hbad hl4
        go_wp2_with (first
          | (go_at_call 7
             first
             | (refine (HL3.out _ (Ht3.out.same (Same.trans (Chg.alloc (Chg.refl _ w3) _) (Same.trans Hs6.out Hs7.out)))).mono ?_; rintro e w8 ⟨rfl, hs8⟩; have Hs8 := hide hs8; clear hs8)
             | (refine (HL3.out _ (Ht3.out.same (Same.trans (Chg.alloc (Chg.refl _ w3) _) Hs6.out))).mono ?_; rintro e w7 ⟨rfl, hs7⟩; have Hs7 := hide hs7; clear hs7)
             | (refine (HL3.out _ (Ht3.out.same (Chg.alloc (Chg.refl _ w3) _))).mono ?_; rintro e w6 ⟨rfl, hs6⟩; have Hs6 := hide hs6; clear hs6)
             | (have hF := HL.out; refine hF.mono ?_; rintro e w2 ⟨rfl, hs2⟩; have hc := HC.out w2 (Same.trans Hs.out hs2); obtain ⟨c0, c1, c2, c3, c4, c5, c6⟩ := hc; have Ht2 := hide (HT.out.same hs2); have Hs2 := hide (Same.trans Hs.out hs2); clear hs2 hF))
          | (go_at_call 8
             refine (HD.out _ Ht2.out).mono ?_
             rintro e w3 ⟨rfl, ht3, hc3⟩
             have hs3 := tab_fresh Hs2.out Hp.out Hsm.out hc3
             have hr3 := hroom.out _ ht3
             have Ht3 := hide ht3; have Hs3 := hide hs3; clear ht3 hc3 hs3))
        go_roundg (N - (i + 1))
        case measure => have := Hk.out; omega
        case rel => exact ⟨i + 1, p2, s2, by omega, rfl, by go_num, Same.trans (Chg.alloc Hs3.out _) (Same.trans Hs6.out Hs7.out), Ht3.out.same (Same.trans (Chg.alloc (Chg.refl _ w3) _) (Same.trans Hs6.out Hs7.out))⟩
      · obtain ⟨rfl, rfl⟩ := hbad.out hE
        have hal3 : al2 = al := by rw [← hal, ← hal2]
        subst hal3
        by_cases hF4 : E = 4
        · subst hF4
          have hx := hl4.out rfl
          have hy : al2 = n := by omega
          subst hy
          clear hx hr1 hE hbad hl4 hal2
          go_wp2_with (first
            | (go_at_call 7
               first
               | (refine (HL3.out _ (Ht3.out.same (Same.trans (Chg.alloc (Chg.refl _ w3) _) (Same.trans Hs6.out Hs7.out)))).mono ?_; rintro e w8 ⟨rfl, hs8⟩; have Hs8 := hide hs8; clear hs8)
               | (refine (HL3.out _ (Ht3.out.same (Same.trans (Chg.alloc (Chg.refl _ w3) _) Hs6.out))).mono ?_; rintro e w7 ⟨rfl, hs7⟩; have Hs7 := hide hs7; clear hs7)
               | (refine (HL3.out _ (Ht3.out.same (Chg.alloc (Chg.refl _ w3) _))).mono ?_; rintro e w6 ⟨rfl, hs6⟩; have Hs6 := hide hs6; clear hs6)
               | (have hF := HL.out; refine hF.mono ?_; rintro e w2 ⟨rfl, hs2⟩; have hc := HC.out w2 (Same.trans Hs.out hs2); obtain ⟨c0, c1, c2, c3, c4, c5, c6⟩ := hc; have Ht2 := hide (HT.out.same hs2); have Hs2 := hide (Same.trans Hs.out hs2); clear hs2 hF))
            | (go_at_call 8
               refine (HD.out _ Ht2.out).mono ?_
               rintro e w3 ⟨rfl, ht3, hc3⟩
               have hs3 := tab_fresh Hs2.out Hp.out Hsm.out hc3
               have hr3 := hroom.out _ ht3
               have Ht3 := hide ht3; have Hs3 := hide hs3; clear ht3 hc3 hs3))
          go_roundg (N - (i + 1))
          case measure => have := Hk.out; omega
          case rel => exact ⟨i + 1, p2, s2, by omega, rfl, by go_num, Same.trans (Chg.alloc Hs3.out _) (Same.trans Hs6.out (Same.trans Hs7.out Hs8.out)), Ht3.out.same (Same.trans (Chg.alloc (Chg.refl _ w3) _) (Same.trans Hs6.out (Same.trans Hs7.out Hs8.out)))⟩
        · clear hbad hl4 hal2
          go_wp2_with (first
            | (go_at_call 7
               first
               | (refine (HL3.out _ (Ht3.out.same (Same.trans (Chg.alloc (Chg.refl _ w3) _) (Same.trans Hs6.out Hs7.out)))).mono ?_; rintro e w8 ⟨rfl, hs8⟩; have Hs8 := hide hs8; clear hs8)
               | (refine (HL3.out _ (Ht3.out.same (Same.trans (Chg.alloc (Chg.refl _ w3) _) Hs6.out))).mono ?_; rintro e w7 ⟨rfl, hs7⟩; have Hs7 := hide hs7; clear hs7)
               | (refine (HL3.out _ (Ht3.out.same (Chg.alloc (Chg.refl _ w3) _))).mono ?_; rintro e w6 ⟨rfl, hs6⟩; have Hs6 := hide hs6; clear hs6)
               | (have hF := HL.out; refine hF.mono ?_; rintro e w2 ⟨rfl, hs2⟩; have hc := HC.out w2 (Same.trans Hs.out hs2); obtain ⟨c0, c1, c2, c3, c4, c5, c6⟩ := hc; have Ht2 := hide (HT.out.same hs2); have Hs2 := hide (Same.trans Hs.out hs2); clear hs2 hF))
            | (go_at_call 8
               refine (HD.out _ Ht2.out).mono ?_
               rintro e w3 ⟨rfl, ht3, hc3⟩
               have hs3 := tab_fresh Hs2.out Hp.out Hsm.out hc3
               have hr3 := hroom.out _ ht3
               have Ht3 := hide ht3; have Hs3 := hide hs3; clear ht3 hc3 hs3))
          go_roundg (N - (i + 1))
          case measure => have := Hk.out; omega
          case rel => exact ⟨i + 1, p2, s2, by omega, rfl, by go_num, Same.trans (Chg.alloc Hs3.out _) (Same.trans Hs6.out (Same.trans Hs7.out Hs8.out)), Ht3.out.same (Same.trans (Chg.alloc (Chg.refl _ w3) _) (Same.trans Hs6.out (Same.trans Hs7.out Hs8.out)))⟩
    · clear hsame
      by_cases hin2 : i < N
      · go_wp2_with (go_at_call 9; refine (tlives_any _).mono ?_; rintro e w2 ⟨rfl, hs2⟩; have Hs2 := hide hs2; clear hs2)
        go_ret
        exact ⟨rfl, Hs.out.trans Hs2.out⟩
      · go_wp2_with (go_at_call 9; refine (tlives_any _).mono ?_; rintro e w2 ⟨rfl, hs2⟩; have Hs2 := hide hs2; clear hs2)
        go_ret
        exact ⟨rfl, Hs.out.trans Hs2.out⟩
end Go.Proofs.Ytllcjkddlenleaa
