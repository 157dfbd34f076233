/-
  QueuePlays' walk. No conditions.
-/
import Derived.Test.YtkakhpbeglkbnaaRqM
namespace Go.Proofs.Ytkakhpbeglkbnaa
open Go.RowKit Go.Al Go.Al.Rg
set_option linter.unusedVariables false

theorem pair_ahead {F : Nat → Prop} {w : World} {g m : Nat} {q : List Int} {id turns : Int} {held : Bool} (ask : Int) (h : Que F w g m q id held turns) (hm : m ≤ 65536) :
    ∃ (n : Int) (was : Bool), (∀ v, Same w v → Calls Try.prog 26 #[.pointer (some ⟨g, 0, none⟩), .int .i64 ask] v (fun e w' => e = .returned (.tuple #[.int .i64 n, .bool was]) ∧ Same v w')) ∧
      ((was = true ∧ (∃ p : Nat, n = (p : Int)) ∧ atI (lst q id held) ask = n) ∨ (was = false ∧ n = 0 ∧ atI (lst q id held) ask = -1)) := by
  by_cases hv : held = true ∧ id = ask
  · obtain ⟨rfl, rfl⟩ := hv
    exact ⟨0, true, fun v hs => ahead_has (h.same hs), .inl ⟨rfl, ⟨0, rfl⟩, by simp [lst_held, atI, pos]⟩⟩
  · by_cases hin : ask ∈ q
    · cases held
      · exact ⟨_, true, fun v hs => ahead_free ask (h.same hs) hm hin, .inl ⟨rfl, ⟨_, rfl⟩, atI_in hin⟩⟩
      · have hn : ¬ id = ask := fun e => hv ⟨rfl, e⟩
        refine ⟨_, true, fun v hs => ahead_held ask (h.same hs) hm hn hin, .inl ⟨rfl, ⟨pos q ask + 1, rfl⟩, ?_⟩⟩
        rw [lst_held, atI_in (List.mem_cons_of_mem _ hin), pos, if_neg hn]
        rfl
    · exact ⟨0, false, fun v hs => ahead_out ask (h.same hs) hm hv hin, .inr ⟨rfl, rfl, atI_out (fun h => hin ((lst_mem hv).1 h))⟩⟩

set_option maxRecDepth 100000 in
set_option maxHeartbeats 400000 in
theorem queuePlays_bad (most : Int) (A0 : Option Addr) (N C : Nat) (ask : Int) (w : World) (hm : most < 1 ∨ 65536 < most) :
    Calls Try.prog 7 #[.int .i64 most, .slice A0 N C, .int .i64 ask] w fun e w' => e = .returned (.bool true) ∧ Same w w' := by
  have Hm := hide hm
  by_cases h1 : most < 1
  · clear hm
    go_enter Try.func7, Try.ntmps7
    go_wp2_with (first
      | (go_at_call 22; have hF := qnew_bad most w Hm.out; refine hF.mono ?_; rintro e w1 ⟨rfl, rfl⟩; clear hF)
      | (go_at_call 29; have hF := qlives_any w; refine hF.mono ?_; rintro e w2 ⟨rfl, hs2⟩; have Hs2 := hide hs2; clear hs2 hF))
    go_ret
    exact ⟨rfl, Hs2.out⟩
  · have h2 : 65536 < most := by omega
    clear hm
    go_enter Try.func7, Try.ntmps7
    go_wp2_with (first
      | (go_at_call 22; have hF := qnew_bad most w Hm.out; refine hF.mono ?_; rintro e w1 ⟨rfl, rfl⟩; clear hF)
      | (go_at_call 29; have hF := qlives_any w; refine hF.mono ?_; rintro e w2 ⟨rfl, hs2⟩; have Hs2 := hide hs2; clear hs2 hF))
    go_ret
    exact ⟨rfl, Hs2.out⟩

theorem acts_keep {w w' : World} {b i k : Nat} {v : Int} (hb : b < w.heap.size) (hs : Same w w') {w0 : World} (h0 : Same w w0) (h : w0.cell? ⟨b, i, none⟩ = some (.int .i64 v)) : w'.cell? ⟨b, i, none⟩ = some (.int .i64 v) := by
  rw [hs.cell (p := ⟨b, i, none⟩) hb (fun h => h), ← h0.cell (p := ⟨b, i, none⟩) hb (fun h => h), h]

set_option maxRecDepth 100000 in
set_option maxHeartbeats 16000000 in
theorem queuePlays_ok (m : Nat) (A0 : Option Addr) (N C : Nat) (l0 : List (Int × Int)) (ask : Int) (w : World) (ha : Acts w A0 N l0) (hnm : N ≤ C) (hcm : C ≤ maxLen) (hm1 : 1 ≤ m) (hm3 : m ≤ 65536) :
    Calls Try.prog 7 #[.int .i64 m, .slice A0 N C, .int .i64 ask] w fun e w' => e = .returned (.bool true) ∧ Same w w' := by
  have Ha := hide ha
  have n1 : N ≤ maxLen := by omega
  unfold maxLen at n1
  have g1 : 1 ≤ (m : Int) := by omega
  have g2 : (m : Int) ≤ 65536 := by omega
  clear ha hcm hnm
  go_enter Try.func7, Try.ntmps7
  go_wp2_with (first
    | (go_at_call 22
       have hF := que_new m w g1 g2
       refine hF.mono ?_
       rintro e w1 ⟨g, rfl, hs1, F1, hr1, hf1⟩
       have Hr1 := hide hr1; have Hs1 := hide hs1; have Hf1 := hide hf1; clear hr1 hs1 hF hf1))
  go_loopg [10] N (fun k vi wr => ∃ i : Nat, i ≤ N ∧ k = N - i ∧ vi = .int .i64 i ∧ Same w wr ∧ PairX w wr g w1.heap.size m i)
  case atStart =>
    have hs2 := (Chg.refl (fun _ => False) w1).alloc (.cells #[.slice none 0 0, .bool false, .int .i64 m, .int .i64 0] 53)
    have hq := Hr1.out.same hs2
    refine ⟨0, Nat.zero_le _, rfl, rfl, Hs1.out.trans hs2, [], 0, false, 0, F1, none, 0, hq, ⟨Blk.new w1 _ _, ⟨Rd.nil _ _, rfl, Nat.le_refl _, Nat.zero_le _, by simp [blkOf]⟩, by simp [blkOf], fun h => by cases h⟩, ⟨fun h => by have := Hr1.out.lt _ h; omega, fun b hb => by simp [blkOf] at hb, Hs1.out.trans hs2, Hf1.out, Hs1.out.size⟩, fun _ => rfl, Nat.le_refl _, Nat.le_refl _⟩
  case round =>
    obtain ⟨i, hi, hkk, rfl, hsame, q, id, held, t, hp⟩ := hrel
    have Hk := hide hkk
    have HP := hide hp
    have Hs := hide hsame
    generalize w1.heap.size = g' at *
    clear hkk hp Hr1 Hs1 Hf1
    by_cases hlt : i < N ∧ i < 60
    · obtain ⟨bb, boff, ka, va, rfl, hbl, hli, hc0, hc1⟩ := Ha.out.at_ hsame hlt.1
      obtain ⟨hlt1, hlt2⟩ := hlt
      have Hbl := hide hbl
      have HS : Hid (∀ w', Same w w' → w'.cell? ⟨bb, boff + i * 2, none⟩ = some (.int .i64 ka) ∧ w'.cell? ⟨bb, boff + i * 2 + 1, none⟩ = some (.int .i64 va)) := hide fun w' h => ⟨acts_keep (k := 0) hbl h hsame hc0, acts_keep (k := 0) hbl h hsame hc1⟩
      clear hsame hli
      go_wp2_with fail
      go_region_with
        (first
          | (go_at_call 30
             have hF := does_any ka va (HP.out.same (Same.of_drewN wr 1)) hm3 (by omega)
             refine hF.mono ?_
             rintro e w2 ⟨rfl, q2, id2, held2, t2, hp2⟩
             have HW2 := hide hp2.all
             have HP2 := hide hp2
             clear hp2 hF)
          | (go_at_call 31
             obtain ⟨F2, A2, c2, hq2, hr2, hf2⟩ := HP2.out
             have Hq2 := hide hq2; have Hr2 := hide hr2; have Hz2 := hide hf2.2.1; have Hb2 := hide hf2.2.2
             have hF := que_waits hq2 hm3
             refine hF.mono ?_
             rintro e w6 ⟨A6, c6, rfl, how6, hs6⟩
             have hro6 := Row.own how6 rfl rfl
             have HW6 := hide (HW2.out.trans hs6); have Hs6 := hide hs6; have Ho6 := hide hro6
             clear hF hq2 hr2 hf2 how6 hs6 hro6)
          | (go_at_call 32
             have hF := refq_wait (Hr2.out.same Hs6.out)
             rw [waitL_lst] at hF
             refine hF.mono ?_
             rintro e w9 ⟨⟨A8, c8, rfl, hro8⟩, hww⟩
             subst hww
             have Ho8 := hide hro8
             clear hF hro8)
          | (go_at_call 19
             have hF := same_eq _ _ _ _ _ q2 w6 Ho6.out Ho8.out (by have := Hq2.out.len; omega)
             refine hF.mono ?_
             rintro e w7 ⟨rfl, hs7⟩
             have hr7 := Hr2.out.same (Hs6.out.trans hs7)
             have hk7 := hr7.1.cell
             have HW7 := hide (HW6.out.trans hs7); have Hs7 := hide (Hs6.out.trans hs7)
             clear hF hs7 hr7)
          | (go_at_call 28
             have hF := que_turns (Hq2.out.same Hs7.out)
             refine hF.mono ?_
             rintro e w8 ⟨rfl, hww⟩
             subst hww
             clear hF))
      all_goals (
        obtain ⟨nn, was, hA, hcase⟩ := pair_ahead ask (Hq2.out.same Hs7.out) hm3
        have HA := hide hA
        have hr8 := Hr2.out.same Hs7.out
        have Hid2 := hide Hz2.out
        clear hA hk7
        have hn65 : (lst q2 id2 held2).length ≤ 65536 := by have := Hb2.out.1; omega
        have Hat := hide (fun w' (h : Same w7 w') => at_any A2 _ c2 _ ask w' (hr8.2.1.same h) hn65)
        have Hnext := hide (fun w' (h : Same w7 w') => (⟨HW7.out.trans h, _, _, _, _, HP2.out.same (Hs7.out.trans h)⟩ : Same w w' ∧ PairX w w' g g' m (i + 1)))
        clear hn65
        cases held2
        · have hz : id2 = 0 := Hz2.out rfl
          subst hz
          have hk8 := fun w' (h : Same w7 w') => (hr8.same h).1.cell
          have Hk8 := hide hk8
          generalize (lst q2 0 false).length = n2 at *
          clear hk8 hr8
          rcases hcase with ⟨rfl, ⟨p, rfl⟩, hat⟩ | ⟨rfl, rfl, hat⟩
          · rw [hat] at Hat
            clear hat
            go_wp2_with (first
              | (go_at_call 33; have hF := que_holder (Hq2.out.same Hs7.out); refine hF.mono ?_; rintro e w9 ⟨rfl, hs9⟩; have Hs9 := hide hs9; clear hF hs9)
              | (go_at_call 26; have hF := HA.out _ Hs9.out; refine hF.mono ?_; rintro e w10 ⟨rfl, hs10⟩; have hk10 := Hk8.out _ (Hs9.out.trans hs10); have Hs10 := hide (Hs9.out.trans hs10); clear hF hs10)
              | (go_at_call 15; have hF := Hat.out _ Hs10.out; refine hF.mono ?_; rintro e w11 ⟨rfl, hww⟩; subst hww; clear hF))
            go_roundg (N - (i + 1))
            case measure => have := Hk.out; omega
            case rel => exact ⟨i + 1, by omega, rfl, by go_num, (Hnext.out _ Hs10.out).1, (Hnext.out _ Hs10.out).2⟩
          · rw [hat] at Hat
            clear hat
            go_wp2_with (first
              | (go_at_call 33; have hF := que_holder (Hq2.out.same Hs7.out); refine hF.mono ?_; rintro e w9 ⟨rfl, hs9⟩; have Hs9 := hide hs9; clear hF hs9)
              | (go_at_call 26; have hF := HA.out _ Hs9.out; refine hF.mono ?_; rintro e w10 ⟨rfl, hs10⟩; have hk10 := Hk8.out _ (Hs9.out.trans hs10); have Hs10 := hide (Hs9.out.trans hs10); clear hF hs10)
              | (go_at_call 15; have hF := Hat.out _ Hs10.out; refine hF.mono ?_; rintro e w11 ⟨rfl, hww⟩; subst hww; clear hF))
            go_roundg (N - (i + 1))
            case measure => have := Hk.out; omega
            case rel => exact ⟨i + 1, by omega, rfl, by go_num, (Hnext.out _ Hs10.out).1, (Hnext.out _ Hs10.out).2⟩
        · have hn : 0 < (lst q2 id2 true).length := by simp [lst]
          obtain ⟨b2, off2, rfl, bh, hc⟩ := hr8.2.1.at_ hn
          rw [show headI (lst q2 id2 true) = id2 from rfl] at hc
          have hcx : ∀ w', Same w7 w' → w'.cell? ⟨b2, off2, none⟩ = some (.int .i64 id2) := fun w' h => (h.cell (p := ⟨b2, off2, none⟩) bh (fun h => h)).trans hc
          have Hcx := hide hcx
          have hk8 := fun w' (h : Same w7 w') => (hr8.same h).1.cell
          have Hk8 := hide hk8
          generalize (lst q2 id2 true).length = n2 at *
          clear hk8 hr8 hcx hc
          rcases hcase with ⟨rfl, ⟨p, rfl⟩, hat⟩ | ⟨rfl, rfl, hat⟩
          · rw [hat] at Hat
            clear hat
            go_wp2_with (first
              | (go_at_call 33; have hF := que_holder (Hq2.out.same Hs7.out); refine hF.mono ?_; rintro e w9 ⟨rfl, hs9⟩; have Hs9 := hide hs9; clear hF hs9)
              | (go_at_call 26; have hF := HA.out _ Hs9.out; refine hF.mono ?_; rintro e w10 ⟨rfl, hs10⟩; have hk10 := Hk8.out _ (Hs9.out.trans hs10); have hc10 := Hcx.out _ (Hs9.out.trans hs10); have Hs10 := hide (Hs9.out.trans hs10); clear hF hs10)
              | (go_at_call 15; have hF := Hat.out _ Hs10.out; refine hF.mono ?_; rintro e w11 ⟨rfl, hww⟩; subst hww; clear hF))
            go_roundg (N - (i + 1))
            case measure => have := Hk.out; omega
            case rel => exact ⟨i + 1, by omega, rfl, by go_num, (Hnext.out _ Hs10.out).1, (Hnext.out _ Hs10.out).2⟩
          · rw [hat] at Hat
            clear hat
            go_wp2_with (first
              | (go_at_call 33; have hF := que_holder (Hq2.out.same Hs7.out); refine hF.mono ?_; rintro e w9 ⟨rfl, hs9⟩; have Hs9 := hide hs9; clear hF hs9)
              | (go_at_call 26; have hF := HA.out _ Hs9.out; refine hF.mono ?_; rintro e w10 ⟨rfl, hs10⟩; have hk10 := Hk8.out _ (Hs9.out.trans hs10); have hc10 := Hcx.out _ (Hs9.out.trans hs10); have Hs10 := hide (Hs9.out.trans hs10); clear hF hs10)
              | (go_at_call 15; have hF := Hat.out _ Hs10.out; refine hF.mono ?_; rintro e w11 ⟨rfl, hww⟩; subst hww; clear hF))
            go_roundg (N - (i + 1))
            case measure => have := Hk.out; omega
            case rel => exact ⟨i + 1, by omega, rfl, by go_num, (Hnext.out _ Hs10.out).1, (Hnext.out _ Hs10.out).2⟩)
    · clear hsame
      by_cases hin2 : i < N
      · go_wp2_with (go_at_call 29; have hF := qlives_any wr; refine hF.mono ?_; rintro e w2 ⟨rfl, hs2⟩; have Hs2 := hide hs2; clear hs2 hF)
        go_ret
        exact ⟨rfl, Hs.out.trans Hs2.out⟩
      · go_wp2_with (go_at_call 29; have hF := qlives_any wr; refine hF.mono ?_; rintro e w2 ⟨rfl, hs2⟩; have Hs2 := hide hs2; clear hs2 hF)
        go_ret
        exact ⟨rfl, Hs.out.trans Hs2.out⟩
end Go.Proofs.Ytkakhpbeglkbnaa
