/-
  ScriptReads' walk. Condition: what Go's library has laid.
-/
import Derived.Test.YtlodanjpkjfjiaaGreatDoorLvA
namespace Go.Proofs.YtlodanjpkjfjiaaGreatDoor
open Go.RowKit Go.Al
set_option linter.unusedVariables false

theorem cutAt_length (c : UInt8) : ∀ l : List UInt8, (cutAt c l).length ≤ l.length + 1
  | [] => by simp [cutAt]
  | b :: l => by
    have ih := cutAt_length c l
    unfold cutAt
    split
    · simp; omega
    · split
      · rename_i w r he
        rw [he] at ih
        simp at ih ⊢
        omega
      · simp
theorem fit_short {s : List UInt8} (h : s.length ≤ 400) : FitS s :=
  ⟨by omega, fun x hx => by
    have h1 := cutAt_len 10 s x hx
    have h2 := cutAt_length 32 x
    rw [split_cut]
    omega⟩
theorem split_short {s : List UInt8} (h : s.length ≤ 400) : (Lib.split s [32]).length ≤ 1000 := by
  have h2 := cutAt_length 32 s
  rw [split_cut]
  omega
theorem count_short {s : List UInt8} (h : s.length ≤ 400) : Lib.countByte s 10 ≤ 10000 := by
  have : Lib.countByte s 10 ≤ s.length := List.count_le_length
  omega
theorem drop_hit {s : List UInt8} {f i : Nat} (hf : f ≤ i) (hi : i < s.length) (h : s[i] = 10) : s.drop f = (s.take i).drop f ++ 10 :: s.drop (i + 1) := by
  have h1 : s = s.take i ++ 10 :: s.drop (i + 1) := by
    have h2 := List.take_append_drop i s
    rw [List.drop_eq_getElem_cons hi, h] at h2
    exact h2.symm
  have h3 : f ≤ (s.take i).length := by rw [List.length_take]; omega
  have := congrArg (List.drop f) h1
  rw [List.drop_append_of_le_length h3] at this
  exact this
theorem take_next {s : List UInt8} {f i : Nat} (hf : f ≤ i) (hi : i < s.length) : (s.take (i + 1)).drop f = (s.take i).drop f ++ [s[i]] := by
  rw [List.take_succ_eq_append_getElem hi, List.drop_append_of_le_length (by rw [List.length_take]; omega)]
/-- what is told at a line -/
theorem line_ok {t : List UInt8} {f i k : Nat} {acc : List Ac} {r0 : Except Nat (List Ac)} {a : Ac} (h : r0 = addA acc (readB oneW (t.drop f) (k + 1))) (hf : f ≤ i) (hi : i < t.length) (h10 : t[i] = 10) (hno : (10 : UInt8) ∉ (t.take i).drop f) (hp : parseB oneW ((t.take i).drop f) = some a) :
    r0 = addA (acc ++ [a]) (readB oneW (t.drop (i + 1)) (k + 1 + 1)) := by
  rw [h, drop_hit hf hi h10, readB_ok _ _ hno hp]
theorem line_bad {t : List UInt8} {f i k : Nat} {acc : List Ac} {r0 : Except Nat (List Ac)} (h : r0 = addA acc (readB oneW (t.drop f) (k + 1))) (hf : f ≤ i) (hi : i < t.length) (h10 : t[i] = 10) (hno : (10 : UInt8) ∉ (t.take i).drop f) (hp : parseB oneW ((t.take i).drop f) = none) :
    r0 = .error (k + 1) := by
  rw [h, drop_hit hf hi h10, readB_bad _ _ hno hp]
theorem addA_pre {acc l : List Ac} {r : Except Nat (List Ac)} (h : .ok l = addA acc r) : ∃ m, l = acc ++ m := by
  cases r with
  | error n => simp [addA] at h
  | ok m => simp [addA] at h; exact ⟨m, h⟩
set_option maxRecDepth 100000 in
set_option maxHeartbeats 16000000 in
theorem reads_err (s : List UInt8) (w : World) (ha : Amb w) (hl : s.length ≤ 400) {m : Nat} (hm : readB oneW (s) 1 = .error m) :
    Calls Tryz.prog 4 #[strV s] w fun e w' => e = .returned (.bool true) ∧ Same w w'  := by
  obtain ⟨t, ht⟩ : ∃ t, s = t := ⟨_, rfl⟩
  subst ht
  have h400 : s.length ≤ 400 := hl
  have hss : (⟨s.toArray⟩ : ByteArray).size = s.length := rfl
  have hlI : ¬ (400 : Int) < ((s.length : Nat) : Int) := by omega
  clear hl
  obtain ⟨r0, hr0⟩ : ∃ r, readB oneW s 1 = r := ⟨_, rfl⟩
  have H400 := hide h400
  have HRd := hide (read_any s w ha (fit_short h400) (count_short h400))
  have Hr0 := hide hr0
  rw [hr0] at hm
  obtain ⟨sl, hsl⟩ : ∃ n, s.length = n := ⟨_, rfl⟩
  have hsz : (⟨s.toArray⟩ : ByteArray).size = sl := hsl
  have hsl4 : sl ≤ 400 := by rw [← hsl]; exact h400
  have Hsl := hide hsl
  have Ha := hide ha
  have HRe := hide (HRd.out.mono (R' := fun e w' => e = .returned (.tuple #[.slice none 0 0, .int .i64 (m : Int), .int .i64 8]) ∧ Same w w') (by
    rintro e w' ⟨h1, h2⟩
    rcases h1 with ⟨L, A, c, h3, _⟩ | ⟨n, h3, h4⟩
    · rw [hr0, hm] at h3; cases h3
    · rw [hr0, hm] at h3; cases h3; exact ⟨h4, h2⟩))
  clear ha h400 hr0 hsl
  unfold strV at HRd HRe ⊢
  go_enter Tryz.func4, Tryz.ntmps4
  go_wp2_with (first
    | (go_at_call 16; (with_reducible refine HRe.out.mono ?_); rintro e w1 ⟨rfl, hs1⟩; have Hs1 := hide hs1; have Ha1 := hide (Ha.out.same hs1); clear hs1)
    | fail)
  go_loopg [6, 7, 8, 9, 10] sl (fun g v6 v7 v8 v9 v10 wr => ∃ (i f k : Nat) (acc : List Ac), g = sl - i ∧ i ≤ sl ∧ v6 = .int .i64 (f : Int) ∧ v7 = .int .i64 (k : Int) ∧ v8 = .int .i64 (i : Int) ∧ f ≤ i ∧ k ≤ i ∧ acc.length = k ∧ r0 = addA acc (readB oneW (s.drop f) (k + 1)) ∧ (10 : UInt8) ∉ (s.take i).drop f ∧ Same w1 wr)
  case atStart => exact ⟨0, 0, 0, [], rfl, Nat.zero_le _, rfl, rfl, rfl, Nat.le_refl _, Nat.le_refl _, rfl, by rw [← Hr0.out]; exact (addA_nil _).symm, by simp, Chg.refl _ _⟩
  case round =>
    obtain ⟨i, f, k, acc, hg, hi, rfl, rfl, rfl, hfi, hki, hacc, hread, hno, hsm⟩ := hrel
    have Hg := hide hg
    have Hacc := hide hacc
    have Hread := hide hread
    have Hno := hide hno
    have Hsm := hide hsm
    have Hamb := hide (Ha1.out.same hsm)
    clear hg hacc hread hno hsm
    have HL := hide (fun w' (hs : Same wr w') => lives_any w' (Hamb.out.same hs))
    by_cases hlt : i < sl
    · have hil : i < s.length := by rw [Hsl.out]; exact hlt
      have hgt := ba_get s i
      obtain ⟨y, hy⟩ : ∃ y, s[i] = y := ⟨_, rfl⟩
      have hgy : ∀ hh, (⟨s.toArray⟩ : ByteArray)[i]'hh = y := fun hh => (hgt hh).trans hy
      have Hy := hide hy
      have Hgy := hide hgy
      clear hgt hy
      by_cases h10 : y = 10
      · subst h10
        have hb10 : (((10 : UInt8).toNat : Nat) : Int) = 10 := rfl
        obtain ⟨x, hx⟩ : ∃ x, (s.take i).drop f = x := ⟨_, rfl⟩
        have hcut := str_cut (l := s) (b := x) (n := f) (m := i) hx hfi (by omega) (f : Int) (i : Int) rfl rfl
        have hxl : x.length ≤ 400 := by rw [← hx, List.length_drop, List.length_take]; have := H400.out; have := Hsl.out; omega
        have hP := fun w' (hs : Same wr w') => Parse_any x w' (Hamb.out.same hs) (by omega) (split_short hxl)
        cases hpb : parseB oneW x with
        | none =>
          have hrb := line_bad Hread.out hfi hil Hy.out Hno.out (by rw [hx]; exact hpb)
          have HP := hide (fun w' (hs : Same wr w') => (hP w' hs).mono (R' := fun e w2 => e = .returned (.tuple #[.agg (acL ac0 none 0).toArray, .int .i64 8]) ∧ Same w' w2) (by
            rintro e w2 ⟨h1, h2⟩
            rcases h1 with ⟨a, A, cc, h3, _⟩ | ⟨_, h4⟩
            · rw [hpb] at h3; cases h3
            · exact ⟨h4, h2⟩))
          obtain ⟨R, hR⟩ : ∃ R, R = acL ac0 none 0 := ⟨_, rfl⟩
          have HRl := hide (show R.length = 22 by rw [hR]; exact acL_len _ _ _)
          have HRl1 := hide (show ∀ u ∈ R, u.oneCell' = true by rw [hR]; exact one_acL _ _ _)
          rw [← hR] at HP
          unfold strV at HP
          have hmk : m = k + 1 := by rw [hm] at hrb; exact Except.error.inj hrb
          subst hmk
          clear hrb hP hx hxl hR
          have hgy2 := Hgy.out
          go_wp2_with (first
            | (go_at_call 9; (with_reducible refine (HP.out _ (Chg.refl _ _)).mono ?_); rintro e w4 ⟨rfl, hs4⟩; have Hs4 := hide hs4; clear hs4)
            | ((with_reducible refine stN 38 22 R 38 _ rowAct HRl.out ?_ HRl1.out ?_ ?_ ?_); rfl; rfl; rfl; have hb5 := Blk.new w4 38 R.toArray; have hs5 := (Chg.refl (fun _ => False) w4).alloc (.cells R.toArray 38); generalize w4.alloc (.cells R.toArray 38) = w5 at hb5 hs5 ⊢; have Hra5 := hide (blk_range hb5); have Hs45 := hide hs5; have Hs5 := hide (Same.trans Hs4.out hs5); clear hb5 hs5)
            | (go_at_call 13; (with_reducible refine (HL.out _ Hs5.out).mono ?_); rintro e w9 ⟨rfl, hs9⟩; have Hs9 := hide (Same.trans Hs5.out hs9); clear hs9)
            | fail)
          go_ret
          exact ⟨rfl, Same.trans (Same.trans Hs1.out Hsm.out) Hs9.out⟩
        | some a =>
          have hrb := line_ok Hread.out hfi hil Hy.out Hno.out (by rw [hx]; exact hpb)
          have HP := hide (fun w' (hs : Same wr w') => (hP w' hs).mono (R' := fun e w2 => (∃ Ab cb, e = .returned (.tuple #[.agg (laL ⟨a, Ab, cb⟩).toArray, .int .i64 0]) ∧ LaAt w2 ⟨a, Ab, cb⟩) ∧ Same w' w2) (by
            rintro e w2 ⟨h1, h2⟩
            rcases h1 with ⟨a', A, cc, h3, h4, h5, h6⟩ | ⟨h3, _⟩
            · rw [hpb] at h3; cases h3; exact ⟨⟨A, cc, h4, h5⟩, h2⟩
            · rw [hpb] at h3; cases h3))
          unfold strV at HP
          have Hrb := hide hrb
          clear hrb hP hx hxl
          have hgy2 := Hgy.out
          go_wp2_with (first
            | (go_at_call 9; (with_reducible refine (HP.out _ (Chg.refl _ _)).mono ?_); rintro e w4 ⟨⟨Ab, cb, rfl, hlat⟩, hs4⟩; have HRl := hide (laL_len ⟨a, Ab, cb⟩); have HRl1 := hide (one_laL ⟨a, Ab, cb⟩); have Hlat := hide hlat; have Hs4 := hide hs4; obtain ⟨R, hR⟩ : ∃ R, laL ⟨a, Ab, cb⟩ = R := ⟨_, rfl⟩; rw [hR] at HRl HRl1 ⊢; clear hlat hs4 hR)
            | ((with_reducible refine stN 38 22 R 38 _ rowAct HRl.out ?_ HRl1.out ?_ ?_ ?_); rfl; rfl; rfl; have hb5 := Blk.new w4 38 R.toArray; have hs5 := (Chg.refl (fun _ => False) w4).alloc (.cells R.toArray 38); generalize w4.alloc (.cells R.toArray 38) = w5 at hb5 hs5 ⊢; have Hra5 := hide (blk_range hb5); have Hs45 := hide hs5; have Hs5 := hide (Same.trans Hs4.out hs5); clear hb5 hs5)
            | fail)
          refine wp_region_mixS 18 (by kernel_rfl) (by kernel_rfl) fun Fin hFin => ?_
          simp only [List.take_succ_cons, List.take_zero]
          iterate 18 (
              (refine mix_lit ?_ ?_ (fun w => Chg.refl _ w) ?_ ?_ ?_ ?_
               rotate_left; rotate_left
               · intro e w1 hR hF K hK; (skip); go_simp; (refine hK _ _ (Chg.refl _ _) ?_; rfl)
               · intro e; simp only [Act.put, List.setIfInBounds_toArray, List.set_cons_zero, List.set_cons_succ]; rfl
               · exact Loc.const _ _))
          refine mix_nil fun e wR hR hF => hFin _ _ ?_
          simp only [List.drop_succ_cons, List.drop_zero]
          have HR := hide hR
          clear hR hF hFin
          go_wp2_with fail
          go_roundg (sl - (i + 1))
          case measure => have := Hg.out; omega
          case rel =>
            exact ⟨i + 1, i + 1, k + 1, acc ++ [a], rfl, by omega, by go_num, by go_num, by go_num, Nat.le_refl _, by omega, by rw [List.length_append, Hacc.out]; rfl, Hrb.out, by rw [List.drop_of_length_le (by rw [List.length_take]; omega)]; simp, Same.trans Hsm.out (Same.trans Hs5.out HR.out)⟩
      · have hne : (((y.toNat : Nat) : Int) == 10) = false := by
          have : y.toNat ≠ 10 := fun e => h10 (by rw [← UInt8.ofNat_toNat (x := y), e]; rfl)
          simp
          omega
        go_wp2_with fail
        go_roundg (sl - (i + 1))
        case measure => have := Hg.out; omega
        case rel =>
          refine ⟨i + 1, f, k, acc, rfl, by omega, rfl, rfl, by go_num, by omega, by omega, Hacc.out, Hread.out, ?_, Hsm.out⟩
          rw [take_next hfi hil, List.mem_append]
          rintro (h | h)
          · exact Hno.out h
          · rw [Hy.out] at h
            simp at h
            exact h10 h.symm
    · have hie : i = sl := by omega
      subst hie
      have htk : s.take i = s := List.take_of_length_le (by rw [Hsl.out]; exact Nat.le_refl _)
      have hno2 := Hno.out
      rw [htk] at hno2
      by_cases hfl : f < i
      · have hrb := (show r0 = .error (k + 1) by rw [Hread.out, readB_none hno2 (by intro e; have := congrArg List.length e; rw [List.length_drop, Hsl.out] at this; simp at this; omega)]; rfl)
        have hmk : m = k + 1 := by rw [hm] at hrb; exact Except.error.inj hrb
        subst hmk
        clear hrb
        go_wp2_with (first
          | (go_at_call 13; (with_reducible refine (HL.out _ (Chg.refl _ _)).mono ?_); rintro e w9 ⟨rfl, hs9⟩; have Hs9 := hide (Same.trans (Chg.refl (fun _ => False) wr) hs9); clear hs9)
          | fail)
        go_ret
        exact ⟨rfl, Same.trans (Same.trans Hs1.out Hsm.out) Hs9.out⟩
      · have hfe : f = i := by omega
        have hrb := (show r0 = .ok acc by rw [Hread.out, hfe, List.drop_of_length_le (by rw [Hsl.out]; exact Nat.le_refl _)]; simp [readB_nil, addA])
        rw [hm] at hrb
        cases hrb
set_option maxRecDepth 100000 in
set_option maxHeartbeats 16000000 in
theorem reads_errL (s : List UInt8) (w : World) (ha : Amb w) (hl : 400 < s.length) {m : Nat} (hm : readB oneW (s.take 400) 1 = .error m) :
    Calls Tryz.prog 4 #[strV s] w fun e w' => e = .returned (.bool true) ∧ Same w w'  := by
  have hto := str_to (l := s) (b := s.take 400) (n := 400) rfl (by omega) 400 rfl
  have hss : (⟨s.toArray⟩ : ByteArray).size = s.length := rfl
  obtain ⟨t, ht⟩ : ∃ t, s.take 400 = t := ⟨_, rfl⟩
  have h400 : t.length ≤ 400 := by rw [← ht, List.length_take]; omega
  rw [ht] at hm hto
  have hlI : (400 : Int) < ((s.length : Nat) : Int) := by omega
  clear ht hl
  generalize s.length = n0 at *
  obtain ⟨r0, hr0⟩ : ∃ r, readB oneW t 1 = r := ⟨_, rfl⟩
  have H400 := hide h400
  have HRd := hide (read_any t w ha (fit_short h400) (count_short h400))
  have Hr0 := hide hr0
  rw [hr0] at hm
  obtain ⟨sl, hsl⟩ : ∃ n, t.length = n := ⟨_, rfl⟩
  have hsz : (⟨t.toArray⟩ : ByteArray).size = sl := hsl
  have hsl4 : sl ≤ 400 := by rw [← hsl]; exact h400
  have Hsl := hide hsl
  have Ha := hide ha
  have HRe := hide (HRd.out.mono (R' := fun e w' => e = .returned (.tuple #[.slice none 0 0, .int .i64 (m : Int), .int .i64 8]) ∧ Same w w') (by
    rintro e w' ⟨h1, h2⟩
    rcases h1 with ⟨L, A, c, h3, _⟩ | ⟨n, h3, h4⟩
    · rw [hr0, hm] at h3; cases h3
    · rw [hr0, hm] at h3; cases h3; exact ⟨h4, h2⟩))
  clear ha h400 hr0 hsl
  unfold strV at HRd HRe ⊢
  go_enter Tryz.func4, Tryz.ntmps4
  go_wp2_with (first
    | (go_at_call 16; (with_reducible refine HRe.out.mono ?_); rintro e w1 ⟨rfl, hs1⟩; have Hs1 := hide hs1; have Ha1 := hide (Ha.out.same hs1); clear hs1)
    | fail)
  go_loopg [6, 7, 8, 9, 10] sl (fun g v6 v7 v8 v9 v10 wr => ∃ (i f k : Nat) (acc : List Ac), g = sl - i ∧ i ≤ sl ∧ v6 = .int .i64 (f : Int) ∧ v7 = .int .i64 (k : Int) ∧ v8 = .int .i64 (i : Int) ∧ f ≤ i ∧ k ≤ i ∧ acc.length = k ∧ r0 = addA acc (readB oneW (t.drop f) (k + 1)) ∧ (10 : UInt8) ∉ (t.take i).drop f ∧ Same w1 wr)
  case atStart => exact ⟨0, 0, 0, [], rfl, Nat.zero_le _, rfl, rfl, rfl, Nat.le_refl _, Nat.le_refl _, rfl, by rw [← Hr0.out]; exact (addA_nil _).symm, by simp, Chg.refl _ _⟩
  case round =>
    obtain ⟨i, f, k, acc, hg, hi, rfl, rfl, rfl, hfi, hki, hacc, hread, hno, hsm⟩ := hrel
    have Hg := hide hg
    have Hacc := hide hacc
    have Hread := hide hread
    have Hno := hide hno
    have Hsm := hide hsm
    have Hamb := hide (Ha1.out.same hsm)
    clear hg hacc hread hno hsm
    have HL := hide (fun w' (hs : Same wr w') => lives_any w' (Hamb.out.same hs))
    by_cases hlt : i < sl
    · have hil : i < t.length := by rw [Hsl.out]; exact hlt
      have hgt := ba_get t i
      obtain ⟨y, hy⟩ : ∃ y, t[i] = y := ⟨_, rfl⟩
      have hgy : ∀ hh, (⟨t.toArray⟩ : ByteArray)[i]'hh = y := fun hh => (hgt hh).trans hy
      have Hy := hide hy
      have Hgy := hide hgy
      clear hgt hy
      by_cases h10 : y = 10
      · subst h10
        have hb10 : (((10 : UInt8).toNat : Nat) : Int) = 10 := rfl
        obtain ⟨x, hx⟩ : ∃ x, (t.take i).drop f = x := ⟨_, rfl⟩
        have hcut := str_cut (l := t) (b := x) (n := f) (m := i) hx hfi (by omega) (f : Int) (i : Int) rfl rfl
        have hxl : x.length ≤ 400 := by rw [← hx, List.length_drop, List.length_take]; have := H400.out; have := Hsl.out; omega
        have hP := fun w' (hs : Same wr w') => Parse_any x w' (Hamb.out.same hs) (by omega) (split_short hxl)
        cases hpb : parseB oneW x with
        | none =>
          have hrb := line_bad Hread.out hfi hil Hy.out Hno.out (by rw [hx]; exact hpb)
          have HP := hide (fun w' (hs : Same wr w') => (hP w' hs).mono (R' := fun e w2 => e = .returned (.tuple #[.agg (acL ac0 none 0).toArray, .int .i64 8]) ∧ Same w' w2) (by
            rintro e w2 ⟨h1, h2⟩
            rcases h1 with ⟨a, A, cc, h3, _⟩ | ⟨_, h4⟩
            · rw [hpb] at h3; cases h3
            · exact ⟨h4, h2⟩))
          obtain ⟨R, hR⟩ : ∃ R, R = acL ac0 none 0 := ⟨_, rfl⟩
          have HRl := hide (show R.length = 22 by rw [hR]; exact acL_len _ _ _)
          have HRl1 := hide (show ∀ u ∈ R, u.oneCell' = true by rw [hR]; exact one_acL _ _ _)
          rw [← hR] at HP
          unfold strV at HP
          have hmk : m = k + 1 := by rw [hm] at hrb; exact Except.error.inj hrb
          subst hmk
          clear hrb hP hx hxl hR
          have hgy2 := Hgy.out
          go_wp2_with (first
            | (go_at_call 9; (with_reducible refine (HP.out _ (Chg.refl _ _)).mono ?_); rintro e w4 ⟨rfl, hs4⟩; have Hs4 := hide hs4; clear hs4)
            | ((with_reducible refine stN 38 22 R 38 _ rowAct HRl.out ?_ HRl1.out ?_ ?_ ?_); rfl; rfl; rfl; have hb5 := Blk.new w4 38 R.toArray; have hs5 := (Chg.refl (fun _ => False) w4).alloc (.cells R.toArray 38); generalize w4.alloc (.cells R.toArray 38) = w5 at hb5 hs5 ⊢; have Hra5 := hide (blk_range hb5); have Hs45 := hide hs5; have Hs5 := hide (Same.trans Hs4.out hs5); clear hb5 hs5)
            | (go_at_call 13; (with_reducible refine (HL.out _ Hs5.out).mono ?_); rintro e w9 ⟨rfl, hs9⟩; have Hs9 := hide (Same.trans Hs5.out hs9); clear hs9)
            | fail)
          go_ret
          exact ⟨rfl, Same.trans (Same.trans Hs1.out Hsm.out) Hs9.out⟩
        | some a =>
          have hrb := line_ok Hread.out hfi hil Hy.out Hno.out (by rw [hx]; exact hpb)
          have HP := hide (fun w' (hs : Same wr w') => (hP w' hs).mono (R' := fun e w2 => (∃ Ab cb, e = .returned (.tuple #[.agg (laL ⟨a, Ab, cb⟩).toArray, .int .i64 0]) ∧ LaAt w2 ⟨a, Ab, cb⟩) ∧ Same w' w2) (by
            rintro e w2 ⟨h1, h2⟩
            rcases h1 with ⟨a', A, cc, h3, h4, h5, h6⟩ | ⟨h3, _⟩
            · rw [hpb] at h3; cases h3; exact ⟨⟨A, cc, h4, h5⟩, h2⟩
            · rw [hpb] at h3; cases h3))
          unfold strV at HP
          have Hrb := hide hrb
          clear hrb hP hx hxl
          have hgy2 := Hgy.out
          go_wp2_with (first
            | (go_at_call 9; (with_reducible refine (HP.out _ (Chg.refl _ _)).mono ?_); rintro e w4 ⟨⟨Ab, cb, rfl, hlat⟩, hs4⟩; have HRl := hide (laL_len ⟨a, Ab, cb⟩); have HRl1 := hide (one_laL ⟨a, Ab, cb⟩); have Hlat := hide hlat; have Hs4 := hide hs4; obtain ⟨R, hR⟩ : ∃ R, laL ⟨a, Ab, cb⟩ = R := ⟨_, rfl⟩; rw [hR] at HRl HRl1 ⊢; clear hlat hs4 hR)
            | ((with_reducible refine stN 38 22 R 38 _ rowAct HRl.out ?_ HRl1.out ?_ ?_ ?_); rfl; rfl; rfl; have hb5 := Blk.new w4 38 R.toArray; have hs5 := (Chg.refl (fun _ => False) w4).alloc (.cells R.toArray 38); generalize w4.alloc (.cells R.toArray 38) = w5 at hb5 hs5 ⊢; have Hra5 := hide (blk_range hb5); have Hs45 := hide hs5; have Hs5 := hide (Same.trans Hs4.out hs5); clear hb5 hs5)
            | fail)
          refine wp_region_mixS 18 (by kernel_rfl) (by kernel_rfl) fun Fin hFin => ?_
          simp only [List.take_succ_cons, List.take_zero]
          iterate 18 (
              (refine mix_lit ?_ ?_ (fun w => Chg.refl _ w) ?_ ?_ ?_ ?_
               rotate_left; rotate_left
               · intro e w1 hR hF K hK; (skip); go_simp; (refine hK _ _ (Chg.refl _ _) ?_; rfl)
               · intro e; simp only [Act.put, List.setIfInBounds_toArray, List.set_cons_zero, List.set_cons_succ]; rfl
               · exact Loc.const _ _))
          refine mix_nil fun e wR hR hF => hFin _ _ ?_
          simp only [List.drop_succ_cons, List.drop_zero]
          have HR := hide hR
          clear hR hF hFin
          go_wp2_with fail
          go_roundg (sl - (i + 1))
          case measure => have := Hg.out; omega
          case rel =>
            exact ⟨i + 1, i + 1, k + 1, acc ++ [a], rfl, by omega, by go_num, by go_num, by go_num, Nat.le_refl _, by omega, by rw [List.length_append, Hacc.out]; rfl, Hrb.out, by rw [List.drop_of_length_le (by rw [List.length_take]; omega)]; simp, Same.trans Hsm.out (Same.trans Hs5.out HR.out)⟩
      · have hne : (((y.toNat : Nat) : Int) == 10) = false := by
          have : y.toNat ≠ 10 := fun e => h10 (by rw [← UInt8.ofNat_toNat (x := y), e]; rfl)
          simp
          omega
        go_wp2_with fail
        go_roundg (sl - (i + 1))
        case measure => have := Hg.out; omega
        case rel =>
          refine ⟨i + 1, f, k, acc, rfl, by omega, rfl, rfl, by go_num, by omega, by omega, Hacc.out, Hread.out, ?_, Hsm.out⟩
          rw [take_next hfi hil, List.mem_append]
          rintro (h | h)
          · exact Hno.out h
          · rw [Hy.out] at h
            simp at h
            exact h10 h.symm
    · have hie : i = sl := by omega
      subst hie
      have htk : t.take i = t := List.take_of_length_le (by rw [Hsl.out]; exact Nat.le_refl _)
      have hno2 := Hno.out
      rw [htk] at hno2
      by_cases hfl : f < i
      · have hrb := (show r0 = .error (k + 1) by rw [Hread.out, readB_none hno2 (by intro e; have := congrArg List.length e; rw [List.length_drop, Hsl.out] at this; simp at this; omega)]; rfl)
        have hmk : m = k + 1 := by rw [hm] at hrb; exact Except.error.inj hrb
        subst hmk
        clear hrb
        go_wp2_with (first
          | (go_at_call 13; (with_reducible refine (HL.out _ (Chg.refl _ _)).mono ?_); rintro e w9 ⟨rfl, hs9⟩; have Hs9 := hide (Same.trans (Chg.refl (fun _ => False) wr) hs9); clear hs9)
          | fail)
        go_ret
        exact ⟨rfl, Same.trans (Same.trans Hs1.out Hsm.out) Hs9.out⟩
      · have hfe : f = i := by omega
        have hrb := (show r0 = .ok acc by rw [Hread.out, hfe, List.drop_of_length_le (by rw [Hsl.out]; exact Nat.le_refl _)]; simp [readB_nil, addA])
        rw [hm] at hrb
        cases hrb
set_option maxRecDepth 100000 in
set_option maxHeartbeats 16000000 in
theorem reads_ok (s : List UInt8) (w : World) (ha : Amb w) (hl : s.length ≤ 400) {l0 : List Ac} (hm : readB oneW (s) 1 = .ok l0) :
    Calls Tryz.prog 4 #[strV s] w fun e w' => e = .returned (.bool true) ∧ Same w w'  := by
  obtain ⟨t, ht⟩ : ∃ t, s = t := ⟨_, rfl⟩
  subst ht
  have h400 : s.length ≤ 400 := hl
  have hss : (⟨s.toArray⟩ : ByteArray).size = s.length := rfl
  have hlI : ¬ (400 : Int) < ((s.length : Nat) : Int) := by omega
  clear hl
  obtain ⟨r0, hr0⟩ : ∃ r, readB oneW s 1 = r := ⟨_, rfl⟩
  have H400 := hide h400
  have HRd := hide (read_any s w ha (fit_short h400) (count_short h400))
  have Hr0 := hide hr0
  rw [hr0] at hm
  obtain ⟨sl, hsl⟩ : ∃ n, s.length = n := ⟨_, rfl⟩
  have hsz : (⟨s.toArray⟩ : ByteArray).size = sl := hsl
  have hsl4 : sl ≤ 400 := by rw [← hsl]; exact h400
  have Hsl := hide hsl
  have Ha := hide ha
  have HRe := hide (HRd.out.mono (R' := fun e w' => (∃ (L : List La) (A : Option Addr) (c nL : Nat), L.length = nL ∧ r0 = .ok (L.map (·.a)) ∧ e = .returned (.tuple #[.slice A nL c, .int .i64 0, .int .i64 0]) ∧ Acts w' A L) ∧ Same w w') (by
    rintro e w' ⟨h1, h2⟩
    rcases h1 with ⟨L, A, c, h3, h4, h5⟩ | ⟨n, h3, h4⟩
    · exact ⟨⟨L, A, c, _, rfl, by rw [← hr0]; exact h3, h4, h5⟩, h2⟩
    · rw [hr0, hm] at h3; cases h3))
  clear hm
  clear ha h400 hr0 hsl
  unfold strV at HRd HRe ⊢
  go_enter Tryz.func4, Tryz.ntmps4
  go_wp2_with (first
    | (go_at_call 16; (with_reducible refine HRe.out.mono ?_); rintro e w1 ⟨⟨L, A, c, nL, hnL, hm, rfl, hacts⟩, hs1⟩; have Hs1 := hide hs1; have Ha1 := hide (Ha.out.same hs1); have HnL := hide hnL; have Hm := hide hm; have Hacts := hide hacts; clear hs1 hnL hm hacts)
    | fail)
  go_loopg [6, 7, 8, 9, 10] sl (fun g v6 v7 v8 v9 v10 wr => ∃ (i f k : Nat) (acc : List Ac), g = sl - i ∧ i ≤ sl ∧ v6 = .int .i64 (f : Int) ∧ v7 = .int .i64 (k : Int) ∧ v8 = .int .i64 (i : Int) ∧ f ≤ i ∧ k ≤ i ∧ acc.length = k ∧ r0 = addA acc (readB oneW (s.drop f) (k + 1)) ∧ (10 : UInt8) ∉ (s.take i).drop f ∧ Same w1 wr)
  case atStart => exact ⟨0, 0, 0, [], rfl, Nat.zero_le _, rfl, rfl, rfl, Nat.le_refl _, Nat.le_refl _, rfl, by rw [← Hr0.out]; exact (addA_nil _).symm, by simp, Chg.refl _ _⟩
  case round =>
    obtain ⟨i, f, k, acc, hg, hi, rfl, rfl, rfl, hfi, hki, hacc, hread, hno, hsm⟩ := hrel
    have Hg := hide hg
    have Hacc := hide hacc
    have Hread := hide hread
    have Hno := hide hno
    have Hsm := hide hsm
    have Hamb := hide (Ha1.out.same hsm)
    clear hg hacc hread hno hsm
    have HL := hide (fun w' (hs : Same wr w') => lives_any w' (Hamb.out.same hs))
    by_cases hlt : i < sl
    · have hil : i < s.length := by rw [Hsl.out]; exact hlt
      have hgt := ba_get s i
      obtain ⟨y, hy⟩ : ∃ y, s[i] = y := ⟨_, rfl⟩
      have hgy : ∀ hh, (⟨s.toArray⟩ : ByteArray)[i]'hh = y := fun hh => (hgt hh).trans hy
      have Hy := hide hy
      have Hgy := hide hgy
      clear hgt hy
      by_cases h10 : y = 10
      · subst h10
        have hb10 : (((10 : UInt8).toNat : Nat) : Int) = 10 := rfl
        obtain ⟨x, hx⟩ : ∃ x, (s.take i).drop f = x := ⟨_, rfl⟩
        have hcut := str_cut (l := s) (b := x) (n := f) (m := i) hx hfi (by omega) (f : Int) (i : Int) rfl rfl
        have hxl : x.length ≤ 400 := by rw [← hx, List.length_drop, List.length_take]; have := H400.out; have := Hsl.out; omega
        have hP := fun w' (hs : Same wr w') => Parse_any x w' (Hamb.out.same hs) (by omega) (split_short hxl)
        cases hpb : parseB oneW x with
        | none =>
          have hrb := line_bad Hread.out hfi hil Hy.out Hno.out (by rw [hx]; exact hpb)
          rw [Hm.out] at hrb
          cases hrb
        | some a =>
          have hrb := line_ok Hread.out hfi hil Hy.out Hno.out (by rw [hx]; exact hpb)
          have HP := hide (fun w' (hs : Same wr w') => (hP w' hs).mono (R' := fun e w2 => (∃ Ab cb, e = .returned (.tuple #[.agg (laL ⟨a, Ab, cb⟩).toArray, .int .i64 0]) ∧ LaAt w2 ⟨a, Ab, cb⟩) ∧ Same w' w2) (by
            rintro e w2 ⟨h1, h2⟩
            rcases h1 with ⟨a', A, cc, h3, h4, h5, h6⟩ | ⟨h3, _⟩
            · rw [hpb] at h3; cases h3; exact ⟨⟨A, cc, h4, h5⟩, h2⟩
            · rw [hpb] at h3; cases h3))
          unfold strV at HP
          obtain ⟨m0, hm0⟩ := addA_pre (Hm.out.symm.trans hrb)
          have hkL : k < L.length := by
            have := congrArg List.length hm0
            simp at this
            have := Hacc.out
            omega
          have hLk : L[k].a = a := by
            have h1 : (L.map (·.a))[k]? = some L[k].a := by rw [List.getElem?_map, List.getElem?_eq_getElem hkL]; rfl
            rw [hm0, List.append_assoc, List.getElem?_append_right (by rw [Hacc.out]; exact Nat.le_refl _), Hacc.out, Nat.sub_self] at h1
            simp at h1
            exact h1.symm
          obtain ⟨bL, oL, hAL, hbL, hraL, _⟩ := Hacts.out.at_ hkL
          have HraL := hide hraL
          have Hrb := hide hrb
          have Hkn := hide (show k < nL by rw [← HnL.out]; exact hkL)
          have hkn := Hkn.out
          have hkn1 : ((k : Nat) : Int) + 1 ≤ ((nL : Nat) : Int) := by omega
          have hkn3 : ((k : Nat) : Int) < ((nL : Nat) : Int) := by omega
          have hkn2 : decide (((nL : Nat) : Int) < ((k : Nat) : Int) + 1) = false := by rw [decide_eq_false_iff_not]; omega
          have hwk : IntKind.i64.wrap ((k : Nat) : Int) = ((k : Nat) : Int) := IntWalk.i64_in _ (by omega)
          have hLl := laL_len L[k]
          have HLl := hide hLl
          clear hrb hP hx hxl hm0 hraL hLl
          have hgy2 := Hgy.out
          subst hAL
          go_wp2_with (first
            | (go_at_call 9; (with_reducible refine (HP.out _ (Chg.refl _ _)).mono ?_); rintro e w4 ⟨⟨Ab, cb, rfl, hlat⟩, hs4⟩; have HRl := hide (laL_len ⟨a, Ab, cb⟩); have HRl1 := hide (one_laL ⟨a, Ab, cb⟩); have Hlat := hide hlat; have Hs4 := hide hs4; have HSm := hide (fun (w' : World) (h1 : LaAt w' ⟨a, Ab, cb⟩) (h2 : Acts w' (some ⟨bL, oL, none⟩) L) => (by have h3 := rsame_any a a (A := L[k].A) (B := Ab) (c := L[k].c) (d := cb) w' (by rw [← hLk]; exact (h2.rep _ (List.getElem_mem hkL)).1) h1.1; rw [eqA_refl] at h3; exact h3 : Calls Tryz.prog 14 #[acV a L[k].A L[k].c, acV a Ab cb] w' fun e w'' => e = .returned (.bool true) ∧ Same w' w'')); unfold acV at HSm; rw [show acL a L[k].A L[k].c = laL L[k] from by unfold laL; rw [hLk], show acL a Ab cb = laL ⟨a, Ab, cb⟩ from rfl] at HSm; obtain ⟨R, hR⟩ : ∃ R, laL ⟨a, Ab, cb⟩ = R := ⟨_, rfl⟩; rw [hR] at HRl HRl1 HSm ⊢; clear hlat hs4 hR)
            | ((with_reducible refine stN 38 22 R 38 _ rowAct HRl.out ?_ HRl1.out ?_ ?_ ?_); rfl; rfl; rfl; have hb5 := Blk.new w4 38 R.toArray; have hs5 := (Chg.refl (fun _ => False) w4).alloc (.cells R.toArray 38); generalize w4.alloc (.cells R.toArray 38) = w5 at hb5 hs5 ⊢; have Hra5 := hide (blk_range hb5); have Hs45 := hide hs5; have Hs5 := hide (Same.trans Hs4.out hs5); clear hb5 hs5)
            | fail)
          obtain ⟨RL, hRL⟩ : ∃ RL, laL L[k] = RL := ⟨_, rfl⟩
          rw [hRL] at HraL HLl HSm
          have HSf := hide (fun w' (hs : Same w5 w') => HSm.out w' ((Hlat.out.same Hs45.out).same hs) (Hacts.out.same (Same.trans (Same.trans Hsm.out Hs5.out) hs)))
          clear HSm hRL
          refine wp_region_mixS 18 (by kernel_rfl) (by kernel_rfl) fun Fin hFin => ?_
          simp only [List.take_succ_cons, List.take_zero]
          iterate 12 (
              (refine mix_lit ?_ ?_ (fun w => Chg.refl _ w) ?_ ?_ ?_ ?_
               rotate_left; rotate_left
               · intro e w1 hR hF K hK; (skip); go_simp; (refine hK _ _ (Chg.refl _ _) ?_; rfl)
               · intro e; simp only [Act.put, List.setIfInBounds_toArray, List.set_cons_zero, List.set_cons_succ]; rfl
               · exact Loc.const _ _))
          refine mix_ld RL ?_ (fun w => Chg.refl _ w) (fun _ => by rfl) 38 _ rfl bL (oL + k * 22) (fun _ => by rfl) _ (fun w1 hR => rangeAt_same HraL.out (Same.trans (Same.trans Hsm.out Hs5.out) hR)) Tryz.underlying38 rfl (by rw [HLl.out]; exact infoAct) ?_ ?_
          rotate_left
          · intro e; simp only [Act.put, List.setIfInBounds_toArray, List.set_cons_zero, List.set_cons_succ]; rfl
          refine mix_ld R ?_ (fun w => Chg.refl _ w) (fun _ => by rfl) 38 _ rfl w4.heap.size 0 (fun _ => by rfl) _ (fun w1 hR => rangeAt_same Hra5.out hR) Tryz.underlying38 rfl (by rw [HRl.out]; exact infoAct) ?_ ?_
          rotate_left
          · intro e; simp only [Act.put, List.setIfInBounds_toArray, List.set_cons_zero, List.set_cons_succ]; rfl
          iterate 4 (
              (refine mix_lit ?_ ?_ (fun w => Chg.refl _ w) ?_ ?_ ?_ ?_
               rotate_left; rotate_left
               · intro e w1 hR hF K hK; (skip); go_simp; (first | (refine hK _ _ (Chg.refl _ _) ?_; rfl) | (go_at_call 14; (with_reducible refine (HSf.out _ hR).mono ?_); rintro _ w2 ⟨rfl, hs⟩; refine hK _ _ hs ?_; rfl))
               · intro e; simp only [Act.put, List.setIfInBounds_toArray, List.set_cons_zero, List.set_cons_succ]; rfl
               · exact Loc.const _ _))
          refine mix_nil fun e wR hR hF => hFin _ _ ?_
          simp only [List.drop_succ_cons, List.drop_zero]
          have HR := hide hR
          clear hR hF hFin
          go_wp2_with fail
          go_roundg (sl - (i + 1))
          case measure => have := Hg.out; omega
          case rel =>
            exact ⟨i + 1, i + 1, k + 1, acc ++ [a], rfl, by omega, by go_num, by go_num, by go_num, Nat.le_refl _, by omega, by rw [List.length_append, Hacc.out]; rfl, Hrb.out, by rw [List.drop_of_length_le (by rw [List.length_take]; omega)]; simp, Same.trans Hsm.out (Same.trans Hs5.out HR.out)⟩
      · have hne : (((y.toNat : Nat) : Int) == 10) = false := by
          have : y.toNat ≠ 10 := fun e => h10 (by rw [← UInt8.ofNat_toNat (x := y), e]; rfl)
          simp
          omega
        go_wp2_with fail
        go_roundg (sl - (i + 1))
        case measure => have := Hg.out; omega
        case rel =>
          refine ⟨i + 1, f, k, acc, rfl, by omega, rfl, rfl, by go_num, by omega, by omega, Hacc.out, Hread.out, ?_, Hsm.out⟩
          rw [take_next hfi hil, List.mem_append]
          rintro (h | h)
          · exact Hno.out h
          · rw [Hy.out] at h
            simp at h
            exact h10 h.symm
    · have hie : i = sl := by omega
      subst hie
      have htk : s.take i = s := List.take_of_length_le (by rw [Hsl.out]; exact Nat.le_refl _)
      have hno2 := Hno.out
      rw [htk] at hno2
      by_cases hfl : f < i
      · have hrb := (show r0 = .error (k + 1) by rw [Hread.out, readB_none hno2 (by intro e; have := congrArg List.length e; rw [List.length_drop, Hsl.out] at this; simp at this; omega)]; rfl)
        rw [Hm.out] at hrb
        cases hrb
      · have hfe : f = i := by omega
        have hrb := (show r0 = .ok acc by rw [Hread.out, hfe, List.drop_of_length_le (by rw [Hsl.out]; exact Nat.le_refl _)]; simp [readB_nil, addA])
        rw [Hm.out] at hrb
        have hlk : nL = k := by rw [← HnL.out, ← Hacc.out, ← Except.ok.inj hrb, List.length_map]
        subst hlk
        clear hrb
        go_wp2_with (first
          | (go_at_call 13; (with_reducible refine (HL.out _ (Chg.refl _ _)).mono ?_); rintro e w9 ⟨rfl, hs9⟩; have Hs9 := hide (Same.trans (Chg.refl (fun _ => False) wr) hs9); clear hs9)
          | fail)
        go_ret
        exact ⟨rfl, Same.trans (Same.trans Hs1.out Hsm.out) Hs9.out⟩
set_option maxRecDepth 100000 in
set_option maxHeartbeats 16000000 in
theorem reads_okL (s : List UInt8) (w : World) (ha : Amb w) (hl : 400 < s.length) {l0 : List Ac} (hm : readB oneW (s.take 400) 1 = .ok l0) :
    Calls Tryz.prog 4 #[strV s] w fun e w' => e = .returned (.bool true) ∧ Same w w'  := by
  have hto := str_to (l := s) (b := s.take 400) (n := 400) rfl (by omega) 400 rfl
  have hss : (⟨s.toArray⟩ : ByteArray).size = s.length := rfl
  obtain ⟨t, ht⟩ : ∃ t, s.take 400 = t := ⟨_, rfl⟩
  have h400 : t.length ≤ 400 := by rw [← ht, List.length_take]; omega
  rw [ht] at hm hto
  have hlI : (400 : Int) < ((s.length : Nat) : Int) := by omega
  clear ht hl
  generalize s.length = n0 at *
  obtain ⟨r0, hr0⟩ : ∃ r, readB oneW t 1 = r := ⟨_, rfl⟩
  have H400 := hide h400
  have HRd := hide (read_any t w ha (fit_short h400) (count_short h400))
  have Hr0 := hide hr0
  rw [hr0] at hm
  obtain ⟨sl, hsl⟩ : ∃ n, t.length = n := ⟨_, rfl⟩
  have hsz : (⟨t.toArray⟩ : ByteArray).size = sl := hsl
  have hsl4 : sl ≤ 400 := by rw [← hsl]; exact h400
  have Hsl := hide hsl
  have Ha := hide ha
  have HRe := hide (HRd.out.mono (R' := fun e w' => (∃ (L : List La) (A : Option Addr) (c nL : Nat), L.length = nL ∧ r0 = .ok (L.map (·.a)) ∧ e = .returned (.tuple #[.slice A nL c, .int .i64 0, .int .i64 0]) ∧ Acts w' A L) ∧ Same w w') (by
    rintro e w' ⟨h1, h2⟩
    rcases h1 with ⟨L, A, c, h3, h4, h5⟩ | ⟨n, h3, h4⟩
    · exact ⟨⟨L, A, c, _, rfl, by rw [← hr0]; exact h3, h4, h5⟩, h2⟩
    · rw [hr0, hm] at h3; cases h3))
  clear hm
  clear ha h400 hr0 hsl
  unfold strV at HRd HRe ⊢
  go_enter Tryz.func4, Tryz.ntmps4
  go_wp2_with (first
    | (go_at_call 16; (with_reducible refine HRe.out.mono ?_); rintro e w1 ⟨⟨L, A, c, nL, hnL, hm, rfl, hacts⟩, hs1⟩; have Hs1 := hide hs1; have Ha1 := hide (Ha.out.same hs1); have HnL := hide hnL; have Hm := hide hm; have Hacts := hide hacts; clear hs1 hnL hm hacts)
    | fail)
  go_loopg [6, 7, 8, 9, 10] sl (fun g v6 v7 v8 v9 v10 wr => ∃ (i f k : Nat) (acc : List Ac), g = sl - i ∧ i ≤ sl ∧ v6 = .int .i64 (f : Int) ∧ v7 = .int .i64 (k : Int) ∧ v8 = .int .i64 (i : Int) ∧ f ≤ i ∧ k ≤ i ∧ acc.length = k ∧ r0 = addA acc (readB oneW (t.drop f) (k + 1)) ∧ (10 : UInt8) ∉ (t.take i).drop f ∧ Same w1 wr)
  case atStart => exact ⟨0, 0, 0, [], rfl, Nat.zero_le _, rfl, rfl, rfl, Nat.le_refl _, Nat.le_refl _, rfl, by rw [← Hr0.out]; exact (addA_nil _).symm, by simp, Chg.refl _ _⟩
  case round =>
    obtain ⟨i, f, k, acc, hg, hi, rfl, rfl, rfl, hfi, hki, hacc, hread, hno, hsm⟩ := hrel
    have Hg := hide hg
    have Hacc := hide hacc
    have Hread := hide hread
    have Hno := hide hno
    have Hsm := hide hsm
    have Hamb := hide (Ha1.out.same hsm)
    clear hg hacc hread hno hsm
    have HL := hide (fun w' (hs : Same wr w') => lives_any w' (Hamb.out.same hs))
    by_cases hlt : i < sl
    · have hil : i < t.length := by rw [Hsl.out]; exact hlt
      have hgt := ba_get t i
      obtain ⟨y, hy⟩ : ∃ y, t[i] = y := ⟨_, rfl⟩
      have hgy : ∀ hh, (⟨t.toArray⟩ : ByteArray)[i]'hh = y := fun hh => (hgt hh).trans hy
      have Hy := hide hy
      have Hgy := hide hgy
      clear hgt hy
      by_cases h10 : y = 10
      · subst h10
        have hb10 : (((10 : UInt8).toNat : Nat) : Int) = 10 := rfl
        obtain ⟨x, hx⟩ : ∃ x, (t.take i).drop f = x := ⟨_, rfl⟩
        have hcut := str_cut (l := t) (b := x) (n := f) (m := i) hx hfi (by omega) (f : Int) (i : Int) rfl rfl
        have hxl : x.length ≤ 400 := by rw [← hx, List.length_drop, List.length_take]; have := H400.out; have := Hsl.out; omega
        have hP := fun w' (hs : Same wr w') => Parse_any x w' (Hamb.out.same hs) (by omega) (split_short hxl)
        cases hpb : parseB oneW x with
        | none =>
          have hrb := line_bad Hread.out hfi hil Hy.out Hno.out (by rw [hx]; exact hpb)
          rw [Hm.out] at hrb
          cases hrb
        | some a =>
          have hrb := line_ok Hread.out hfi hil Hy.out Hno.out (by rw [hx]; exact hpb)
          have HP := hide (fun w' (hs : Same wr w') => (hP w' hs).mono (R' := fun e w2 => (∃ Ab cb, e = .returned (.tuple #[.agg (laL ⟨a, Ab, cb⟩).toArray, .int .i64 0]) ∧ LaAt w2 ⟨a, Ab, cb⟩) ∧ Same w' w2) (by
            rintro e w2 ⟨h1, h2⟩
            rcases h1 with ⟨a', A, cc, h3, h4, h5, h6⟩ | ⟨h3, _⟩
            · rw [hpb] at h3; cases h3; exact ⟨⟨A, cc, h4, h5⟩, h2⟩
            · rw [hpb] at h3; cases h3))
          unfold strV at HP
          obtain ⟨m0, hm0⟩ := addA_pre (Hm.out.symm.trans hrb)
          have hkL : k < L.length := by
            have := congrArg List.length hm0
            simp at this
            have := Hacc.out
            omega
          have hLk : L[k].a = a := by
            have h1 : (L.map (·.a))[k]? = some L[k].a := by rw [List.getElem?_map, List.getElem?_eq_getElem hkL]; rfl
            rw [hm0, List.append_assoc, List.getElem?_append_right (by rw [Hacc.out]; exact Nat.le_refl _), Hacc.out, Nat.sub_self] at h1
            simp at h1
            exact h1.symm
          obtain ⟨bL, oL, hAL, hbL, hraL, _⟩ := Hacts.out.at_ hkL
          have HraL := hide hraL
          have Hrb := hide hrb
          have Hkn := hide (show k < nL by rw [← HnL.out]; exact hkL)
          have hkn := Hkn.out
          have hkn1 : ((k : Nat) : Int) + 1 ≤ ((nL : Nat) : Int) := by omega
          have hkn3 : ((k : Nat) : Int) < ((nL : Nat) : Int) := by omega
          have hkn2 : decide (((nL : Nat) : Int) < ((k : Nat) : Int) + 1) = false := by rw [decide_eq_false_iff_not]; omega
          have hwk : IntKind.i64.wrap ((k : Nat) : Int) = ((k : Nat) : Int) := IntWalk.i64_in _ (by omega)
          have hLl := laL_len L[k]
          have HLl := hide hLl
          clear hrb hP hx hxl hm0 hraL hLl
          have hgy2 := Hgy.out
          subst hAL
          go_wp2_with (first
            | (go_at_call 9; (with_reducible refine (HP.out _ (Chg.refl _ _)).mono ?_); rintro e w4 ⟨⟨Ab, cb, rfl, hlat⟩, hs4⟩; have HRl := hide (laL_len ⟨a, Ab, cb⟩); have HRl1 := hide (one_laL ⟨a, Ab, cb⟩); have Hlat := hide hlat; have Hs4 := hide hs4; have HSm := hide (fun (w' : World) (h1 : LaAt w' ⟨a, Ab, cb⟩) (h2 : Acts w' (some ⟨bL, oL, none⟩) L) => (by have h3 := rsame_any a a (A := L[k].A) (B := Ab) (c := L[k].c) (d := cb) w' (by rw [← hLk]; exact (h2.rep _ (List.getElem_mem hkL)).1) h1.1; rw [eqA_refl] at h3; exact h3 : Calls Tryz.prog 14 #[acV a L[k].A L[k].c, acV a Ab cb] w' fun e w'' => e = .returned (.bool true) ∧ Same w' w'')); unfold acV at HSm; rw [show acL a L[k].A L[k].c = laL L[k] from by unfold laL; rw [hLk], show acL a Ab cb = laL ⟨a, Ab, cb⟩ from rfl] at HSm; obtain ⟨R, hR⟩ : ∃ R, laL ⟨a, Ab, cb⟩ = R := ⟨_, rfl⟩; rw [hR] at HRl HRl1 HSm ⊢; clear hlat hs4 hR)
            | ((with_reducible refine stN 38 22 R 38 _ rowAct HRl.out ?_ HRl1.out ?_ ?_ ?_); rfl; rfl; rfl; have hb5 := Blk.new w4 38 R.toArray; have hs5 := (Chg.refl (fun _ => False) w4).alloc (.cells R.toArray 38); generalize w4.alloc (.cells R.toArray 38) = w5 at hb5 hs5 ⊢; have Hra5 := hide (blk_range hb5); have Hs45 := hide hs5; have Hs5 := hide (Same.trans Hs4.out hs5); clear hb5 hs5)
            | fail)
          obtain ⟨RL, hRL⟩ : ∃ RL, laL L[k] = RL := ⟨_, rfl⟩
          rw [hRL] at HraL HLl HSm
          have HSf := hide (fun w' (hs : Same w5 w') => HSm.out w' ((Hlat.out.same Hs45.out).same hs) (Hacts.out.same (Same.trans (Same.trans Hsm.out Hs5.out) hs)))
          clear HSm hRL
          refine wp_region_mixS 18 (by kernel_rfl) (by kernel_rfl) fun Fin hFin => ?_
          simp only [List.take_succ_cons, List.take_zero]
          iterate 12 (
              (refine mix_lit ?_ ?_ (fun w => Chg.refl _ w) ?_ ?_ ?_ ?_
               rotate_left; rotate_left
               · intro e w1 hR hF K hK; (skip); go_simp; (refine hK _ _ (Chg.refl _ _) ?_; rfl)
               · intro e; simp only [Act.put, List.setIfInBounds_toArray, List.set_cons_zero, List.set_cons_succ]; rfl
               · exact Loc.const _ _))
          refine mix_ld RL ?_ (fun w => Chg.refl _ w) (fun _ => by rfl) 38 _ rfl bL (oL + k * 22) (fun _ => by rfl) _ (fun w1 hR => rangeAt_same HraL.out (Same.trans (Same.trans Hsm.out Hs5.out) hR)) Tryz.underlying38 rfl (by rw [HLl.out]; exact infoAct) ?_ ?_
          rotate_left
          · intro e; simp only [Act.put, List.setIfInBounds_toArray, List.set_cons_zero, List.set_cons_succ]; rfl
          refine mix_ld R ?_ (fun w => Chg.refl _ w) (fun _ => by rfl) 38 _ rfl w4.heap.size 0 (fun _ => by rfl) _ (fun w1 hR => rangeAt_same Hra5.out hR) Tryz.underlying38 rfl (by rw [HRl.out]; exact infoAct) ?_ ?_
          rotate_left
          · intro e; simp only [Act.put, List.setIfInBounds_toArray, List.set_cons_zero, List.set_cons_succ]; rfl
          iterate 4 (
              (refine mix_lit ?_ ?_ (fun w => Chg.refl _ w) ?_ ?_ ?_ ?_
               rotate_left; rotate_left
               · intro e w1 hR hF K hK; (skip); go_simp; (first | (refine hK _ _ (Chg.refl _ _) ?_; rfl) | (go_at_call 14; (with_reducible refine (HSf.out _ hR).mono ?_); rintro _ w2 ⟨rfl, hs⟩; refine hK _ _ hs ?_; rfl))
               · intro e; simp only [Act.put, List.setIfInBounds_toArray, List.set_cons_zero, List.set_cons_succ]; rfl
               · exact Loc.const _ _))
          refine mix_nil fun e wR hR hF => hFin _ _ ?_
          simp only [List.drop_succ_cons, List.drop_zero]
          have HR := hide hR
          clear hR hF hFin
          go_wp2_with fail
          go_roundg (sl - (i + 1))
          case measure => have := Hg.out; omega
          case rel =>
            exact ⟨i + 1, i + 1, k + 1, acc ++ [a], rfl, by omega, by go_num, by go_num, by go_num, Nat.le_refl _, by omega, by rw [List.length_append, Hacc.out]; rfl, Hrb.out, by rw [List.drop_of_length_le (by rw [List.length_take]; omega)]; simp, Same.trans Hsm.out (Same.trans Hs5.out HR.out)⟩
      · have hne : (((y.toNat : Nat) : Int) == 10) = false := by
          have : y.toNat ≠ 10 := fun e => h10 (by rw [← UInt8.ofNat_toNat (x := y), e]; rfl)
          simp
          omega
        go_wp2_with fail
        go_roundg (sl - (i + 1))
        case measure => have := Hg.out; omega
        case rel =>
          refine ⟨i + 1, f, k, acc, rfl, by omega, rfl, rfl, by go_num, by omega, by omega, Hacc.out, Hread.out, ?_, Hsm.out⟩
          rw [take_next hfi hil, List.mem_append]
          rintro (h | h)
          · exact Hno.out h
          · rw [Hy.out] at h
            simp at h
            exact h10 h.symm
    · have hie : i = sl := by omega
      subst hie
      have htk : t.take i = t := List.take_of_length_le (by rw [Hsl.out]; exact Nat.le_refl _)
      have hno2 := Hno.out
      rw [htk] at hno2
      by_cases hfl : f < i
      · have hrb := (show r0 = .error (k + 1) by rw [Hread.out, readB_none hno2 (by intro e; have := congrArg List.length e; rw [List.length_drop, Hsl.out] at this; simp at this; omega)]; rfl)
        rw [Hm.out] at hrb
        cases hrb
      · have hfe : f = i := by omega
        have hrb := (show r0 = .ok acc by rw [Hread.out, hfe, List.drop_of_length_le (by rw [Hsl.out]; exact Nat.le_refl _)]; simp [readB_nil, addA])
        rw [Hm.out] at hrb
        have hlk : nL = k := by rw [← HnL.out, ← Hacc.out, ← Except.ok.inj hrb, List.length_map]
        subst hlk
        clear hrb
        go_wp2_with (first
          | (go_at_call 13; (with_reducible refine (HL.out _ (Chg.refl _ _)).mono ?_); rintro e w9 ⟨rfl, hs9⟩; have Hs9 := hide (Same.trans (Chg.refl (fun _ => False) wr) hs9); clear hs9)
          | fail)
        go_ret
        exact ⟨rfl, Same.trans (Same.trans Hs1.out Hsm.out) Hs9.out⟩
theorem scriptReads_any (s : List UInt8) (w : World) (ha : Amb w) :
    Calls Tryz.prog 4 #[strV s] w fun e w' => e = .returned (.bool true) ∧ Same w w' := by
  by_cases hl : s.length ≤ 400
  · cases hm : readB oneW s 1 with
    | error m => exact reads_err s w ha hl hm
    | ok l => exact reads_ok s w ha hl hm
  · cases hm : readB oneW (s.take 400) 1 with
    | error m => exact reads_errL s w ha (by omega) hm
    | ok l => exact reads_okL s w ha (by omega) hm
end Go.Proofs.YtlodanjpkjfjiaaGreatDoor
