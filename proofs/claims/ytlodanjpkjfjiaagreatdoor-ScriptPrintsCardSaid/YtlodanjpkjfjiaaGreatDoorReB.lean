/-
  script.Read: a text taken for acts. Conditions: what Go's library has laid; a text of a sound length, not too many lines, the words of each not too many.
-/
import Derived.Test.YtlodanjpkjfjiaaGreatDoorReA
namespace Go.Proofs.YtlodanjpkjfjiaaGreatDoor
open Go.RowKit Go.Al
set_option linter.unusedVariables false

/-- how Read ends -/
def ReadEnd (s : List UInt8) (w : World) (e : Ending) (w' : World) : Prop :=
  ((∃ (l : List La) (A : Option Addr) (c : Nat), readB oneW s 1 = .ok (l.map (·.a)) ∧ e = .returned (.tuple #[.slice A l.length c, .int .i64 0, .int .i64 0]) ∧ Acts w' A l) ∨ (∃ n : Nat, readB oneW s 1 = .error n ∧ e = .returned (.tuple #[.slice none 0 0, .int .i64 n, .int .i64 8]))) ∧ Same w w'
theorem countS_any (l : List UInt8) (w : World) : Calls Tryz.prog 28 #[.string ⟨l.toArray⟩, .string ⟨#[10]⟩] w fun e w' => e = .returned (.int .i64 (Lib.countByte l 10)) ∧ w = w' :=
  (strings_Count_one ⟨l.toArray⟩ 10 w).mono fun e w' ⟨he, hw⟩ => ⟨he, hw.symm⟩
set_option maxRecDepth 100000 in
set_option maxHeartbeats 16000000 in
theorem read_any (s : List UInt8) (w : World) (ha : Amb w) (hf : FitS s) (hc : Lib.countByte s 10 ≤ 10000) :
    Calls Tryz.prog 16 #[strV s] w (ReadEnd s w) := by
  have hl1 : s.length ≤ 1000000 := hf.1
  have HCo := hide (countS_any s)
  have Hf := hide hf
  have Ha := hide ha
  have HE1 : Hid (∀ (l : List La) (A : Option Addr) (n c : Nat) (w' : World), readB oneW s 1 = .ok (l.map (·.a)) → OwnA w w' A n c l → ReadEnd s w (.returned (.tuple #[.slice A n c, .int .i64 0, .int .i64 0])) w') := hide fun l A n c w' h1 h2 => by
    refine ⟨.inl ⟨l, A, c, h1, by rw [h2.len], h2.acts⟩, h2.sm⟩
  have HE2 : Hid (∀ (n : Nat) (w' : World), readB oneW s 1 = .error n → Same w w' → ReadEnd s w (.returned (.tuple #[.slice none 0 0, .int .i64 (n : Int), .int .i64 8])) w') := hide fun n w' h1 h2 => ⟨.inr ⟨n, h1, rfl⟩, h2⟩
  generalize ReadEnd s w = Q at *
  obtain ⟨r0, hr0⟩ : ∃ r, readB oneW s 1 = r := ⟨_, rfl⟩
  rw [hr0] at HE1 HE2
  have Hr0 := hide hr0
  clear hr0 ha hf
  unfold strV
  have hsz : (⟨s.toArray⟩ : ByteArray).size = s.length := rfl
  obtain ⟨sl, hsl⟩ : ∃ n, s.length = n := ⟨_, rfl⟩
  rw [hsl] at hl1
  have hsz2 : (⟨s.toArray⟩ : ByteArray).size = sl := hsl
  have Hsl := hide hsl
  clear hsz hsl
  have hl2 : ¬ (1048576 : Int) < (sl : Int) := by omega
  obtain ⟨cn, hcn⟩ : ∃ n, Lib.countByte s 10 = n := ⟨_, rfl⟩
  rw [hcn] at HCo hc
  clear hcn
  have hc2 : ¬ (10000 : Int) < (cn : Int) := by omega
  go_enter Tryz.func16, Tryz.ntmps16
  go_wp2_with (first
    | (go_at_call 28; (with_reducible refine (HCo.out _).mono ?_); rintro e w1 ⟨rfl, rfl⟩)
    | fail)
  go_loopg [0, 5, 6, 7, 8, 9, 10, 11] sl (fun k v0 v5 v6 v7 v8 v9 v10 v11 wr => ∃ (rest : List UInt8) (L : List La) (A : Option Addr) (n c : Nat), k = rest.length ∧ v0 = .string ⟨rest.toArray⟩ ∧ v5 = .slice A n c ∧ v6 = .int .i64 ((n : Int) + 1) ∧ FitS rest ∧ n + rest.length ≤ 1000000 ∧ r0 = addA (L.map (·.a)) (readB oneW rest (n + 1)) ∧ OwnA w wr A n c L)
  case atStart => exact ⟨s, [], none, 0, 0, Hsl.out.symm, rfl, rfl, rfl, Hf.out, by rw [Hsl.out]; omega, by rw [← Hr0.out]; exact (addA_nil _).symm, OwnA.nil w⟩
  case round =>
    obtain ⟨rest, L, A, n, c, hk, rfl, rfl, rfl, hfit, hle, hread, hown⟩ := hrel
    have Hk := hide hk
    have Hfit := hide hfit
    have Hle := hide hle
    have Hread := hide hread
    have Hown := hide hown
    have Hamb := hide (Ha.out.same hown.sm)
    clear hk hfit hle hread hown
    by_cases hnil : rest = []
    · subst hnil
      have hbn : (([] : List UInt8) != []) = false := rfl
      have HF := hide (HE1.out L A n c wr (by rw [Hread.out]; simp [readB_nil, addA]) Hown.out)
      go_wp2_with fail
      go_ret3
      exact HF.out
    · have hbn : (rest == []) = false := by simpa using hnil
      have HC := hide (cutS_any rest wr Hamb.out.mx Hfit.out.1)
      rcases cut_cases 10 rest with ⟨h10, hcut, _⟩ | ⟨x, r, h10, hxr, hcut, _⟩
      · rw [hcut] at HC
        have hm := Hfit.out.miss h10
        have HP := hide (fun w' (hs : Same wr w') => parse_any rest w' (Hamb.out.same hs) hm.1 hm.2)
        have HX : Hid (∀ w' e w2, ParseEnd rest w' e w2 → ∃ (R : List Value) (cr : Int), e = .returned (.tuple #[.agg R.toArray, .int .i64 cr]) ∧ R.length = 22 ∧ (∀ u ∈ R, u.oneCell' = true) ∧ Same w' w2) := hide fun w' e w2 hp => by
          obtain ⟨h1, h2⟩ := hp
          rcases h1 with ⟨a, A, cc, _, h4, _⟩ | ⟨_, h4⟩
          · exact ⟨_, _, h4, acL_len _ _ _, one_acL _ _ _, h2⟩
          · exact ⟨_, _, h4, acL_len _ _ _, one_acL _ _ _, h2⟩
        have HF := hide (fun w' (hs : Same wr w') => HE2.out (n + 1) w' (by rw [Hread.out, readB_none h10 hnil]; rfl) (Same.trans Hown.out.sm hs))
        rw [show (((n + 1 : Nat) : Int)) = (n : Int) + 1 from by omega] at HF
        unfold strV at HP
        clear hcut hm h10
        go_wp2_with (first
          | (go_at_call 29; (with_reducible refine HC.out.mono ?_); rintro e w3 ⟨rfl, hs3⟩; have Hs3 := hide hs3; clear hs3)
          | (go_at_call 23; (with_reducible refine (HP.out _ Hs3.out).mono ?_); rintro e w4 hp; obtain ⟨R, cr, rfl, hRl, hR1, hs4⟩ := HX.out _ _ _ hp; have HRl := hide hRl; have HRl1 := hide hR1; have Hs4 := hide (Same.trans Hs3.out hs4); clear hp hRl hR1 hs4)
          | ((with_reducible refine stN 38 22 R 38 _ rowAct HRl.out ?_ HRl1.out ?_ ?_ ?_); rfl; rfl; rfl; have hb5 := Blk.new w4 38 R.toArray; have hs5 := (Chg.refl (fun _ => False) w4).alloc (.cells R.toArray 38); generalize w4.alloc (.cells R.toArray 38) = w5 at hb5 hs5 ⊢; have Hra5 := hide (blk_range hb5); have Hs5 := hide (Same.trans Hs4.out hs5); have Hs45 := hide hs5; clear hb5 hs5)
          | fail)
        go_ret3
        exact HF.out _ Hs5.out
      · rw [hcut] at HC
        have hit := (show FitS (x ++ 10 :: r) by rw [← hxr]; exact Hfit.out).hit h10
        have hP := fun w' (hs : Same wr w') => parse_any x w' (Hamb.out.same hs) hit.1.1 hit.1.2
        have Hfr := hide hit.2
        clear hcut hit
        cases hpb : parseB oneW x with
        | none =>
          have HP := hide (fun w' (hs : Same wr w') => (hP w' hs).mono (R' := fun e w2 => e = .returned (.tuple #[.agg (acL ac0 none 0).toArray, .int .i64 8]) ∧ Same w' w2) (by
            rintro e w2 ⟨h1, h2⟩
            rcases h1 with ⟨a, A, cc, h3, _⟩ | ⟨_, h4⟩
            · rw [hpb] at h3; cases h3
            · exact ⟨h4, h2⟩))
          have HF := hide (fun w' (hs : Same wr w') => HE2.out (n + 1) w' (by rw [Hread.out, hxr, readB_bad _ _ h10 hpb]) (Same.trans Hown.out.sm hs))
          rw [show (((n + 1 : Nat) : Int)) = (n : Int) + 1 from by omega] at HF
          obtain ⟨R, hR⟩ : ∃ R, R = acL ac0 none 0 := ⟨_, rfl⟩
          have HRl := hide (show R.length = 22 by rw [hR]; exact acL_len _ _ _)
          have HRl1 := hide (show ∀ u ∈ R, u.oneCell' = true by rw [hR]; exact one_acL _ _ _)
          rw [← hR] at HP
          unfold strV at HP
          clear hP hxr h10 hpb hR
          go_wp2_with (first
            | (go_at_call 29; (with_reducible refine HC.out.mono ?_); rintro e w3 ⟨rfl, hs3⟩; have Hs3 := hide hs3; clear hs3)
            | (go_at_call 23; (with_reducible refine (HP.out _ Hs3.out).mono ?_); rintro e w4 ⟨rfl, hs4⟩; have Hs4 := hide (Same.trans Hs3.out hs4); clear hs4)
            | ((with_reducible refine stN 38 22 R 38 _ rowAct HRl.out ?_ HRl1.out ?_ ?_ ?_); rfl; rfl; rfl; have hb5 := Blk.new w4 38 R.toArray; have hs5 := (Chg.refl (fun _ => False) w4).alloc (.cells R.toArray 38); generalize w4.alloc (.cells R.toArray 38) = w5 at hb5 hs5 ⊢; have Hra5 := hide (blk_range hb5); have Hs5 := hide (Same.trans Hs4.out hs5); have Hs45 := hide hs5; clear hb5 hs5)
            | fail)
          go_ret3
          exact HF.out _ Hs5.out
        | some a =>
          have HP := hide (fun w' (hs : Same wr w') => (hP w' hs).mono (R' := fun e w2 => (∃ Ab cb, e = .returned (.tuple #[.agg (laL ⟨a, Ab, cb⟩).toArray, .int .i64 0]) ∧ LaAt w2 ⟨a, Ab, cb⟩ ∧ ∀ b, blkOf Ab = some b → w'.heap.size ≤ b) ∧ Same w' w2) (by
            rintro e w2 ⟨h1, h2⟩
            rcases h1 with ⟨a', A, cc, h3, h4, h5, h6⟩ | ⟨h3, _⟩
            · rw [hpb] at h3; cases h3; exact ⟨⟨A, cc, h4, h5, h6⟩, h2⟩
            · rw [hpb] at h3; cases h3))
          have Hrd := hide (show r0 = addA (L.map (·.a) ++ [a]) (readB oneW r (n + 1 + 1)) by rw [Hread.out, hxr, readB_ok _ _ h10 hpb])
          have hlen := Hle.out
          rw [hxr] at hlen
          simp at hlen
          have hlk : r.length < rest.length := by rw [hxr]; simp; omega
          have Hlk := hide hlk
          unfold strV at HP
          clear hP hxr h10 hpb hlk
          go_wp2_with (first
            | (go_at_call 29; (with_reducible refine HC.out.mono ?_); rintro e w3 ⟨rfl, hs3⟩; have Hs3 := hide hs3; clear hs3)
            | (go_at_call 23; (with_reducible refine (HP.out _ Hs3.out).mono ?_); rintro e w4 ⟨⟨Ab, cb, rfl, hlat, hfar⟩, hs4⟩; have Hd := hide (laL_len ⟨a, Ab, cb⟩); have Hd1 := hide (one_laL ⟨a, Ab, cb⟩); have Hlat := hide hlat; have Hfar := hide (fun b hb => (show wr.heap.size ≤ b from Nat.le_trans Hs3.out.size (hfar b hb))); have Hs4 := hide (Same.trans Hs3.out hs4); obtain ⟨R, hR⟩ : ∃ R, laL ⟨a, Ab, cb⟩ = R := ⟨_, rfl⟩; have HR := hide hR; rw [hR] at Hd Hd1 ⊢; have HRl := Hd; have HRl1 := Hd1; clear hlat hfar hs4 hR)
            | ((with_reducible refine stN 38 22 R 38 _ rowAct HRl.out ?_ HRl1.out ?_ ?_ ?_); rfl; rfl; rfl; have hb5 := Blk.new w4 38 R.toArray; have hs5 := (Chg.refl (fun _ => False) w4).alloc (.cells R.toArray 38); generalize w4.alloc (.cells R.toArray 38) = w5 at hb5 hs5 ⊢; have Hra5 := hide (blk_range hb5); have Hs5 := hide (Same.trans Hs4.out hs5); have Hs45 := hide hs5; clear hb5 hs5)
            | ((with_reducible refine ldR 38 w4.heap.size 0 22 R rowAct HRl.out Hra5.out ?_ ?_ ?_); rfl; rfl)
            | (refine wpList_bs1 (by rfl) 48 38 _ rfl R rfl _ 22 192 Tryz.underlying48 infoA3 HRl.out (by decide) (by decide) ?_)
            | (at_builtin; refine wpList_appS (by rfl) (.tmp 42) (.tmp 44) _ (by rfl) slAc (by rfl) (base := w.heap.size) (by exact own_chg Hown.out.own (Chg.alloc Hs5.out _) (fun _ _ h => h)) (by rfl) (show R.length = 1 * 22 from HRl.out) (by exact rd_lit _ _ _ _ _ rfl) HRl1.out (by omega) (by omega) (by have := Hown.out.sm.size; have := Hs5.out.size; simp; omega) ?_; intro A6 c6 w6 hown6 hc6 hb6; have Hown6 := hide hown6; have Hc6 := hide hc6; have Hb6 := hide hb6; clear hown6 hc6 hb6)
            | fail)
          go_roundg r.length
          case measure => have := Hk.out; have := Hlk.out; omega
          case rel =>
            have h1 := Hown.out.own
            have hA : ∀ b, blkOf A = some b → b < wr.heap.size := fun b hb => (h1.lt b (by rw [ownBlock_slice]; exact hb)).2
            have h2 := Hown6.out
            have hrow := (Hown.out.same (Chg.alloc Hs5.out (.cells R.toArray 38))).snoc (d := ⟨a, Ab, cb⟩) ((Hlat.out.same Hs45.out).same ((Chg.refl _ _).alloc _)) (fun h0 b hb => ⟨Nat.le_trans Hown.out.sm.size (Hfar.out b hb), ?_, fun e => absurd (hA b e) (by have := Hfar.out b hb; omega)⟩) (by rw [HR.out]; exact h2) Hc6.out Hb6.out
            · exact ⟨r, L ++ [⟨a, Ab, cb⟩], A6, n + 1, c6, rfl, rfl, rfl, by go_num, Hfr.out, by omega, by rw [List.map_append]; exact Hrd.out, hrow⟩
            · obtain ⟨b2, hb2, hlt⟩ := Hlat.out.1.lt (fun e => h0 (List.map_eq_nil_iff.1 e))
              rw [hb] at hb2
              have e2 : b2 = b := (Option.some.inj hb2).symm
              have := Hs45.out.size
              simp
              omega
end Go.Proofs.YtlodanjpkjfjiaaGreatDoor
