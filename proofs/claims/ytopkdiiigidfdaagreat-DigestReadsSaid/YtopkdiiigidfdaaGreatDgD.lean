/-
  The document's own words: which points and intervals are good; a number's bytes behind others. Condition: at most 1048576 bytes ahead.
-/
import Derived.Test.YtopkdiiigidfdaaGreatCdB
import Derived.Test.YtopkdiiigidfdaaGreatDgA
import Derived.Test.YtopkdiiigidfdaaGreatTcA
namespace Go.Proofs.YtopkdiiigidfdaaGreat
open Go.RowKit Go.Al
set_option linter.unusedVariables false

theorem zigP (x : Int) (h0 : 0 ≤ x) (h1 : x ≤ 9223372036854775807) : IntKind.u64.wrap (2 * IntKind.u64.wrap x) = ((Lib.zigzag x : Nat) : Int) := by
  rw [IntKind.wrap_u64, IntKind.wrap_u64, Lib.zigzag_nonneg h0]
  omega
theorem zigN (x : Int) (h0 : -9223372036854775808 ≤ x) (h1 : x < 0) : IntKind.u64.wrap (IntKind.u64.wrap (2 * IntKind.u64.wrap (-(x + 1))) + 1) = ((Lib.zigzag x : Nat) : Int) := by
  rw [IntKind.wrap_u64, IntKind.wrap_u64, IntKind.wrap_u64]
  unfold Lib.zigzag
  rw [if_neg (by omega)]
  omega
set_option maxRecDepth 100000 in
set_option maxHeartbeats 4000000 in
theorem intRf_any {base n c : Nat} {A : Option Addr} {l : List UInt8} (x : Int) (w : World) (h0 : -9223372036854775808 ≤ x) (h1 : x ≤ 9223372036854775807) (hown : w.ownsRow base 5 1 (.slice A n c) n (bs l)) (hb : base ≤ w.heap.size) (hn : n ≤ 1048576) :
    Calls Tryz.prog 54 #[.slice A n c, .int .i64 x] w (PutEnd w base A (n + (encI x).length) (l ++ encI x)) := by
  have hu := Lib.zigzag_lt h0 h1
  have hl10 := encI_len h0 h1
  have hlp := encI_pos x
  have hzz : (0 ≤ x ∧ IntKind.u64.wrap (2 * IntKind.u64.wrap x) = ((Lib.zigzag x : Nat) : Int)) ∨ (¬ 0 ≤ x ∧ IntKind.i64.wrap (x + 1) = x + 1 ∧ IntKind.i64.wrap (-(x + 1)) = -(x + 1) ∧ IntKind.u64.wrap (IntKind.u64.wrap (2 * IntKind.u64.wrap (-(x + 1))) + 1) = ((Lib.zigzag x : Nat) : Int)) := by
    by_cases h : 0 ≤ x
    · exact .inl ⟨h, zigP x h h1⟩
    · exact .inr ⟨h, IntWalk.i64_in _ (by omega), IntWalk.i64_in _ (by omega), zigN x h0 (by omega)⟩
  unfold encI at *
  generalize Lib.zigzag x = u at *
  have Hown := hide hown
  have Hget := hide (fun j (h : j < (Lib.uvarint u).length) => uv_get j u h)
  have Hmore := hide (fun j (h : j < (Lib.uvarint u).length) (h2 : ¬ uvAt u j < 128) => uv_more h h2)
  have Hlast := hide (fun j (h : j < (Lib.uvarint u).length) (h2 : uvAt u j < 128) => uv_take_small h h2)
  have Hlt := hide (fun j => Nat.lt_of_le_of_lt (show uvAt u j ≤ u from Nat.div_le_self _ _) hu)
  have Htk := hide (fun (j : Nat) (y : UInt8) (h : (Lib.uvarint u)[j]? = some y) => take_enc h)
  obtain ⟨N, hN⟩ : ∃ N, (Lib.uvarint u).length = N := ⟨_, rfl⟩
  rw [hN] at hl10 hlp Hget Hmore Hlast ⊢
  have HN := hide hN
  clear hown hN hu
  rcases hzz with ⟨hx, hz⟩ | ⟨hx, hx1, hx2, hz⟩
  all_goals clear h0 h1
  all_goals
    go_enter Tryz.func54, Tryz.ntmps54
    go_wp2_with fail
    go_loopg [0, 5] N (fun k vb vz wr => ∃ (j : Nat) (A0 : Option Addr) (c0 : Nat), j < N ∧ k = N - j ∧ vb = .slice A0 (n + j) c0 ∧ vz = .int .u64 ((uvAt u j : Nat) : Int) ∧ wr.ownsRow base 5 1 (.slice A0 (n + j) c0) (n + j) (bs (l ++ (Lib.uvarint u).take j)) ∧ Chg (fun k => blkOf A = some k) w wr ∧ (blkOf A0 = blkOf A ∨ ∀ b, blkOf A0 = some b → w.heap.size ≤ b))
    case atStart => exact ⟨0, A, c, by omega, by omega, rfl, by rw [uvAt_zero], by simpa using Hown.out, Chg.refl _ _, .inl rfl⟩
    case round =>
      obtain ⟨j, A0, c0, hj, hk, rfl, rfl, ho, hc, hbl⟩ := hrel
      have Hk := hide hk
      have Ho := hide ho
      have Hc := hide hc
      have Hbl := hide hbl
      have Hz := hide hc.size
      have hlt := Hlt.out j
      have hget := Hget.out j hj
      have hsucc := uvAt_succ u j
      have Hs2 := hide hsucc
      clear hk ho hc hbl hsucc
      by_cases hs : uvAt u j < 128
      · have hlast := Hlast.out j hj hs
        rw [if_pos hs] at hget
        have Hget2 := hide (Htk.out j _ hget)
        generalize uvAt u j = z at *
        have hw : (z : Int) % 256 = (z : Int) := by omega
        have hz1 : ¬ (127 : Int) < (z : Int) := by omega
        have Hone := hide (bs_one z (by omega))
        have Hlast := hide hlast
        clear hget hlast
        go_wp2_with (first
          | (at_builtin; refine wpList_appS (by rfl) (.tmp 28) (.tmp 31) _ (by rfl) slB (by rfl) (base := base) (by exact own_chg Ho.out ((Chg.refl (fun _ => False) wr).alloc _) (fun _ _ h => h)) (by rfl) (show (bs [z.toUInt8]).length = 1 * 1 from rfl) (by rw [Hone.out]; exact rd_lit _ _ _ _ _ rfl) (one_bs _) (by omega) (by omega) (by have := Hz.out; simp; omega) ?_; intro A3 c3 w5 hown hc hb5; have HE := hide (show PutEnd w base A (n + N) (l ++ Lib.uvarint u) (.returned (.slice A3 (n + j + 1) c3)) w5 from (by have e : n + N = n + j + 1 := (by have := Hlast.out; omega); rw [e]; refine ⟨A3, c3, rfl, ?_, grown_chg Hc.out Hbl.out hc, grown_blk Hz.out Hbl.out hb5⟩; have e2 : l ++ Lib.uvarint u = (l ++ (Lib.uvarint u).take j) ++ [z.toUInt8] := (by rw [List.append_assoc, ← Hget2.out, List.take_of_length_le (by rw [HN.out]; have := Hlast.out; omega)]); rw [e2, bs_append]; exact hown)); clear hown hc hb5)
          | fail)
        go_ret
        exact HE.out
      · have hmore := Hmore.out j hj hs
        rw [if_neg hs] at hget
        have Hget2 := hide (Htk.out j _ hget)
        generalize hgz : uvAt u j = z at *
        have hz1 : (127 : Int) < (z : Int) := by omega
        have hz128 : IntKind.u64.wrap (128 + (z : Int) % 128) = ((z % 128 + 128 : Nat) : Int) := by rw [IntKind.wrap_u64]; omega
        have hzb : ((z % 128 + 128 : Nat) : Int) % 256 = ((z % 128 + 128 : Nat) : Int) := by omega
        have Hone := hide (bs_one (z % 128 + 128) (by omega))
        have Hmore := hide hmore
        clear hget hmore hgz
        go_wp2_with (first
          | (at_builtin; refine wpList_appS (by rfl) (.tmp 19) (.tmp 24) _ (by rfl) slB (by rfl) (base := base) (by exact own_chg Ho.out ((Chg.refl (fun _ => False) wr).alloc _) (fun _ _ h => h)) (by rfl) (show (bs [(z % 128 + 128).toUInt8]).length = 1 * 1 from rfl) (by rw [Hone.out]; exact rd_lit _ _ _ _ _ rfl) (one_bs _) (by omega) (by omega) (by have := Hz.out; simp; omega) ?_; intro A3 c3 w5 hown hc hb5; have Hown3 := hide hown; have HC3 := hide (grown_chg Hc.out Hbl.out hc); have HB3 := hide (grown_blk Hz.out Hbl.out hb5); clear hown hc hb5)
          | fail)
        go_roundg (N - (j + 1))
        case measure => have := Hk.out; have := Hmore.out; omega
        case rel =>
          refine ⟨j + 1, A3, c3, Hmore.out, rfl, rfl, ?_, ?_, HC3.out, HB3.out⟩
          · rw [Hs2.out]; rfl
          · rw [Hget2.out, ← List.append_assoc, bs_append]; exact Hown3.out
set_option maxRecDepth 100000 in
set_option maxHeartbeats 2000000 in
theorem rgood3_any (p : P3) (w : World) :
    Calls Tryz.prog 49 #[agg3 p] w fun e w' => e = .returned (.bool (goodPB p)) ∧ Same w w' := by
  have HI := hide (fun w' => idok_any p.1 w')
  have HL := hide (fun w' => lies_is p.1 p.2.1 p.2.2 w' _ (show (good p.2.1 && good p.2.2) = (coordB p.2.1 && coordB p.2.2) from rfl))
  rw [show idOk p.1 = idB p.1 from rfl] at HI
  unfold goodPB
  generalize (coordB p.2.1 && coordB p.2.2) = b at *
  generalize idB p.1 = a at *
  obtain ⟨i, x, y⟩ := p
  unfold agg3 at *
  simp only at *
  cases a
  all_goals cases b
  all_goals
    go_enter Tryz.func49, Tryz.ntmps49
    go_wp2_with (first
      | (go_at_call 86; (with_reducible refine (HI.out _).mono ?_); rintro e w' ⟨rfl, rfl⟩)
      | (go_at_call 87; (with_reducible refine (HL.out _).mono ?_); rintro e w' ⟨rfl, hs⟩; have Hs := hide hs; clear hs)
      | fail)
    go_ret
    exact ⟨rfl, by first | exact (Chg.refl _ _).alloc _ | exact Same.trans ((Chg.refl _ _).alloc _) Hs.out⟩
set_option maxRecDepth 100000 in
set_option maxHeartbeats 4000000 in
theorem rfair3_any (p : P3) (w : World) :
    Calls Tryz.prog 50 #[agg3 p] w fun e w' => e = .returned (.bool (fairB p)) ∧ Same w w' := by
  have HI := hide (fun w' => idok_any p.1 w')
  have HX := hide (fun w' => coord_is p.2.1 w' _ (show good p.2.1 = coordB p.2.1 from rfl))
  have HY := hide (fun w' => coord_is p.2.2 w' _ (show good p.2.2 = coordB p.2.2 from rfl))
  rw [show idOk p.1 = idB p.1 from rfl] at HI
  unfold fairB
  generalize coordB p.2.1 = b at *
  generalize coordB p.2.2 = c at *
  generalize idB p.1 = a at *
  obtain ⟨i, x, y⟩ := p
  unfold agg3 at *
  simp only at *
  have Hs : Hid (Same w (w.alloc (.cells #[.int .i64 i, .int .i64 x, .int .i64 y] 25))) := hide ((Chg.refl _ _).alloc _)
  by_cases hxy : x ≤ y
  all_goals cases a
  all_goals cases b
  all_goals cases c
  all_goals (first | rw [decide_eq_true hxy] | rw [decide_eq_false hxy])
  all_goals
    go_enter Tryz.func50, Tryz.ntmps50
    go_wp2_with (first
      | (go_at_call 86; (with_reducible refine (HI.out _).mono ?_); rintro e w' ⟨rfl, rfl⟩)
      | (go_at_call 88; (first | (with_reducible refine (HX.out _).mono ?_) | (with_reducible refine (HY.out _).mono ?_)); rintro e w' ⟨rfl, rfl⟩)
      | fail)
    go_ret
    exact ⟨by first | rfl | (simp [hxy]; done), Hs.out⟩
end Go.Proofs.YtopkdiiigidfdaaGreat
