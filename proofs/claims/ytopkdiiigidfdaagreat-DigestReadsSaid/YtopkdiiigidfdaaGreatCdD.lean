/-
  codec.read, codec.Read: at bytes that begin with a number's own, and at none. Conditions: numbers that an int holds.
-/
import Derived.Test.YtopkdiiigidfdaaGreatCdC
import Derived.Test.YtopkdiiigidfdaaGreatMx
namespace Go.Proofs.YtopkdiiigidfdaaGreat
open Go.RowKit Go.Al
set_option linter.unusedVariables false

theorem andnot_nat : ∀ a : Fin 256, bits .andNot .u8 ((a.val : Nat) : Int) 128 = ((a.val % 128 : Nat) : Int) := by decide +kernel
theorem andnot_u8 (y : Nat) (h : y < 256) : bits .andNot .u8 (y : Int) 128 = ((y % 128 : Nat) : Int) := andnot_nat ⟨y, h⟩
theorem or_last (u j : Nat) (hu : u < 18446744073709551616) (hj : j < 10) (hs : uvAt u j < 128) : bits .or .u64 ((u : Int) % 128 ^ j) (IntKind.u64.wrap (((uvAt u j : Nat) : Int) * 2 ^ (7 * j))) = (u : Int) := by
  have h := uv_or u j hu hj
  have hl : uvAt u j * 128 ^ j ≤ u := Nat.div_mul_le_self u (128 ^ j)
  rw [uv_whole hs, Nat.mod_eq_of_lt hs] at h
  have e : IntKind.u64.wrap (((uvAt u j : Nat) : Int) * 2 ^ (7 * j)) = ((uvAt u j * 128 ^ j : Nat) : Int) := by
    rw [pow128] at hl ⊢
    rw [IntKind.wrap_u64]
    have h2 : (((uvAt u j : Nat) : Int) * 2 ^ (7 * j)) = ((uvAt u j * 2 ^ (7 * j) : Nat) : Int) := by norm_cast
    rw [h2]
    omega
  rw [e]
  have e2 : (u : Int) % 128 ^ j = ((u % 128 ^ j : Nat) : Int) := by norm_cast
  rw [e2]
  exact h
theorem or_more (u j : Nat) (hu : u < 18446744073709551616) (hj : j < 10) : bits .or .u64 ((u : Int) % 128 ^ j) (IntKind.u64.wrap (((uvAt u j % 128 : Nat) : Int) * 2 ^ (7 * j))) = (u : Int) % 128 ^ (j + 1) := by
  have h := uv_or u j hu hj
  have hl : uvAt u j % 128 * 128 ^ j ≤ u := Nat.le_trans (Nat.mul_le_mul_right _ (Nat.mod_le _ _)) (Nat.div_mul_le_self u (128 ^ j))
  have e : IntKind.u64.wrap (((uvAt u j % 128 : Nat) : Int) * 2 ^ (7 * j)) = ((uvAt u j % 128 * 128 ^ j : Nat) : Int) := by
    rw [pow128] at hl ⊢
    rw [IntKind.wrap_u64]
    have h2 : (((uvAt u j % 128 : Nat) : Int) * 2 ^ (7 * j)) = ((uvAt u j % 128 * 2 ^ (7 * j) : Nat) : Int) := by rw [Int.natCast_mul, Int.natCast_pow]; rfl
    rw [h2]
    omega
  rw [e]
  have e2 : (u : Int) % 128 ^ j = ((u % 128 ^ j : Nat) : Int) := by norm_cast
  have e3 : (u : Int) % 128 ^ (j + 1) = ((u % 128 ^ (j + 1) : Nat) : Int) := by norm_cast
  rw [e2, e3]
  exact h
theorem put_nil (x : Int) (w : World) (h0 : -9223372036854775808 ≤ x) (h1 : x ≤ 9223372036854775807) :
    Calls Tryz.prog 144 #[.slice none 0 0, .int .i64 x] w fun e w' => ∃ A c, e = .returned (.slice A (encI x).length c) ∧ Rd w' A (bs (encI x)) ∧ Same w w' := by
  refine (put_any (l := []) (base := w.heap.size) x w h0 h1 (World.ownsRow_nil _ _ _ _) (Nat.le_refl _) (by decide)).mono ?_
  rintro e w' ⟨A, c, he, ho, hc, _⟩
  rw [Nat.zero_add] at he ho
  rw [List.nil_append] at ho
  exact ⟨A, c, he, own_rd ho, hc.mono fun k _ e => by simp [blkOf] at e⟩
set_option maxHeartbeats 1000000 in
theorem read_none {A : Option Addr} {c : Nat} (w : World) :
    Calls Tryz.prog 234 #[.slice A 0 c] w fun e w' => e = .returned (.tuple #[.int .i64 0, .int .i64 0]) ∧ w = w' := by
  go_enter Tryz.func234, Tryz.ntmps234
  go_wp2_with fail
  go_loopg [2, 4, 5] 0 (fun k v2 vz vi wr => vz = .int .u64 0 ∧ vi = .int .i64 0 ∧ w = wr)
  case atStart => exact ⟨rfl, rfl, rfl⟩
  case round =>
    obtain ⟨rfl, rfl, rfl⟩ := hrel
    go_wp2_with fail
    go_ret2
    exact ⟨rfl, rfl⟩
set_option maxRecDepth 100000 in
set_option maxHeartbeats 4000000 in
theorem read_some {A : Option Addr} {n c : Nat} (x : Int) (rest : List UInt8) (w : World) (h0 : -9223372036854775808 ≤ x) (h1 : x ≤ 9223372036854775807) (h : Rd w A (bs (encI x ++ rest))) (hn : (encI x ++ rest).length = n) (hnc : n ≤ c) (hc : c ≤ maxLen) :
    Calls Tryz.prog 234 #[.slice A n c] w fun e w' => e = .returned (.tuple #[.int .i64 x, .int .i64 ((encI x).length : Nat)]) ∧ Same w w' := by
  have hu := Lib.zigzag_lt h0 h1
  have hl10 := encI_len h0 h1
  have hlp := encI_pos x
  have hN0 : (encI x).length ≤ n := by rw [← hn]; simp
  have Hput := hide (fun w' => put_nil x w' h0 h1)
  have Hunf := hide (fun w' => unfolded_any (Lib.zigzag x) w' hu)
  rw [unzig_zig] at Hunf
  obtain ⟨b, off, rfl, hcell⟩ := h (by
    intro e
    have h3 : (bs (encI x ++ rest)).length = 0 := by rw [e]; rfl
    unfold bs at h3
    rw [List.length_map, List.length_append] at h3
    omega)
  have Hrd := hide (show Rd w (some ⟨b, off, none⟩) (bs (encI x)) from by have := h.take (encI x).length; rw [bs_take, List.take_left] at this; exact this)
  have Heq : Hid (∀ (w' : World) (A' : Option Addr) (c' : Nat) (v : Value), v = .slice A' (encI x).length c' → Same w w' → Rd w' A' (bs (encI x)) → Calls Tryz.prog 95 #[v, .slice (some ⟨b, off, none⟩) (encI x).length c] w' fun e w'' => e = .returned (.bool true) ∧ w' = w'') := hide fun w' A' c' v hv hs hr => by
    subst hv
    have := bequal_any (c := c') (d := c) (encI x) (encI x) w' hr (Hrd.out.same hs)
    rw [show (encI x == encI x) = true from beq_self_eq_true _] at this
    exact this
  have Hget : Hid (∀ j, j < (encI x).length → w.cell? ⟨b, off + j, none⟩ = some (.int .u8 ((if uvAt (Lib.zigzag x) j < 128 then uvAt (Lib.zigzag x) j else uvAt (Lib.zigzag x) j % 128 + 128 : Nat) : Int))) := hide fun j hj => by
    have hg := uv_get j (Lib.zigzag x) hj
    have := hcell j (.int .u8 ((((encI x)[j]'hj).toNat : Nat) : Int)) (by
      unfold bs
      rw [List.getElem?_map, List.getElem?_append_left hj, List.getElem?_eq_getElem hj]
      rfl)
    rw [this]
    have e : (encI x)[j] = if uvAt (Lib.zigzag x) j < 128 then (uvAt (Lib.zigzag x) j).toUInt8 else (uvAt (Lib.zigzag x) j % 128 + 128).toUInt8 := by
      have hj' : j < (Lib.uvarint (Lib.zigzag x)).length := hj
      rw [List.getElem?_eq_getElem hj'] at hg
      exact Option.some.inj hg
    rw [e]
    split
    · rw [u8_of _ (by omega)]
    · rw [u8_of _ (by omega)]
  have Hmore := hide (fun j (h : j < (encI x).length) (h2 : ¬ uvAt (Lib.zigzag x) j < 128) => (show j + 1 < (encI x).length from uv_more h h2))
  have Hlast := hide (fun j (h : j < (encI x).length) (h2 : uvAt (Lib.zigzag x) j < 128) => (show j + 1 = (encI x).length from uv_take_small h h2))
  have Hor1 := hide (fun j (hj : j < 10) (hs : uvAt (Lib.zigzag x) j < 128) => or_last (Lib.zigzag x) j hu hj hs)
  have Hor2 := hide (fun j (hj : j < 10) => or_more (Lib.zigzag x) j hu hj)
  obtain ⟨N, hN⟩ : ∃ N, (encI x).length = N := ⟨_, rfl⟩
  rw [hN] at hl10 hlp hN0 Heq Hget Hmore Hlast Hput ⊢
  generalize Lib.zigzag x = u at *
  clear h hn h0 h1 hcell
  have hmx : c ≤ 9223372036854775807 := by unfold maxLen at hc; omega
  have HN := hide hN
  clear hc hN
  go_enter Tryz.func234, Tryz.ntmps234
  go_wp2_with fail
  go_loopg [2, 4, 5] N (fun k v2 vz vi wr => ∃ j : Nat, j < N ∧ k = N - j ∧ vz = .int .u64 ((u : Int) % 128 ^ j) ∧ vi = .int .i64 (j : Int) ∧ Same w wr)
  case atStart => exact ⟨0, by omega, by omega, by rw [Int.pow_zero, Int.emod_one], rfl, Chg.refl _ _⟩
  case round =>
    obtain ⟨j, hj, hk, rfl, rfl, hsm⟩ := hrel
    have Hk := hide hk
    have Hsm := hide hsm
    have hj10 : j < 10 := by omega
    have hjn : j < n := by omega
    have hbb : b < w.heap.size := World.block_lt_of_cell? (a := ⟨b, off + j, none⟩) w (Hget.out j hj)
    have hcw : wr.cell? ⟨b, off + j, none⟩ = _ := (hsm.cell (p := ⟨b, off + j, none⟩) hbb (fun h => h)).trans (Hget.out j hj)
    clear hk hsm
    by_cases hs : uvAt u j < 128
    · rw [if_pos hs] at hcw
      have hlast := Hlast.out j hj hs
      have hor := Hor1.out j hj10 hs
      have hand := andnot_u8 (uvAt u j) (by omega)
      rw [Nat.mod_eq_of_lt hs] at hand
      have hz1 : ¬ (128 : Int) ≤ ((uvAt u j : Nat) : Int) := by omega
      have hcut := cut_hi (P := Tryz.prog) slB (some ⟨b, off, none⟩) n c .i64 ((j : Int) + 1) N (by omega) (by omega)
      have hwj : IntKind.i64.wrap ((j : Int) + 1) = (j : Int) + 1 := IntWalk.i64_in _ (by omega)
      have hN1 := hide (show (N : Int) = (j : Int) + 1 by omega)
      generalize uvAt u j = z at *
      go_wp2_with (first
        | (go_at_call 258; (with_reducible refine (Hunf.out _).mono ?_); rintro e w' ⟨rfl, rfl⟩)
        | fail)
      refine wp_region_mixS 8 (by kernel_rfl) (by kernel_rfl) fun Fin hFin => ?_
      simp only [List.take_succ_cons, List.take_zero]
      iterate 1 (
          (refine mix_lit ?_ ?_ (fun w => Chg.refl _ w) ?_ ?_ ?_ ?_
           rotate_left; rotate_left
           · intro e w1 hR hF K hK; (skip); go_simp; (refine hK _ _ (Chg.refl _ _) ?_; rfl)
           · intro e; simp only [Act.put, List.setIfInBounds_toArray, List.set_cons_zero, List.set_cons_succ]; rfl
           · exact Loc.const _ _))
      refine mix_letS (fun _ v w' => ∃ A c, v = .slice A N c ∧ Rd w' A (bs (encI x))) ?_ (by exact Loc.const _ _) ?_ ?_ ?_ ?_ ?_
      rotate_left
      · rintro e u w1 w2 hs ⟨A, c, rfl, h1⟩; exact ⟨A, c, rfl, h1.same hs⟩
      · intro e; rfl
      · intro e w1 hR hF K hK
        go_simp
        go_at_call 144
        (with_reducible refine (Hput.out w1).mono ?_)
        rintro _ w4 ⟨A, c, rfl, h1, h2⟩
        exact hK _ _ _ h2 ⟨A, c, rfl, h1⟩ rfl
      · intro e; simp only [Act.put, List.setIfInBounds_toArray, List.set_cons_zero, List.set_cons_succ]; rfl
      iterate 6 (
          (refine mix_lit ?_ ?_ (fun w => Chg.refl _ w) ?_ ?_ ?_ ?_
           rotate_left; rotate_left
           · intro e w1 hR hF K hK; (skip); go_simp; (first | (refine hK _ _ (Chg.refl _ _) ?_; rfl) | (go_at_call 95; obtain ⟨A1, c1, e1, hr1⟩ := (show ∃ A c, e 1 = .slice A N c ∧ Rd w1 A (bs (encI x)) from hF 1 (by kernel_rfl)); have hC := Heq.out w1 A1 c1 (e 1) e1 (Same.trans Hsm.out hR) hr1; (with_reducible refine hC.mono ?_); rintro _ w4 ⟨rfl, rfl⟩; refine hK _ _ (Chg.refl _ _) ?_; rfl))
           · intro e; simp only [Act.put, List.setIfInBounds_toArray, List.set_cons_zero, List.set_cons_succ]; rfl
           · exact Loc.const _ _))
      refine mix_nil fun e w1 hR hF => hFin _ _ ?_
      simp only [List.drop_succ_cons, List.drop_zero]
      have HS4 := hide (Same.trans Hsm.out hR)
      clear hF hFin hR
      go_wp2_with fail
      go_ret2
      exact ⟨by rw [hN1.out]; rfl, HS4.out⟩
    · rw [if_neg hs] at hcw
      have hmore := Hmore.out j hj hs
      have hor := Hor2.out j hj10
      have hand := andnot_u8 (uvAt u j % 128 + 128) (by omega)
      rw [show (uvAt u j % 128 + 128) % 128 = uvAt u j % 128 by omega] at hand
      have hd : uvAt u j % 128 < 128 := Nat.mod_lt _ (by decide)
      generalize uvAt u j % 128 = d at *
      rw [show ((d + 128 : Nat) : Int) = (d : Int) + 128 by omega] at hcw hand
      have Hmore := hide hmore
      clear hs hmore
      go_wp2_with fail
      go_roundg (N - (j + 1))
      case measure => have := Hk.out; have := Hmore.out; omega
      case rel => exact ⟨j + 1, Hmore.out, rfl, rfl, by go_num, Hsm.out⟩
end Go.Proofs.YtopkdiiigidfdaaGreat
