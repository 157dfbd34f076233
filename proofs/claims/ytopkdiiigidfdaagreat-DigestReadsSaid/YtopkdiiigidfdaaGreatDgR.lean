/-
  codec.read, codec.Read: at any bytes. Condition: lengths that an int holds.
-/
import Derived.Test.YtopkdiiigidfdaaGreatCdD
import Derived.Test.YtopkdiiigidfdaaGreatDgP
namespace Go.Proofs.YtopkdiiigidfdaaGreat
open Go.RowKit Go.Al
set_option linter.unusedVariables false

theorem or_in (z j : Nat) (D : Int) (hz : z < 18446744073709551616) : ∃ z' : Nat, z' < 18446744073709551616 ∧ bits .or .u64 (z : Int) (IntKind.u64.wrap (D * 2 ^ (7 * j))) = (z' : Int) := by
  have hw : ∃ y : Nat, y < 18446744073709551616 ∧ IntKind.u64.wrap (D * 2 ^ (7 * j)) = (y : Int) := by
    rw [IntKind.wrap_u64]
    refine ⟨(D * 2 ^ (7 * j) % 18446744073709551616).toNat, by omega, by omega⟩
  obtain ⟨y, hy, e⟩ := hw
  rw [e]
  exact ⟨z ||| y, Nat.or_lt_two_pow (n := 64) hz hy, bits_or_u64_nat z y hz hy⟩
theorem unz_in {z : Nat} (h : z < 18446744073709551616) : -9223372036854775808 ≤ Lib.unzigzag z ∧ Lib.unzigzag z ≤ 9223372036854775807 := by
  unfold Lib.unzigzag
  split <;> omega
set_option maxRecDepth 100000 in
set_option maxHeartbeats 4000000 in
theorem read_bad {A : Option Addr} {n c : Nat} (l : List UInt8) (w : World) (h : Rd w A (bs l)) (hn : l.length = n) (hnc : n ≤ c) (hc : c ≤ maxLen) (hno : ∀ x rest, inI x → l ≠ encI x ++ rest) :
    Calls Tryz.prog 234 #[.slice A n c] w fun e w' => e = .returned (.tuple #[.int .i64 0, .int .i64 0]) ∧ Same w w' := by
  match hl0 : l with
  | [] =>
    simp at hn
    subst hn
    exact (read_none w).mono fun e w' h => ⟨h.1, h.2 ▸ Chg.refl _ _⟩
  | y0 :: l0 =>
  rw [← hl0] at h hn hno
  obtain ⟨b, off, rfl, hcell⟩ := h (by intro e; have h3 : (bs l).length = 0 := by rw [e]; rfl
                                       unfold bs at h3; rw [List.length_map, hl0] at h3; simp at h3)
  have Hrd := hide (fun j (hj : j ≤ l.length) => (show Rd w (some ⟨b, off, none⟩) (bs (l.take j)) from by have := h.take j; rw [bs_take] at this; exact this))
  have Hget : Hid (∀ j (hj : j < l.length), w.cell? ⟨b, off + j, none⟩ = some (.int .u8 ((l[j].toNat : Nat) : Int)) ∧ l[j].toNat < 256) := hide fun j hj => ⟨hcell j (.int .u8 ((l[j].toNat : Nat) : Int)) (by
      unfold bs
      rw [List.getElem?_map, List.getElem?_eq_getElem hj]
      rfl), UInt8.toNat_lt _⟩
  have Hno : Hid (∀ j, j < l.length → ∀ x : Int, inI x → (encI x == l.take (j + 1)) = false) := hide fun j hj x hx => by
    cases hc : encI x == l.take (j + 1) with
    | false => rfl
    | true =>
      have e := eq_of_beq hc
      exact absurd (by rw [e, List.take_append_drop]) (hno x (l.drop (j + 1)) hx)
  have Heq : Hid (∀ (w' : World) (A' : Option Addr) (j d' : Nat) (x : Int) (v : Value), v = .slice A' (encI x).length d' → j < l.length → inI x → Same w w' → Rd w' A' (bs (encI x)) → Calls Tryz.prog 95 #[v, .slice (some ⟨b, off, none⟩) (j + 1) c] w' fun e w'' => e = .returned (.bool false) ∧ w' = w'') := hide fun w' A' j d' x v hv hj hx hs hr => by
    subst hv
    have := bequal_any (c := d') (d := c) (encI x) (l.take (j + 1)) w' hr ((Hrd.out (j + 1) hj).same hs)
    rw [Hno.out j hj x hx, List.length_take, Nat.min_eq_left hj] at this
    exact this
  have Hput := hide (fun (x : Int) (hx : inI x) w' => put_nil x w' hx.1 hx.2)
  have Hunf := hide (fun (z : Nat) (hz : z < 18446744073709551616) w' => unfolded_any z w' hz)
  have hN0 : 1 ≤ n := by rw [← hn, hl0]; simp
  have HN := hide hn
  have hmx : c ≤ 9223372036854775807 := by unfold maxLen at hc; omega
  clear h hcell hno hc hn hl0 Hno Hrd
  go_enter Tryz.func234, Tryz.ntmps234
  go_wp2_with fail
  go_loopg [2, 4, 5] 10 (fun k v2 vz vi wr => ∃ j z : Nat, j ≤ n ∧ j ≤ 10 ∧ k = 10 - j ∧ z < 18446744073709551616 ∧ vz = .int .u64 (z : Int) ∧ vi = .int .i64 (j : Int) ∧ Same w wr)
  case atStart => exact ⟨0, 0, by omega, by omega, by omega, by decide, rfl, rfl, Chg.refl _ _⟩
  case round =>
    obtain ⟨j, z, hjn, hj10, hk, hz, rfl, rfl, hsm⟩ := hrel
    have Hk := hide hk
    have Hsm := hide hsm
    have Hz := hide hz
    clear hk hsm hz
    by_cases hend : j < n ∧ j < 10
    · obtain ⟨h1, h2⟩ := hend
      have hjl : j < l.length := by rw [HN.out]; exact h1
      obtain ⟨hg, h256⟩ := Hget.out j hjl
      have hbb : b < w.heap.size := World.block_lt_of_cell? (a := ⟨b, off + j, none⟩) w hg
      have hcw : wr.cell? ⟨b, off + j, none⟩ = _ := (Hsm.out.cell (p := ⟨b, off + j, none⟩) hbb (fun h => h)).trans hg
      have hand := andnot_u8 l[j].toNat h256
      have Hjl := hide hjl
      generalize l[j].toNat = y at *
      clear hg hjl
      by_cases hs : y < 128
      · have hm : y % 128 = y := Nat.mod_eq_of_lt hs
        rw [hm] at hand
        obtain ⟨z', hz', hor⟩ := or_in z j (y : Int) Hz.out
        have Hz' := hide hz'
        clear hz'
        have hz1 : ¬ (128 : Int) ≤ ((y : Nat) : Int) := by omega
        have hcut := cut_hi (P := Tryz.prog) slB (some ⟨b, off, none⟩) n c .i64 ((j : Int) + 1) (j + 1) (by omega) (by omega)
        have hwj : IntKind.i64.wrap ((j : Int) + 1) = (j : Int) + 1 := IntWalk.i64_in _ (by omega)
        have Hx : Hid (inI (Lib.unzigzag z')) := hide (unz_in Hz'.out)
        go_wp2_with (first
          | (go_at_call 258; (with_reducible refine (Hunf.out _ Hz'.out _).mono ?_); rintro e w' ⟨rfl, rfl⟩)
          | fail)
        generalize Lib.unzigzag z' = x at *
        refine wp_region_mixS 8 (by kernel_rfl) (by kernel_rfl) fun Fin hFin => ?_
        simp only [List.take_succ_cons, List.take_zero]
        iterate 1 (
            (refine mix_lit ?_ ?_ (fun w => Chg.refl _ w) ?_ ?_ ?_ ?_
             rotate_left; rotate_left
             · intro e w1 hR hF K hK; (skip); go_simp; (refine hK _ _ (Chg.refl _ _) ?_; rfl)
             · intro e; simp only [Act.put, List.setIfInBounds_toArray, List.set_cons_zero, List.set_cons_succ]; rfl
             · exact Loc.const _ _))
        refine mix_letS (fun _ v w' => ∃ A c, v = .slice A (encI x).length c ∧ Rd w' A (bs (encI x))) ?_ (by exact Loc.const _ _) ?_ ?_ ?_ ?_ ?_
        rotate_left
        · rintro e u w1 w2 hs ⟨A, c, rfl, h1⟩; exact ⟨A, c, rfl, h1.same hs⟩
        · intro e; rfl
        · intro e w1 hR hF K hK
          go_simp
          go_at_call 144
          (with_reducible refine (Hput.out x Hx.out w1).mono ?_)
          rintro _ w4 ⟨A, c, rfl, h1, h2⟩
          exact hK _ _ _ h2 ⟨A, c, rfl, h1⟩ rfl
        · intro e; simp only [Act.put, List.setIfInBounds_toArray, List.set_cons_zero, List.set_cons_succ]; rfl
        iterate 6 (
            (refine mix_lit ?_ ?_ (fun w => Chg.refl _ w) ?_ ?_ ?_ ?_
             rotate_left; rotate_left
             · intro e w1 hR hF K hK; (skip); go_simp; (first | (refine hK _ _ (Chg.refl _ _) ?_; rfl) | (go_at_call 95; obtain ⟨A1, c1, e1, hr1⟩ := (show ∃ A c, e 1 = .slice A (encI x).length c ∧ Rd w1 A (bs (encI x)) from hF 1 (by kernel_rfl)); have hC := Heq.out w1 A1 j c1 x (e 1) e1 Hjl.out Hx.out (Same.trans Hsm.out hR) hr1; (with_reducible refine hC.mono ?_); rintro _ w4 ⟨rfl, rfl⟩; refine hK _ _ (Chg.refl _ _) ?_; rfl))
             · intro e; simp only [Act.put, List.setIfInBounds_toArray, List.set_cons_zero, List.set_cons_succ]; rfl
             · exact Loc.const _ _))
        refine mix_nil fun e w1 hR hF => hFin _ _ ?_
        simp only [List.drop_succ_cons, List.drop_zero]
        have HS4 := hide (Same.trans Hsm.out hR)
        clear hF hFin hR
        go_wp2_with fail
        go_ret2
        exact ⟨rfl, HS4.out⟩
      · obtain ⟨z', hz', hor⟩ := or_in z j ((y : Int) % 128) Hz.out
        have Hz' := hide hz'
        clear hz'
        have hz1 : (128 : Int) ≤ ((y : Nat) : Int) := by omega
        have hwj : IntKind.i64.wrap ((j : Int) + 1) = (j : Int) + 1 := IntWalk.i64_in _ (by omega)
        go_wp2_with fail
        go_roundg (10 - (j + 1))
        case measure => have := Hk.out; omega
        case rel => exact ⟨j + 1, z', by omega, by omega, rfl, Hz'.out, rfl, by first | rfl | go_num, Hsm.out⟩
    · go_wp2_with fail
      all_goals go_ret2
      all_goals exact ⟨rfl, Hsm.out⟩
set_option maxHeartbeats 1000000 in
theorem Read_enc {A : Option Addr} {n c : Nat} (x : Int) (rest : List UInt8) (w : World) (h0 : -9223372036854775808 ≤ x) (h1 : x ≤ 9223372036854775807) (h : Rd w A (bs (encI x ++ rest))) (hn : (encI x ++ rest).length = n) (hnc : n ≤ c) (hc : c ≤ maxLen) :
    Calls Tryz.prog 197 #[.slice A n c] w fun e w' => e = .returned (.tuple #[.int .i64 x, .int .i64 ((encI x).length : Nat)]) ∧ Same w w' := by
  have HR := hide (read_some x rest w h0 h1 h hn hnc hc)
  clear h0 h1 h hn hnc hc
  go_enter Tryz.func197, Tryz.ntmps197
  go_wp2_with (first
    | (go_at_call 234; (with_reducible refine HR.out.mono ?_); rintro e w' ⟨rfl, hs⟩; have Hs := hide hs; clear hs)
    | fail)
  go_ret2
  exact ⟨rfl, Hs.out⟩
/-- how Read ends -/
def rdV (l : List UInt8) : Option (Int × List UInt8) → Value
  | none => .tuple #[.int .i64 0, .int .i64 0]
  | some q => .tuple #[.int .i64 q.1, .int .i64 ((l.length - q.2.length : Nat) : Int)]
theorem Read_any {A : Option Addr} {n c : Nat} (l : List UInt8) (w : World) (h : Rd w A (bs l)) (hn : l.length = n) (hnc : n ≤ c) (hc : c ≤ maxLen) :
    Calls Tryz.prog 197 #[.slice A n c] w fun e w' => e = .returned (rdV l (rdN l)) ∧ Same w w' := by
  cases hr : rdN l with
  | some q =>
    obtain ⟨x, r⟩ := q
    obtain ⟨h1, rfl⟩ := rdN_some hr
    refine (Read_enc x r w h1.1 h1.2 h hn hnc hc).mono fun e w' hq => ⟨?_, hq.2⟩
    rw [hq.1]
    simp only [rdV, List.length_append]
    rw [Nat.add_sub_cancel]
  | none =>
    have HR := hide (read_bad l w h hn hnc hc (rdN_none hr))
    clear h hn hnc hc hr
    go_enter Tryz.func197, Tryz.ntmps197
    go_wp2_with (first
      | (go_at_call 234; (with_reducible refine HR.out.mono ?_); rintro e w' ⟨rfl, hs⟩; have Hs := hide hs; clear hs)
      | fail)
    go_ret2
    exact ⟨rfl, Hs.out⟩
end Go.Proofs.YtopkdiiigidfdaaGreat
