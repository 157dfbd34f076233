/-
  The law FrameWraps, walked: it answers true for every list of byte lists and every cut. Conditions: the list is read.
-/
import Derived.Test.YtdaejdnomlodpaaFrI
namespace Go.Proofs.Ytdaejdnomlodpaa
open Go.RowKit Go.Al Go.Al.Fr
set_option linter.unusedVariables false

theorem sameB_refl' (ls : List (List UInt8)) : sameB ls ls = true := by simp [sameB]

set_option maxRecDepth 100000 in
set_option maxHeartbeats 4000000 in
theorem wraps_any (B : Nat) (A : Option Addr) (n c : Nat) (xs : List Value) (ls : List (List UInt8)) (cut : Int) (w : World) (hr : Rd w A xs) (hx : Rows2 B 5 w xs (ls.map bs)) (hn : ls.length = n) (hb : n ≤ 9223372036854775807) (hl : ∀ l ∈ ls, l.length ≤ 9223372036854775807) (hc0 : 0 ≤ cut) (hc1 : cut ≤ 65535) :
    Calls Try.prog 3 #[.slice A n c, .int .u16 cut] w fun e w' => e = .returned (.bool true) ∧ Same w w' := by
  have Hr := hide hr
  have Hx := hide hx
  have Hn := hide hn
  have Hl := hide hl
  clear hr hx hn hl
  obtain ⟨ks, hks⟩ : ∃ ks, ks = cutL 400 ls := ⟨_, rfl⟩
  have hk12 : ks.length ≤ 12 := by rw [hks]; exact cutL_count 400 ls
  have hk400 : ∀ l ∈ ks, l.length ≤ 400 := by rw [hks]; exact cutL_len 400 ls
  have hidem : cutL 400 ks = ks := by rw [hks]; exact cutL_idem 400 ls
  obtain ⟨bb, hbb, hbl⟩ := Go.Al.Fr.wrap_small ks [] hk400 (by simp; omega)
  obtain ⟨r, hbr, hall⟩ := all_wrapFrom 400 ks [] bb hbb hk400
  simp only [List.nil_append] at hbr
  subst hbr
  simp only [List.length_nil, Nat.zero_add] at hbl
  have hbl2 : bb.length ≤ 4824 := by omega
  obtain ⟨k, hk⟩ : ∃ k : Nat, cut % ((bb.length : Int) + 1) = (k : Int) := ⟨(cut % ((bb.length : Int) + 1)).toNat, (Int.toNat_of_nonneg (Int.emod_nonneg _ (by omega))).symm⟩
  have hkl : k ≤ bb.length := by
    have := Int.emod_lt_of_pos cut (b := (bb.length : Int) + 1) (by omega)
    omega
  have Htp := hide (two_pieces hall k)
  have Hks := hide hks
  have Hk400 := hide hk400
  have Hidem := hide hidem
  have Hbb := hide hbb
  have Hall := hide hall
  have hsb := sameB_refl' ks
  have hE0 : errOf false = 0 := rfl
  have hE1 : errOf true = 11 := rfl
  clear hks hk400 hidem hbb hall hbl
  go_enter Try.func3, Try.ntmps3
  go_wp2_with fail
  refine (Bytes_any B A n c 400 xs ls w (by omega) Hr.out Hx.out Hn.out hb Hl.out).mono ?_
  rintro e w1 ⟨A1, n1, c1, xs1, rfl, hown1, hrows1, hs1, hn1⟩
  rw [← Hks.out] at hrows1 hn1
  have Hown1 := hide hown1
  have Hrows1 := hide hrows1
  have Hs1 := hide hs1
  have Hn1 := hide hn1.symm
  have hn12 : n1 ≤ 12 := by omega
  clear hown1 hrows1 hs1 hn1
  go_wp2_with fail
  refine (Bytes_any 0 A1 n1 c1 400 xs1 ks w1 (by omega) (own_rd Hown1.out) Hrows1.out Hn1.out (by omega) (fun l hl => by have := Hk400.out l hl; omega)).mono ?_
  rintro e w2 ⟨A2, n2, c2, xs2, rfl, hown2, hrows2, hs2, hn2⟩
  rw [Hidem.out] at hrows2 hn2
  have Hown2 := hide hown2
  have Hrows2 := hide hrows2
  have Hs2 := hide hs2
  have Hn2 := hide hn2.symm
  have hn22 : n2 ≤ 12 := by omega
  clear hown2 hrows2 hs2 hn2
  go_wp2_with (first
    | (go_at_call 8
       refine (Wrap_any 0 5 A2 n2 c2 xs2 ks w2 (own_rd Hown2.out) Hrows2.out Hn2.out (by omega) (fun l hl => by have := Hk400.out l hl; omega)).mono ?_
       intro e w3 hW
       obtain ⟨A3, c3, rfl, hs3, hown3⟩ := Wrap_some hW Hbb.out
       obtain ⟨_, _, hv3, hle3, hrd3, _⟩ := own_form hown3
       cases hv3
       have hcutA := cut_hi slB A3 bb.length c3 .i64 (k : Int) k rfl (by omega)
       obtain ⟨A3', hcutB, hrd3', hbk3⟩ := cut_lo slB hrd3 (by simp) hle3 .i64 (k : Int) k rfl hkl
       rw [Nat.mul_one, bs_drop] at hrd3'
       have Hs3 := hide hs3
       have Hown3 := hide hown3
       have Hrd3' := hide hrd3'
       have Hlt3 := hide (show ∀ b, blkOf A3' = some b → b < w3.heap.size from fun b hb => (hown3.lt b (by rw [ownBlock_slice, ← hbk3]; exact hb)).2)
       clear hW hs3 hown3 hle3 hrd3 hrd3' hbk3)
    | (go_at_call 9
       refine (refWrap_any 0 5 A1 n1 c1 xs1 ks w3 (((own_rd Hown1.out).same Hs2.out).same Hs3.out) ((Hrows1.out.same Hs2.out).same Hs3.out) Hn1.out (by omega) (fun l hl => by have := Hk400.out l hl; omega)).mono ?_
       intro e w4 hW
       obtain ⟨A4, c4, rfl, hs4, hown4⟩ := Wrap_some hW Hbb.out
       have Hs4 := hide hs4
       have Hown4 := hide hown4
       clear hW hs4 hown4)
    | (go_at_call 10
       refine (new_ok 400 _ (by omega) (by omega)).mono ?_
       rintro e w5 ⟨rfl, hst5, hs5⟩
       have r3 : Rd w5 A3 (bs bb) := ((own_rd Hown3.out).same Hs4.out).same hs5
       have r4 : Rd w5 A4 (bs bb) := (own_rd Hown4.out).same hs5
       have k3 := run_bs_string0 (n := bb.length) (P := Try.prog) Try.underlying25 Try.underlying5 Try.underlying9 c3 rfl r3
       have k4 := run_bs_string0 (n := bb.length) (P := Try.prog) Try.underlying25 Try.underlying5 Try.underlying9 c4 rfl r4
       have q := str_toList bb
       have R3 := hide r3
       have Hst5 := hide hst5
       have Hs5 := hide hs5
       clear hst5 hs5 r3 r4)
    | (at_builtin; refine wpList_appS rfl (.tmp 63) (.tmp 66) _ rfl slB rfl (own_lit w5 w5.heap.size _ 1 #[] 0 (Nat.le_refl _) (by decide) rfl) rfl (by simp; omega) ((R3.out.take k).alloc _) (by rw [bs_take]; exact one_bs _) (by omega) (by omega) (by simp) ?_
       intro A6 c6 w6 hown6 hchg6 hat6
       have hs6 : Same w5 w6 := ((Chg.refl _ w5).alloc _).trans hchg6 (by intro k hk h; simp [blkOf] at h; omega)
       have Hs6 := hide hs6
       have Hown6 := hide (own_rd hown6)
       clear hown6 hchg6 hat6 hs6))
  have hb6 : Rd w6 A6 (bs (bb.take k)) := by
    have := Hown6.out
    rw [bs_take] at this
    simpa using this
  have hF := Feed_ok w4.heap.size 400 0 c6 k [] (bb.take k) none A6 w6 (Hst5.out.same Hs6.out) hb6 (by simp; omega) (by simp; omega) (by omega)
  with_reducible refine hF.mono ?_
  clear hF
  rintro e w7 ⟨Ax, cx, nx, xsx, lx, brx, Asx, csx, rfl, hownx, hrowsx, hstx, hcx, hnx, hbrx, hlx⟩
  rw [List.nil_append] at hrowsx hnx hbrx hlx
  rw [Htp.out.1] at hbrx
  subst hbrx
  subst hlx
  have hlx : (all 400 (bb.take k)).2.1.length ≤ 4824 := by
    have := all_rest_le 400 (bb.take k)
    simp at this
    omega
  have R7 := hide (Hrd3'.out)
  have Hownx := hide hownx
  have Hrowsx := hide hrowsx
  have Hstx := hide hstx
  have Hcx := hide hcx
  have Hnx := hide hnx
  have hnx2 : 2 * nx ≤ 4824 := by
    have := all_count 400 (bb.take k)
    simp at this
    omega
  clear hownx hrowsx hstx hcx hnx hb6
  have HsA : Hid (Same w3 w6) := Same.trans (Same.trans Hs4.out Hs5.out) Hs6.out
  have hlt3 : ∀ b, blkOf A3' = some b → b < w4.heap.size := fun b hb => Nat.lt_of_lt_of_le (Hlt3.out b hb) Hs4.out.size
  have r7 : Rd w7 A3' (bs (bb.drop k)) := (Hrd3'.out.same HsA.out).chg Hcx.out fun b hb _ h => by
    have := hlt3 b hb
    have h' : b = w4.heap.size := h
    omega
  have R7' := hide r7
  clear r7 hlt3
  go_wp2_with (first
    | (at_builtin; refine wpList_appS rfl (.tmp 73) (.tmp 76) _ rfl slB rfl (own_lit w7 w7.heap.size _ 1 #[] 0 (Nat.le_refl _) (by decide) rfl) rfl (by simp) (R7'.out.alloc _) (one_bs _) (by omega) (by omega) (by simp) ?_
       intro A8 c8 w8 hown8 hchg8 hat8
       have hs8 : Same w7 w8 := ((Chg.refl _ w7).alloc _).trans hchg8 (by intro k hk h; simp [blkOf] at h; omega)
       have Hs8 := hide hs8
       have Hown8 := hide (own_rd hown8)
       clear hown8 hchg8 hat8 hs8))
  have hb8 : Rd w8 A8 (bs (bb.drop k)) := by simpa using Hown8.out
  have hF := Feed_ok w4.heap.size 400 csx c8 (bb.length - k) (all 400 (bb.take k)).2.1 (bb.drop k) Asx A8 w8 (Hstx.out.same Hs8.out) hb8 (by simp) (by omega) (by omega)
  with_reducible refine hF.mono ?_
  clear hF
  rintro e w9 ⟨Ay, cy, ny, xsy, ly, bry, Asy, csy, rfl, howny, hrowsy, hsty, hcy, hny, hbry, hly⟩
  rw [Htp.out.2.1] at hbry
  rw [Htp.out.2.2.1] at hly
  subst hbry
  subst hly
  have hny2 : 2 * ny ≤ 9648 := by
    have := all_count 400 ((all 400 (bb.take k)).2.1 ++ bb.drop k)
    simp only [List.length_append, List.length_drop] at this
    omega
  have hS9 : Chg (· = w4.heap.size) w7 w9 := (Hs8.out.to).trans hcy fun _ _ h => h
  have hne9 : ∀ b, (Value.slice Ax nx cx).ownBlock = some b → ¬ b = w4.heap.size := fun b hb h => by
    have h1 := (Hownx.out.lt b hb).1
    have h2 := HsA.out.size
    have h3 : w4.heap.size < w5.heap.size := Hst5.out.1.lt
    have h4 := Hs6.out.size
    omega
  have Hown9 := hide (own_chg Hownx.out hS9 hne9)
  have Hrows9 := hide ((Hrowsx.out.away hS9 (Away.one Hstx.out.1.ty (Nat.zero_le _) (by decide))).append hrowsy)
  have Howny := hide howny
  have Hone := hide (Rows2.one hrowsy)
  have Hcat := hide Htp.out.2.2.2
  have hsz9 : w6.heap.size ≤ w9.heap.size := Nat.le_trans Hcx.out.size hS9.size
  have HS9 := hide hS9
  have Hsty := hide hsty
  have Hny := hide hny
  clear howny hrowsy hsty hcy hny hb8 hS9 hne9
  go_wp2_with (first
    | (at_builtin; refine wpList_appS rfl (.tmp 88) (.tmp 89) _ rfl slBB rfl Hown9.out rfl (by have := Howny.out.1; simpa using this) (own_rd Howny.out) Hone.out (by omega) (by omega) (Nat.le_trans Hcx.out.size HS9.out.size) ?_
       intro Az cz wz hownz hchgz hatz
       have hlt : ∀ k, blkOf Ax = some k → w6.heap.size ≤ k ∧ ty w9 k = some 25 := fun k hk => ⟨(Hown9.out.lt k (by rw [ownBlock_slice]; exact hk)).1, own_ty Hown9.out (by rw [ownBlock_slice]; exact hk)⟩
       have hcz : Chg (fun k => blkOf Ax = some k) w9 wz := hchgz
       have hSz : Same w4 wz := Chg.fresh (S := fun k => w4.heap.size ≤ k) (((((Same.trans Hs5.out Hs6.out).to).trans Hcx.out (fun k _ h => Nat.le_of_eq (Eq.symm h))).trans HS9.out (fun k _ h => Nat.le_of_eq (Eq.symm h))).trans hcz (fun k _ h => Nat.le_trans (Same.trans Hs5.out Hs6.out).size (hlt k h).1)) fun _ h => h
       have HSz := hide hSz
       have Hlt := hide hlt
       have Hownz := hide hownz
       have Hcz := hide hcz
       clear hownz hchgz hatz hlt hcz hSz)
    | (go_at_call 12
       have hwy : Same w1 wz := Same.trans (Same.trans (Same.trans Hs2.out Hs3.out) Hs4.out) HSz.out
       have hz1 : Rd wz A1 xs1 := (own_rd Hown1.out).same hwy
       have hz2 : Rows2 0 5 wz xs1 (ks.map bs) := Hrows1.out.same hwy
       have hz3 : Rows2 0 5 wz (xsx ++ xsy) (ks.map bs) := by
         have := Hrows9.out.away Hcz.out fun k _ hk => ⟨Nat.zero_le _, by rw [(Hlt.out k hk).2]; decide⟩
         rw [← List.map_append, Hcat.out] at this
         exact this
       have hF := Same_any 0 5 Az A1 (nx + ny) n1 cz c1 (xsx ++ xsy) xs1 ks ks wz (own_rd Hownz.out) hz3 (by rw [← Hcat.out, List.length_append, ← Hnx.out, ← Hny.out]) hz1 hz2 Hn1.out (by omega) (by omega)
       with_reducible refine hF.mono ?_
       clear hF hz1 hz2 hz3 hwy
       rintro e wa ⟨rfl, hsa⟩
       have Hsa := hide hsa
       clear hsa)
    | (go_at_call 13
       have hF := Waits_ok w4.heap.size 400 csy false [] Asy wa ((Hsty.out.chg Hcz.out (fun h => by have h1 := (Hlt.out _ h).1; have h3 : w4.heap.size < w5.heap.size := Hst5.out.1.lt; have h4 := Hs6.out.size; omega) (fun b _ hb h => by rw [(Hlt.out b h).2] at hb; exact absurd (Option.some.inj hb) (by decide))).same Hsa.out)
       with_reducible refine hF.mono ?_
       clear hF
       rintro e w' ⟨rfl, rfl⟩)
    | (go_at_call 14
       refine (lives_any _).mono ?_
       rintro e wb ⟨rfl, hsb'⟩
       have Hsb := hide hsb'
       clear hsb'))
  go_ret
  exact ⟨by simp, Same.trans (Same.trans (Same.trans (Same.trans (Same.trans (Same.trans Hs1.out Hs2.out) Hs3.out) Hs4.out) HSz.out) Hsa.out) Hsb.out⟩
end Go.Proofs.Ytdaejdnomlodpaa
