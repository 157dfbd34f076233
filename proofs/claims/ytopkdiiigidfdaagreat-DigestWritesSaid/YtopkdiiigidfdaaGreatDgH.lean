/-
  The walks of DigestWrites and DigestReads, over what lives tells. Conditions: none but that it lives.
-/
import Derived.Test.YtopkdiiigidfdaaGreatDgQ
import Derived.Test.YtopkdiiigidfdaaGreatDgE
import Derived.Test.YtopkdiiigidfdaaGreatDgF
import Derived.Test.YtopkdiiigidfdaaGreatDgG
import Derived.Test.YtopkdiiigidfdaaGreatSmR
namespace Go.Proofs.YtopkdiiigidfdaaGreat
open Go.RowKit Go.Al
set_option linter.unusedVariables false

abbrev LivesD : Prop := ∀ w : World, Calls Tryz.prog 22 #[] w fun e w' => e = .returned (.bool true) ∧ Same w w'
theorem conv_b {w : World} {A : Option Addr} {c : Nat} {l : List UInt8} (h : Rd w A (bs l)) : (convert 58 9 (.slice A l.length c)).run Tryz.prog w = .ok (.string ⟨l.toArray⟩) w := by
  have h1 := run_bs_string0 Tryz.underlying58 Tryz.underlying5 Tryz.underlying9 c (n := l.length) rfl h
  rw [h1]
  rfl
theorem wrt_len {p s : List P3} (hw : wellB p s = true) (hp : p.length ≤ 30) (hs : s.length ≤ 30) : (wrtD p s).length ≤ 1820 := by
  simp only [wellB, Bool.and_eq_true] at hw
  have hgp := ((ris_iff goodPB p).1 hw.1).1
  have hgs := ((ris_iff fairB s).1 hw.2).1
  have hip := fun i hi => ptG_in hgp i hi
  have his := fun i hi => spG_in hgs i hi
  have hone : ∀ m : Nat, m ≤ 30 → (encI (m : Int)).length ≤ 10 := fun m hm => encI_len (by omega) (by omega)
  have h1 := encD_nums_len ptG (fun _ _ => rfl) (inI_nums ptG hip p.length (Nat.le_refl _))
  have h2 := encD_nums_len spG (fun _ _ => rfl) (inI_nums spG his s.length (Nat.le_refl _))
  rw [List.take_length] at h1 h2
  have h3 := hone p.length hp
  have h4 := hone s.length hs
  unfold wrtD
  rw [List.cons_append, encD_cons, encD_append, encD_cons]
  simp only [List.length_append]
  omega
set_option maxRecDepth 100000 in
set_option maxHeartbeats 8000000 in
theorem digestWrites_any {A1 A2 : Option Addr} {n1 c1 n2 c2 : Nat} (HL : LivesD) (p0 s0 : List P3) (w : World) (h1 : Row3 w A1 n1 c1 p0) (h2 : Row3 w A2 n2 c2 s0) :
    Calls Tryz.prog 4 #[.slice A1 n1 c1, .slice A2 n2 c2] w fun e w' => e = .returned (.bool true) ∧ Same w w' := by
  have HF1 := hide (fewP_any p0 w h1)
  have HS1 := hide (fun w' (hs : Same w w') => fewS_any s0 w' (h2.same hs))
  have hpl : (p0.take 30).length ≤ 30 := by rw [List.length_take]; omega
  have hsl : (s0.take 30).length ≤ 30 := by rw [List.length_take]; omega
  have hpt : (p0.take 30).take 30 = p0.take 30 := by rw [List.take_take, Nat.min_self]
  have hst : (s0.take 30).take 30 = s0.take 30 := by rw [List.take_take, Nat.min_self]
  generalize p0.take 30 = p at *
  generalize s0.take 30 = s at *
  have HF2 := hide (fun w' (A : Option Addr) (n c : Nat) (hr : Row3 w' A n c p) => (show Calls Tryz.prog 18 #[.slice A n c, .int .i64 30] w' (FewEnd w' 23 p) from by have := fewP_any p w' hr; rwa [hpt] at this))
  have HS2 := hide (fun w' (A : Option Addr) (n c : Nat) (hr : Row3 w' A n c s) => (show Calls Tryz.prog 19 #[.slice A n c] w' (FewEnd w' 25 s) from by have := fewS_any s w' hr; rwa [hst] at this))
  obtain ⟨np, hnp⟩ : ∃ n, p.length = n := ⟨_, rfl⟩
  obtain ⟨ns, hns⟩ : ∃ n, s.length = n := ⟨_, rfl⟩
  unfold FewEnd at HF1 HF2 HS1 HS2
  rw [hnp] at HF1 HF2 hpl
  rw [hns] at HS1 HS2 hsl
  have Hnp := hide hnp
  have Hns := hide hns
  clear h1 h2 hpt hst hnp hns
  have HLv := hide HL
  clear HL
  cases hw : wellB p s
  · have Hw := hide hw
    clear hw
    go_enter Tryz.func4, Tryz.ntmps4
    go_wp2_with (first
      | (go_at_call 18; first
          | ((with_reducible refine HF1.out.mono ?_); rintro e w1 ⟨A1, c1, rfl, ho1, hs1⟩; have Hs1 := hide hs1; have HR1 := hide (Row3.own ho1 Hnp.out); clear ho1 hs1)
          | ((with_reducible refine (HF2.out w2 _ _ _ (HR1.out.same Hs2'.out)).mono ?_); rintro e w3 ⟨A3, c3, rfl, ho3, hs3⟩; have Hs3 := hide (Same.trans Hs2.out hs3); have HR3 := hide (Row3.own ho3 Hnp.out); have Hs3' := hide hs3; clear ho3 hs3))
      | (go_at_call 19; first
          | ((with_reducible refine (HS1.out w1 Hs1.out).mono ?_); rintro e w2 ⟨A2, c2, rfl, ho2, hs2⟩; have Hs2 := hide (Same.trans Hs1.out hs2); have Hs2' := hide hs2; have HR2 := hide (Row3.own ho2 Hns.out); clear ho2 hs2)
          | ((with_reducible refine (HS2.out w3 _ _ _ (HR2.out.same Hs3'.out)).mono ?_); rintro e w4 ⟨A4, c4, rfl, ho4, hs4⟩; have Hs4 := hide (Same.trans Hs3.out hs4); have HR4 := hide (Row3.own ho4 Hns.out); have Hs4' := hide (Same.trans Hs3'.out hs4); have Hs34 := hide hs4; clear ho4 hs4))
      | (go_at_call 20; (with_reducible refine (Write_any _ _ w4 (HR3.out.same Hs34.out) HR4.out (by omega) (by omega)).mono ?_); rintro e w5 ⟨hs5, hv5⟩; have he5 : e = .returned (.tuple #[.slice none 0 0, .int .i64 8]) := (hv5.elim (fun h => h.2) (fun h => Bool.noConfusion (Eq.trans h.1.symm Hw.out))); subst he5; have Hs5 := hide (Same.trans Hs4.out hs5); have Hs5' := hide (Same.trans Hs4'.out hs5); clear hs5 hv5)
      | (go_at_call 21; (with_reducible refine (rwell_any p s w5 ((HR1.out.same Hs2'.out).same Hs5'.out) (HR2.out.same Hs5'.out) (by omega) (by omega)).mono ?_); rw [Hw.out]; rintro e w6 ⟨rfl, hs6⟩; have Hs6 := hide (Same.trans Hs5.out hs6); have Hs56 := hide hs6; clear hs6)
      | (go_at_call 22; (with_reducible refine (HLv.out _).mono ?_); rintro e w7 ⟨rfl, hs7⟩; have Hs7 := hide (Same.trans Hs6.out hs7); clear hs7)
      | fail)
    go_ret
    exact ⟨rfl, Hs7.out⟩
  · have Hw := hide hw
    have hlen := wrt_len hw (by rw [Hnp.out]; omega) (by rw [Hns.out]; omega)
    have Hrd := hide (readD_wrt hw (by omega))
    obtain ⟨b, hb⟩ : ∃ b, wrtD p s = b := ⟨_, rfl⟩
    rw [hb] at hlen Hrd
    have Hb := hide hb
    clear hw hb
    have Hbl := hide (show (bs b).length = b.length * 1 by simp [bs])
    go_enter Tryz.func4, Tryz.ntmps4
    go_wp2_with (first
      | (go_at_call 18; first
          | ((with_reducible refine HF1.out.mono ?_); rintro e w1 ⟨A1, c1, rfl, ho1, hs1⟩; have Hs1 := hide hs1; have HR1 := hide (Row3.own ho1 Hnp.out); clear ho1 hs1)
          | ((with_reducible refine (HF2.out w2 _ _ _ (HR1.out.same Hs2'.out)).mono ?_); rintro e w3 ⟨A3, c3, rfl, ho3, hs3⟩; have Hs3 := hide (Same.trans Hs2.out hs3); have HR3 := hide (Row3.own ho3 Hnp.out); have Hs3' := hide hs3; clear ho3 hs3))
      | (go_at_call 19; first
          | ((with_reducible refine (HS1.out w1 Hs1.out).mono ?_); rintro e w2 ⟨A2, c2, rfl, ho2, hs2⟩; have Hs2 := hide (Same.trans Hs1.out hs2); have Hs2' := hide hs2; have HR2 := hide (Row3.own ho2 Hns.out); clear ho2 hs2)
          | ((with_reducible refine (HS2.out w3 _ _ _ (HR2.out.same Hs3'.out)).mono ?_); rintro e w4 ⟨A4, c4, rfl, ho4, hs4⟩; have Hs4 := hide (Same.trans Hs3.out hs4); have HR4 := hide (Row3.own ho4 Hns.out); have Hs4' := hide (Same.trans Hs3'.out hs4); have Hs34 := hide hs4; clear ho4 hs4))
      | (go_at_call 20; (with_reducible refine (Write_any _ _ w4 (HR3.out.same Hs34.out) HR4.out (by omega) (by omega)).mono ?_); rw [show WrEnd w4 p s = WrEnd w4 p s from rfl]; rintro e w5 ⟨hs5, hv5⟩; obtain ⟨A5, c5, he5, ho5⟩ : ∃ A c, e = .returned (.tuple #[.slice A (wrtD p s).length c, .int .i64 0]) ∧ w5.ownsRow w4.heap.size 5 1 (.slice A (wrtD p s).length c) (wrtD p s).length (bs (wrtD p s)) := (hv5.elim (fun h => Bool.noConfusion (Eq.trans h.1.symm Hw.out)) (fun h => h.2)); rw [Hb.out] at he5 ho5; subst he5; have Hs5 := hide (Same.trans Hs4.out hs5); have Hs5' := hide (Same.trans Hs4'.out hs5); have Hr5 := hide (own_rd ho5); clear hs5 hv5 ho5)
      | (go_at_call 21; (with_reducible refine (rwell_any p s w5 ((HR1.out.same Hs2'.out).same Hs5'.out) (HR2.out.same Hs5'.out) (by omega) (by omega)).mono ?_); rw [Hw.out]; rintro e w6 ⟨rfl, hs6⟩; have Hs6 := hide (Same.trans Hs5.out hs6); have Hs56 := hide hs6; clear hs6)
      | (at_builtin; refine wpList_appS (by rfl) (.tmp 38) (.tmp 39) _ (by rfl) slB (by rfl) (base := w6.heap.size) (by exact own_lit w6 w6.heap.size 5 1 #[] 0 (Nat.le_refl _) (by decide) rfl) (by rfl) (by exact Hbl.out) (by exact (Hr5.out.same Hs56.out).alloc _) (one_bs _) (by omega) (by omega) (by simp) ?_; intro A7 c7 w7 hown hc hb7; have Hs67 : Hid (Same w6 w7) := hide (Chg.fresh (S := fun k => w6.heap.size ≤ k) (Chg.trans ((Chg.refl _ w6).alloc _) hc fun k _ e => by have : k = w6.heap.size := (by simpa [blkOf] using e.symm); omega) fun _ h => h); have Ho7 := hide hown; clear hown hc hb7)
      | (go_at_call 23; have ho7 := Ho7.out; rw [Nat.zero_add] at ho7; obtain ⟨A', c', he7, h71, h72, h73, h74, h75, h76⟩ := own_form ho7; obtain ⟨rfl, rfl⟩ : A7 = A' ∧ c7 = c' := (by injection he7 with e1 e2 e3; exact ⟨e1, e3⟩); (with_reducible refine (dRead_any b w7 h72 rfl h71 h75 (by unfold TyA at h73; exact fun k e => ty_lt (h73 k e)) (by omega)).mono ?_); rw [Hrd.out]; rintro e w8 ⟨hs8, AP, cp, AS, cs, rfl, hop, hos⟩; have Hs8 := hide (Same.trans (Same.trans Hs6.out Hs67.out) hs8); have Hs58 := hide (Same.trans (Same.trans Hs56.out Hs67.out) hs8); have HP8 := hide (Row3.own hop rfl); have HS8 := hide (Row3.own hos rfl); clear hs8 hop hos ho7 he7 h71 h72 h73 h74 h75 h76)
      | fail)
    have hs9 : Same w8 (w8.alloc (.cells #[.slice A1 np c1, .slice A2 ns c2, .int .i64 0] 66)) := (Chg.refl _ w8).alloc _
    have hset : SetR (w8.alloc (.cells #[.slice A1 np c1, .slice A2 ns c2, .int .i64 0] 66)) w8.heap.size A1 c1 A2 c2 0 p s := by
      have h1 := (((HR1.out.same Hs2'.out).same Hs5'.out).same Hs58.out)
      have h2 := ((HR2.out.same Hs5'.out).same Hs58.out)
      have e1 := Hnp.out
      have e2 := Hns.out
      subst e1
      subst e2
      exact ⟨Blk.new w8 _ _, h1.same hs9, h2.same hs9, fun h => by have := h1.2.2.2.2 _ h; omega, fun h => by have := h2.2.2.2.2 _ h; omega⟩
    have HW9 := hide (((HR1.out.same Hs2'.out).same Hs5'.out).same Hs58.out |>.same hs9)
    have HX9 := hide (((HR2.out.same Hs5'.out).same Hs58.out).same hs9)
    have HP9 := hide (HP8.out.same hs9)
    have HS9 := hide (HS8.out.same hs9)
    have Hr9 := hide ((Hr5.out.same Hs58.out).same hs9)
    have Hset := hide hset
    have Hs9 := hide (Same.trans Hs8.out hs9)
    clear hs9 hset
    generalize hw9 : w8.alloc (.cells #[.slice A1 np c1, .slice A2 ns c2, .int .i64 0] 66) = w9 at *
    have HWr : Hid (∀ w', Same w9 w' → Calls Tryz.prog 24 #[.slice A1 np c1, .slice A2 ns c2] w' (WritEnd w' b)) := hide fun w' h => by
      have := rwrite_any p s w' (HW9.out.same h) (HX9.out.same h) Hw.out (by omega) (by omega)
      rwa [Hb.out] at this
    have HSm : Hid (∀ w', Same w9 w' → Calls Tryz.prog 25 #[.pointer (some ⟨w8.heap.size, 0, none⟩), .slice AP p.length cp, .slice AS s.length cs] w' fun e w'' => e = .returned (.bool true) ∧ Same w' w'') := hide fun w' h =>
      sameR_is w' (Hset.out.same h) (HP9.out.same h) (HS9.out.same h) (by rw [Hnp.out]; omega) (by rw [Hns.out]; omega)
    have Hbn := hide (rfl : b.length = b.length)
    refine wp_region_mixS 24 (by kernel_rfl) (by kernel_rfl) fun Fin hFin => ?_
    simp only [List.take_succ_cons, List.take_zero]
    iterate 4 (
        (refine mix_lit ?_ ?_ (fun w => Chg.refl _ w) ?_ ?_ ?_ ?_
         rotate_left; rotate_left
         · intro e w1 hR hF K hK; (skip); go_simp; (refine hK _ _ (Chg.refl _ _) ?_; rfl)
         · intro e; simp only [Act.put, List.setIfInBounds_toArray, List.set_cons_zero, List.set_cons_succ]; rfl
         · exact Loc.const _ _))
    iterate 1 (
        (refine mix_lit ?_ ?_ (fun w => Chg.refl _ w) ?_ ?_ ?_ ?_
         rotate_left; rotate_left
         · intro e w1 hR hF K hK; (have hcv := conv_b (c := c5) (Hr9.out.same hR)); go_simp; (refine hK _ _ (Chg.refl _ _) ?_; rfl)
         · intro e; simp only [Act.put, List.setIfInBounds_toArray, List.set_cons_zero, List.set_cons_succ]; rfl
         · exact Loc.const _ _))
    iterate 2 (
        (refine mix_lit ?_ ?_ (fun w => Chg.refl _ w) ?_ ?_ ?_ ?_
         rotate_left; rotate_left
         · intro e w1 hR hF K hK; (skip); go_simp; (refine hK _ _ (Chg.refl _ _) ?_; rfl)
         · intro e; simp only [Act.put, List.setIfInBounds_toArray, List.set_cons_zero, List.set_cons_succ]; rfl
         · exact Loc.const _ _))
    refine mix_letS (fun _ v w' => ∃ A c, v = .slice A b.length c ∧ Rd w' A (bs b)) ?_ (by exact Loc.const _ _) ?_ ?_ ?_ ?_ ?_
    rotate_left
    · rintro e u w1 w2 hs ⟨A, c, rfl, h1⟩; exact ⟨A, c, rfl, h1.same hs⟩
    · intro e; rfl
    · intro e w1 hR hF K hK
      go_simp
      go_at_call 24
      (with_reducible refine (HWr.out _ hR).mono ?_)
      rintro _ w2 ⟨A, c, rfl, ho, hs⟩
      exact hK _ _ _ hs ⟨A, c, rfl, own_rd ho⟩ rfl
    · intro e; simp only [Act.put, List.setIfInBounds_toArray, List.set_cons_zero, List.set_cons_succ]; rfl
    refine mix_lit (fun _ => .string ⟨b.toArray⟩) ?_ (fun w => Chg.refl _ w) ?_ ?_ ?_ ?_
    rotate_left 2
    · intro e; simp only [Act.put, List.setIfInBounds_toArray, List.set_cons_zero, List.set_cons_succ]; rfl
    · exact Loc.const _ _
    rotate_left
    · intro e w1 hR hF K hK
      obtain ⟨A9, c9, e9, hr9⟩ := (show ∃ A c, e (0 + 1 + 1 + 1 + 1 + 1 + 1 + 1) = .slice A b.length c ∧ Rd w1 A (bs b) from hF 7 (by kernel_rfl))
      have hcv := conv_b (c := c9) hr9
      rw [e9] at hK ⊢
      go_simp
      exact hK _ _ (Chg.refl _ _) rfl
    iterate 15 (
        (refine mix_lit ?_ ?_ (fun w => Chg.refl _ w) ?_ ?_ ?_ ?_
         rotate_left; rotate_left
         · intro e w1 hR hF K hK; (skip); go_simp; (first | (refine hK _ _ (Chg.refl _ _) ?_; rfl) | (go_at_call 25; (with_reducible refine (HSm.out _ hR).mono ?_); rintro _ w2 ⟨rfl, hs⟩; refine hK _ _ hs ?_; rfl) | (go_at_call 22; (with_reducible refine (HLv.out _).mono ?_); rintro _ w2 ⟨rfl, hs⟩; refine hK _ _ hs ?_; rfl))
         · intro e; simp only [Act.put, List.setIfInBounds_toArray, List.set_cons_zero, List.set_cons_succ]; rfl
         · exact Loc.const _ _))
    refine mix_nil fun e w1 hR hF => hFin _ _ ?_
    simp only [List.drop_succ_cons, List.drop_zero]
    clear hF hFin
    go_wp2_with fail
    go_ret
    exact ⟨rfl, Same.trans Hs9.out hR⟩
end Go.Proofs.YtopkdiiigidfdaaGreat
