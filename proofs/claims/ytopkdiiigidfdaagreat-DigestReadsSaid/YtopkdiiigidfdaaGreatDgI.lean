/-
  The walk of DigestReads, over what lives tells. Conditions: none but that it lives.
-/
import Derived.Test.YtopkdiiigidfdaaGreatDgH
namespace Go.Proofs.YtopkdiiigidfdaaGreat
open Go.RowKit Go.Al
set_option linter.unusedVariables false

theorem conv_n {w : World} {A : Option Addr} {n c : Nat} {l : List UInt8} {s : ByteArray} (h : Rd w A (bs l)) (hn : l.length = n) (hs : (⟨l.toArray⟩ : ByteArray) = s) : (convert 58 9 (.slice A n c)).run Tryz.prog w = .ok (.string s) w := by
  subst hn
  subst hs
  exact conv_b h
theorem readD_rdA {b : List UInt8} {p s : List P3} (h : readD b = some (p, s)) : rdA b = some (p, s) := by
  unfold readD at h
  cases hr : rdA b with
  | none => rw [hr] at h; cases h
  | some q =>
    rw [hr, Option.bind_some] at h
    split at h
    · cases h; rfl
    · cases h
theorem take_bs (l : List UInt8) (n : Nat) : (bs l).take n = bs (l.take n) := by simp [bs, List.map_take]
theorem ba_ne {l m : List UInt8} (h : l ≠ m) : ¬ ((⟨l.toArray⟩ : ByteArray).toList = (⟨m.toArray⟩ : ByteArray).toList) := fun e => h (by
  have e' : (str l).toList = (str m).toList := e
  rwa [str_toList, str_toList] at e')
set_option maxRecDepth 100000 in
set_option maxHeartbeats 8000000 in
theorem digestReads_any {A0 A1 A2 : Option Addr} {n0 c0 n1 c1 n2 c2 : Nat} (HL : LivesD) (b0 : List UInt8) (p0 s0 : List P3) (w : World) (h0 : Rd w A0 (bs b0)) (hn0 : b0.length = n0) (hc0 : n0 ≤ c0) (hm0 : c0 ≤ maxLen) (hd0 : ∀ k, blkOf A0 = some k → k < w.heap.size) (h1 : Row3 w A1 n1 c1 p0) (h2 : Row3 w A2 n2 c2 s0) :
    Calls Tryz.prog 5 #[.slice A0 n0 c0, .slice A1 n1 c1, .slice A2 n2 c2] w fun e w' => e = .returned (.bool true) ∧ Same w w' := by
  have HF1 := hide (fewP_any p0 w h1)
  have HS1 := hide (fun w' (hs : Same w w') => fewS_any s0 w' (h2.same hs))
  have hpl : (p0.take 30).length ≤ 30 := by rw [List.length_take]; omega
  have hsl : (s0.take 30).length ≤ 30 := by rw [List.length_take]; omega
  generalize p0.take 30 = p at *
  generalize s0.take 30 = s at *
  obtain ⟨np, hnp⟩ : ∃ n, p.length = n := ⟨_, rfl⟩
  obtain ⟨ns, hns⟩ : ∃ n, s.length = n := ⟨_, rfl⟩
  unfold FewEnd at HF1 HS1
  rw [hnp] at HF1 hpl
  rw [hns] at HS1 hsl
  have Hnp := hide hnp
  have Hns := hide hns
  clear h1 h2 hnp hns
  have HLv := hide HL
  clear HL
  by_cases h3 : 300 < n0
  · obtain ⟨b, hb⟩ : ∃ b, b0.take 300 = b := ⟨_, rfl⟩
    have hbn : b.length = 300 := by rw [← hb, List.length_take]; omega
    have Hbn := hide hbn
    have Hr0 : Hid (Rd w A0 (bs b)) := hide (by rw [← hb, ← take_bs]; exact h0.take 300)
    have Hbl := hide (show (bs b).length = 300 * 1 by simp [bs, hbn])
    have hcut := cut_hi (P := Tryz.prog) slB A0 n0 c0 .i64 300 300 rfl (by omega)
    have hi0 : (300 : Int) < (n0 : Int) := by omega
    clear h0 hn0 hb
    cases hrd : readD b with
    | none =>
      have Hno := hide (readD_none (by omega) hrd)
      have Hrd := hide hrd
      clear hrd
      go_enter Tryz.func5, Tryz.ntmps5
      go_wp2_with (first
        | (go_at_call 18; (with_reducible refine HF1.out.mono ?_); rintro e w1 ⟨A1', c1', rfl, ho1, hs1⟩; have Hs1 := hide hs1; have HR1 := hide (Row3.own ho1 Hnp.out); clear ho1 hs1)
        | (go_at_call 19; (with_reducible refine (HS1.out w1 Hs1.out).mono ?_); rintro e w2 ⟨A2', c2', rfl, ho2, hs2⟩; have Hs2 := hide (Same.trans Hs1.out hs2); have Hs2' := hide hs2; have HR2 := hide (Row3.own ho2 Hns.out); clear ho2 hs2)
        | (at_builtin; refine wpList_appS (by rfl) (.tmp 20) (.tmp 21) _ (by rfl) slB (by rfl) (base := w2.heap.size) (by exact own_lit w2 w2.heap.size 5 1 #[] 0 (Nat.le_refl _) (by decide) rfl) (by rfl) (by exact Hbl.out) (by exact (Hr0.out.same Hs2.out).alloc _) (one_bs _) (by omega) (by omega) (by simp) ?_; intro A7 c7 w7 hown hc hb7; have Hs27 : Hid (Same w2 w7) := hide (Chg.fresh (S := fun k => w2.heap.size ≤ k) (Chg.trans ((Chg.refl _ w2).alloc _) hc fun k _ e => by have : k = w2.heap.size := (by simpa [blkOf] using e.symm); omega) fun _ h => h); have Ho7 := hide hown; clear hown hc hb7)
        | (go_at_call 23; have ho7 := Ho7.out; simp only [Nat.zero_add, List.nil_append] at ho7; obtain ⟨A', c', he7, h71, h72, h73, h74, h75, h76⟩ := own_form ho7; obtain ⟨rfl, rfl⟩ : A7 = A' ∧ c7 = c' := (by injection he7 with e1 e2 e3; exact ⟨e1, e3⟩); (with_reducible refine (dRead_any b w7 h72 Hbn.out h71 h75 (by unfold TyA at h73; exact fun k e => ty_lt (h73 k e)) (by omega)).mono ?_); rw [Hrd.out]; rintro e w8 ⟨hs8, rfl⟩; have Hs28 := hide (Same.trans Hs27.out hs8); clear hs8 ho7 he7 h71 h72 h73 h74 h75 h76)
        | fail)
      have Hr8 := hide (Hr0.out.same (Same.trans Hs2.out Hs28.out))
      have HW8 := hide ((HR1.out.same Hs2'.out).same Hs28.out)
      have HX8 := hide (HR2.out.same Hs28.out)
      have HWl : Hid (∀ w', Same w8 w' → Calls Tryz.prog 21 #[.slice A1' np c1', .slice A2' ns c2'] w' fun e w'' => e = .returned (.bool (wellB p s)) ∧ Same w' w'') := hide fun w' h => rwell_any p s w' (HW8.out.same h) (HX8.out.same h) (by omega) (by omega)
      cases hw : wellB p s
      · rw [hw] at HWl
        clear hw
        refine wp_region_mixS 30 (by kernel_rfl) (by kernel_rfl) fun Fin hFin => ?_
        simp only [List.take_succ_cons, List.take_zero]
        iterate 30 (
            (refine mix_lit ?_ ?_ (fun w => Chg.refl _ w) ?_ ?_ ?_ ?_
             rotate_left; rotate_left
             · intro e w1 hR hF K hK; (skip); go_simp; (first | (refine hK _ _ (Chg.refl _ _) ?_; rfl) | (go_at_call 21; (with_reducible refine (HWl.out _ hR).mono ?_); rintro _ w2 ⟨rfl, hs⟩; refine hK _ _ hs ?_; rfl) | (go_at_call 22; (with_reducible refine (HLv.out _).mono ?_); rintro _ w2 ⟨rfl, hs⟩; refine hK _ _ hs ?_; rfl))
             · intro e; simp only [Act.put, List.setIfInBounds_toArray, List.set_cons_zero, List.set_cons_succ]; rfl
             · exact Loc.const _ _))
        refine mix_nil fun e w1 hR hF => hFin _ _ ?_
        simp only [List.drop_succ_cons, List.drop_zero]
        clear hF hFin
        go_wp2_with fail
        go_ret
        exact ⟨rfl, Same.trans (Same.trans Hs2.out Hs28.out) hR⟩
      · rw [hw] at HWl
        obtain ⟨l, hl⟩ : ∃ l, wrtD p s = l := ⟨_, rfl⟩
        have hne : l ≠ b := by
          rcases Hno.out p s with h | h
          · rw [hw] at h; cases h
          · rwa [hl] at h
        have HWr : Hid (∀ w', Same w8 w' → Calls Tryz.prog 24 #[.slice A1' np c1', .slice A2' ns c2'] w' (WritEnd w' l)) := hide fun w' h => by
          have := rwrite_any p s w' (HW8.out.same h) (HX8.out.same h) hw (by omega) (by omega)
          rwa [hl] at this
        have hnx := ba_ne hne
        obtain ⟨x, hx⟩ : ∃ x, (⟨l.toArray⟩ : ByteArray) = x := ⟨_, rfl⟩
        obtain ⟨y, hy⟩ : ∃ y, (⟨b.toArray⟩ : ByteArray) = y := ⟨_, rfl⟩
        rw [hx, hy] at hnx
        have Hx := hide hx
        have Hy := hide hy
        clear hw hl hne hx hy
        refine wp_region_mixS 30 (by kernel_rfl) (by kernel_rfl) fun Fin hFin => ?_
        simp only [List.take_succ_cons, List.take_zero]
        iterate 20 (
            (refine mix_lit ?_ ?_ (fun w => Chg.refl _ w) ?_ ?_ ?_ ?_
             rotate_left; rotate_left
             · intro e w1 hR hF K hK; (skip); go_simp; (first | (refine hK _ _ (Chg.refl _ _) ?_; rfl) | (go_at_call 21; (with_reducible refine (HWl.out _ hR).mono ?_); rintro _ w2 ⟨rfl, hs⟩; refine hK _ _ hs ?_; rfl) | (go_at_call 22; (with_reducible refine (HLv.out _).mono ?_); rintro _ w2 ⟨rfl, hs⟩; refine hK _ _ hs ?_; rfl))
             · intro e; simp only [Act.put, List.setIfInBounds_toArray, List.set_cons_zero, List.set_cons_succ]; rfl
             · exact Loc.const _ _))
        refine mix_letS (fun _ v w' => ∃ A c, v = .slice A l.length c ∧ Rd w' A (bs l)) ?_ (by exact Loc.const _ _) ?_ ?_ ?_ ?_ ?_
        rotate_left
        · rintro e u w1 w2 hs ⟨A, c, rfl, h1⟩; exact ⟨A, c, rfl, h1.same hs⟩
        · intro e; rfl
        · intro e w1 hR hF K hK
          go_simp
          go_at_call 24
          (with_reducible refine (HWr.out _ hR).mono ?_)
          rintro _ w2 ⟨A, c, rfl, ho, hs⟩
          exact hK _ _ _ hs ⟨A, c, rfl, own_rd ho⟩ rfl
        · intro e; simp only [Act.put, List.setIfInBounds_toArray, List.set_cons_zero, List.set_cons_succ]; rfl
        refine mix_lit (fun _ => .string x) ?_ (fun w => Chg.refl _ w) ?_ ?_ ?_ ?_
        rotate_left 2
        · intro e; simp only [Act.put, List.setIfInBounds_toArray, List.set_cons_zero, List.set_cons_succ]; rfl
        · exact Loc.const _ _
        rotate_left
        · intro e w1 hR hF K hK
          obtain ⟨A9, c9, e9, hr9⟩ := (show ∃ A c, e (0 + 1 + 1 + 1 + 1 + 1 + 1 + 1 + 1 + 1 + 1 + 1 + 1 + 1 + 1 + 1 + 1 + 1 + 1 + 1 + 1) = .slice A l.length c ∧ Rd w1 A (bs l) from hF 20 (by kernel_rfl))
          have hcv := conv_n (c := c9) hr9 rfl Hx.out
          rw [e9] at hK ⊢
          go_simp
          exact hK _ _ (Chg.refl _ _) rfl
        iterate 8 (
            (refine mix_lit ?_ ?_ (fun w => Chg.refl _ w) ?_ ?_ ?_ ?_
             rotate_left; rotate_left
             · intro e w1 hR hF K hK; (have hcv := conv_n (c := c0) (Hr8.out.same hR) Hbn.out Hy.out); go_simp; (first | (refine hK _ _ (Chg.refl _ _) ?_; rfl) | (go_at_call 21; (with_reducible refine (HWl.out _ hR).mono ?_); rintro _ w2 ⟨rfl, hs⟩; refine hK _ _ hs ?_; rfl) | (go_at_call 22; (with_reducible refine (HLv.out _).mono ?_); rintro _ w2 ⟨rfl, hs⟩; refine hK _ _ hs ?_; rfl))
             · intro e; simp only [Act.put, List.setIfInBounds_toArray, List.set_cons_zero, List.set_cons_succ]; rfl
             · exact Loc.const _ _))
        refine mix_nil fun e w1 hR hF => hFin _ _ ?_
        simp only [List.drop_succ_cons, List.drop_zero]
        clear hF hFin
        go_wp2_with fail
        go_ret
        have hnq : (!x.toList == y.toList) = true := by simpa using hnx
        exact ⟨by first | rfl | exact congrArg (fun v => Ending.returned (Value.bool v)) hnq, Same.trans (Same.trans Hs2.out Hs28.out) hR⟩
    | some q =>
      obtain ⟨q, t⟩ := q
      have hln := rdA_len (readD_rdA hrd)
      have hsm := readD_some hrd
      obtain ⟨l, hl⟩ : ∃ l, wrtD q t = l := ⟨_, rfl⟩
      have Hqw := hide hsm.1
      have Hqb := hide hl
      have Hlb := hide (hl.symm.trans hsm.2)
      have Hrd := hide hrd
      have hqn : q.length ≤ 100 := by omega
      have htn : t.length ≤ 100 := by omega
      clear hrd hsm hl hln
      go_enter Tryz.func5, Tryz.ntmps5
      go_wp2_with (first
        | (go_at_call 18; (with_reducible refine HF1.out.mono ?_); rintro e w1 ⟨A1', c1', rfl, ho1, hs1⟩; have Hs1 := hide hs1; have HR1 := hide (Row3.own ho1 Hnp.out); clear ho1 hs1)
        | (go_at_call 19; (with_reducible refine (HS1.out w1 Hs1.out).mono ?_); rintro e w2 ⟨A2', c2', rfl, ho2, hs2⟩; have Hs2 := hide (Same.trans Hs1.out hs2); have Hs2' := hide hs2; have HR2 := hide (Row3.own ho2 Hns.out); clear ho2 hs2)
        | (at_builtin; refine wpList_appS (by rfl) (.tmp 20) (.tmp 21) _ (by rfl) slB (by rfl) (base := w2.heap.size) (by exact own_lit w2 w2.heap.size 5 1 #[] 0 (Nat.le_refl _) (by decide) rfl) (by rfl) (by exact Hbl.out) (by exact (Hr0.out.same Hs2.out).alloc _) (one_bs _) (by omega) (by omega) (by simp) ?_; intro A7 c7 w7 hown hc hb7; have Hs27 : Hid (Same w2 w7) := hide (Chg.fresh (S := fun k => w2.heap.size ≤ k) (Chg.trans ((Chg.refl _ w2).alloc _) hc fun k _ e => by have : k = w2.heap.size := (by simpa [blkOf] using e.symm); omega) fun _ h => h); have Ho7 := hide hown; clear hown hc hb7)
        | (go_at_call 23; have ho7 := Ho7.out; simp only [Nat.zero_add, List.nil_append] at ho7; obtain ⟨A', c', he7, h71, h72, h73, h74, h75, h76⟩ := own_form ho7; obtain ⟨rfl, rfl⟩ : A7 = A' ∧ c7 = c' := (by injection he7 with e1 e2 e3; exact ⟨e1, e3⟩); (with_reducible refine (dRead_any b w7 h72 Hbn.out h71 h75 (by unfold TyA at h73; exact fun k e => ty_lt (h73 k e)) (by omega)).mono ?_); rw [Hrd.out]; rintro e w8 ⟨hs8, AP, cp, AS, cs, rfl, hop, hos⟩; have Hs28 := hide (Same.trans Hs27.out hs8); have HP8 := hide (Row3.own hop rfl); have HS8 := hide (Row3.own hos rfl); clear hs8 hop hos ho7 he7 h71 h72 h73 h74 h75 h76)
        | fail)
      have Hr8 := hide (Hr0.out.same (Same.trans Hs2.out Hs28.out))
      have HWl : Hid (∀ w', Same w8 w' → Calls Tryz.prog 21 #[.slice AP q.length cp, .slice AS t.length cs] w' fun e w'' => e = .returned (.bool true) ∧ Same w' w'') := hide fun w' h => by
        have := rwell_any q t w' (HP8.out.same h) (HS8.out.same h) (by omega) (by omega)
        rwa [Hqw.out] at this
      have HWr : Hid (∀ w', Same w8 w' → Calls Tryz.prog 24 #[.slice AP q.length cp, .slice AS t.length cs] w' (WritEnd w' l)) := hide fun w' h => by
        have := rwrite_any q t w' (HP8.out.same h) (HS8.out.same h) Hqw.out (by omega) (by omega)
        rwa [Hqb.out] at this
      obtain ⟨x, hx⟩ : ∃ x, (⟨l.toArray⟩ : ByteArray) = x := ⟨_, rfl⟩
      have Hx := hide hx
      have Hy := hide (show (⟨b.toArray⟩ : ByteArray) = x by rw [← Hlb.out]; exact hx)
      clear hx
      refine wp_region_mixS 15 (by kernel_rfl) (by kernel_rfl) fun Fin hFin => ?_
      simp only [List.take_succ_cons, List.take_zero]
      iterate 6 (
          (refine mix_lit ?_ ?_ (fun w => Chg.refl _ w) ?_ ?_ ?_ ?_
           rotate_left; rotate_left
           · intro e w1 hR hF K hK; (skip); go_simp; (first | (refine hK _ _ (Chg.refl _ _) ?_; rfl) | (go_at_call 21; (with_reducible refine (HWl.out _ hR).mono ?_); rintro _ w2 ⟨rfl, hs⟩; refine hK _ _ hs ?_; rfl) | (go_at_call 22; (with_reducible refine (HLv.out _).mono ?_); rintro _ w2 ⟨rfl, hs⟩; refine hK _ _ hs ?_; rfl))
           · intro e; simp only [Act.put, List.setIfInBounds_toArray, List.set_cons_zero, List.set_cons_succ]; rfl
           · exact Loc.const _ _))
      refine mix_letS (fun _ v w' => ∃ A c, v = .slice A l.length c ∧ Rd w' A (bs l)) ?_ (by exact Loc.const _ _) ?_ ?_ ?_ ?_ ?_
      rotate_left
      · rintro e u w1 w2 hs ⟨A, c, rfl, h1⟩; exact ⟨A, c, rfl, h1.same hs⟩
      · intro e; rfl
      · intro e w1 hR hF K hK
        go_simp
        go_at_call 24
        (with_reducible refine (HWr.out _ hR).mono ?_)
        rintro _ w2 ⟨A, c, rfl, ho, hs⟩
        exact hK _ _ _ hs ⟨A, c, rfl, own_rd ho⟩ rfl
      · intro e; simp only [Act.put, List.setIfInBounds_toArray, List.set_cons_zero, List.set_cons_succ]; rfl
      refine mix_lit (fun _ => .string x) ?_ (fun w => Chg.refl _ w) ?_ ?_ ?_ ?_
      rotate_left 2
      · intro e; simp only [Act.put, List.setIfInBounds_toArray, List.set_cons_zero, List.set_cons_succ]; rfl
      · exact Loc.const _ _
      rotate_left
      · intro e w1 hR hF K hK
        obtain ⟨A9, c9, e9, hr9⟩ := (show ∃ A c, e (0 + 1 + 1 + 1 + 1 + 1 + 1) = .slice A l.length c ∧ Rd w1 A (bs l) from hF 6 (by kernel_rfl))
        have hcv := conv_n (c := c9) hr9 rfl Hx.out
        rw [e9] at hK ⊢
        go_simp
        exact hK _ _ (Chg.refl _ _) rfl
      iterate 7 (
          (refine mix_lit ?_ ?_ (fun w => Chg.refl _ w) ?_ ?_ ?_ ?_
           rotate_left; rotate_left
           · intro e w1 hR hF K hK; (have hcv := conv_n (c := c0) (Hr8.out.same hR) Hbn.out Hy.out); go_simp; (first | (refine hK _ _ (Chg.refl _ _) ?_; rfl) | (go_at_call 21; (with_reducible refine (HWl.out _ hR).mono ?_); rintro _ w2 ⟨rfl, hs⟩; refine hK _ _ hs ?_; rfl) | (go_at_call 22; (with_reducible refine (HLv.out _).mono ?_); rintro _ w2 ⟨rfl, hs⟩; refine hK _ _ hs ?_; rfl))
           · intro e; simp only [Act.put, List.setIfInBounds_toArray, List.set_cons_zero, List.set_cons_succ]; rfl
           · exact Loc.const _ _))
      refine mix_nil fun e w1 hR hF => hFin _ _ ?_
      simp only [List.drop_succ_cons, List.drop_zero]
      clear hF hFin
      go_wp2_with fail
      go_ret
      exact ⟨rfl, Same.trans (Same.trans Hs2.out Hs28.out) hR⟩
  · obtain rfl : b0.length = n0 := hn0
    obtain ⟨n, hn⟩ : ∃ n, b0.length = n := ⟨_, rfl⟩
    have Hbn := hide hn
    have Hr0 := hide h0
    have Hbl := hide (show (bs b0).length = n * 1 by simp [bs, hn])
    rw [hn] at hc0 h3 ⊢
    have hbn : b0.length = n := hn
    have hi0 : ¬ (300 : Int) < (n : Int) := by omega
    clear h0 hn
    generalize b0 = b at *
    cases hrd : readD b with
    | none =>
      have Hno := hide (readD_none (by omega) hrd)
      have Hrd := hide hrd
      clear hrd
      go_enter Tryz.func5, Tryz.ntmps5
      go_wp2_with (first
        | (go_at_call 18; (with_reducible refine HF1.out.mono ?_); rintro e w1 ⟨A1', c1', rfl, ho1, hs1⟩; have Hs1 := hide hs1; have HR1 := hide (Row3.own ho1 Hnp.out); clear ho1 hs1)
        | (go_at_call 19; (with_reducible refine (HS1.out w1 Hs1.out).mono ?_); rintro e w2 ⟨A2', c2', rfl, ho2, hs2⟩; have Hs2 := hide (Same.trans Hs1.out hs2); have Hs2' := hide hs2; have HR2 := hide (Row3.own ho2 Hns.out); clear ho2 hs2)
        | (at_builtin; refine wpList_appS (by rfl) (.tmp 20) (.tmp 21) _ (by rfl) slB (by rfl) (base := w2.heap.size) (by exact own_lit w2 w2.heap.size 5 1 #[] 0 (Nat.le_refl _) (by decide) rfl) (by rfl) (by exact Hbl.out) (by exact (Hr0.out.same Hs2.out).alloc _) (one_bs _) (by omega) (by omega) (by simp) ?_; intro A7 c7 w7 hown hc hb7; have Hs27 : Hid (Same w2 w7) := hide (Chg.fresh (S := fun k => w2.heap.size ≤ k) (Chg.trans ((Chg.refl _ w2).alloc _) hc fun k _ e => by have : k = w2.heap.size := (by simpa [blkOf] using e.symm); omega) fun _ h => h); have Ho7 := hide hown; clear hown hc hb7)
        | (go_at_call 23; have ho7 := Ho7.out; simp only [Nat.zero_add, List.nil_append] at ho7; obtain ⟨A', c', he7, h71, h72, h73, h74, h75, h76⟩ := own_form ho7; obtain ⟨rfl, rfl⟩ : A7 = A' ∧ c7 = c' := (by injection he7 with e1 e2 e3; exact ⟨e1, e3⟩); (with_reducible refine (dRead_any b w7 h72 Hbn.out h71 h75 (by unfold TyA at h73; exact fun k e => ty_lt (h73 k e)) (by omega)).mono ?_); rw [Hrd.out]; rintro e w8 ⟨hs8, rfl⟩; have Hs28 := hide (Same.trans Hs27.out hs8); clear hs8 ho7 he7 h71 h72 h73 h74 h75 h76)
        | fail)
      have Hr8 := hide (Hr0.out.same (Same.trans Hs2.out Hs28.out))
      have HW8 := hide ((HR1.out.same Hs2'.out).same Hs28.out)
      have HX8 := hide (HR2.out.same Hs28.out)
      have HWl : Hid (∀ w', Same w8 w' → Calls Tryz.prog 21 #[.slice A1' np c1', .slice A2' ns c2'] w' fun e w'' => e = .returned (.bool (wellB p s)) ∧ Same w' w'') := hide fun w' h => rwell_any p s w' (HW8.out.same h) (HX8.out.same h) (by omega) (by omega)
      cases hw : wellB p s
      · rw [hw] at HWl
        clear hw
        refine wp_region_mixS 30 (by kernel_rfl) (by kernel_rfl) fun Fin hFin => ?_
        simp only [List.take_succ_cons, List.take_zero]
        iterate 30 (
            (refine mix_lit ?_ ?_ (fun w => Chg.refl _ w) ?_ ?_ ?_ ?_
             rotate_left; rotate_left
             · intro e w1 hR hF K hK; (skip); go_simp; (first | (refine hK _ _ (Chg.refl _ _) ?_; rfl) | (go_at_call 21; (with_reducible refine (HWl.out _ hR).mono ?_); rintro _ w2 ⟨rfl, hs⟩; refine hK _ _ hs ?_; rfl) | (go_at_call 22; (with_reducible refine (HLv.out _).mono ?_); rintro _ w2 ⟨rfl, hs⟩; refine hK _ _ hs ?_; rfl))
             · intro e; simp only [Act.put, List.setIfInBounds_toArray, List.set_cons_zero, List.set_cons_succ]; rfl
             · exact Loc.const _ _))
        refine mix_nil fun e w1 hR hF => hFin _ _ ?_
        simp only [List.drop_succ_cons, List.drop_zero]
        clear hF hFin
        go_wp2_with fail
        go_ret
        exact ⟨rfl, Same.trans (Same.trans Hs2.out Hs28.out) hR⟩
      · rw [hw] at HWl
        obtain ⟨l, hl⟩ : ∃ l, wrtD p s = l := ⟨_, rfl⟩
        have hne : l ≠ b := by
          rcases Hno.out p s with h | h
          · rw [hw] at h; cases h
          · rwa [hl] at h
        have HWr : Hid (∀ w', Same w8 w' → Calls Tryz.prog 24 #[.slice A1' np c1', .slice A2' ns c2'] w' (WritEnd w' l)) := hide fun w' h => by
          have := rwrite_any p s w' (HW8.out.same h) (HX8.out.same h) hw (by omega) (by omega)
          rwa [hl] at this
        have hnx := ba_ne hne
        obtain ⟨x, hx⟩ : ∃ x, (⟨l.toArray⟩ : ByteArray) = x := ⟨_, rfl⟩
        obtain ⟨y, hy⟩ : ∃ y, (⟨b.toArray⟩ : ByteArray) = y := ⟨_, rfl⟩
        rw [hx, hy] at hnx
        have Hx := hide hx
        have Hy := hide hy
        clear hw hl hne hx hy
        refine wp_region_mixS 30 (by kernel_rfl) (by kernel_rfl) fun Fin hFin => ?_
        simp only [List.take_succ_cons, List.take_zero]
        iterate 20 (
            (refine mix_lit ?_ ?_ (fun w => Chg.refl _ w) ?_ ?_ ?_ ?_
             rotate_left; rotate_left
             · intro e w1 hR hF K hK; (skip); go_simp; (first | (refine hK _ _ (Chg.refl _ _) ?_; rfl) | (go_at_call 21; (with_reducible refine (HWl.out _ hR).mono ?_); rintro _ w2 ⟨rfl, hs⟩; refine hK _ _ hs ?_; rfl) | (go_at_call 22; (with_reducible refine (HLv.out _).mono ?_); rintro _ w2 ⟨rfl, hs⟩; refine hK _ _ hs ?_; rfl))
             · intro e; simp only [Act.put, List.setIfInBounds_toArray, List.set_cons_zero, List.set_cons_succ]; rfl
             · exact Loc.const _ _))
        refine mix_letS (fun _ v w' => ∃ A c, v = .slice A l.length c ∧ Rd w' A (bs l)) ?_ (by exact Loc.const _ _) ?_ ?_ ?_ ?_ ?_
        rotate_left
        · rintro e u w1 w2 hs ⟨A, c, rfl, h1⟩; exact ⟨A, c, rfl, h1.same hs⟩
        · intro e; rfl
        · intro e w1 hR hF K hK
          go_simp
          go_at_call 24
          (with_reducible refine (HWr.out _ hR).mono ?_)
          rintro _ w2 ⟨A, c, rfl, ho, hs⟩
          exact hK _ _ _ hs ⟨A, c, rfl, own_rd ho⟩ rfl
        · intro e; simp only [Act.put, List.setIfInBounds_toArray, List.set_cons_zero, List.set_cons_succ]; rfl
        refine mix_lit (fun _ => .string x) ?_ (fun w => Chg.refl _ w) ?_ ?_ ?_ ?_
        rotate_left 2
        · intro e; simp only [Act.put, List.setIfInBounds_toArray, List.set_cons_zero, List.set_cons_succ]; rfl
        · exact Loc.const _ _
        rotate_left
        · intro e w1 hR hF K hK
          obtain ⟨A9, c9, e9, hr9⟩ := (show ∃ A c, e (0 + 1 + 1 + 1 + 1 + 1 + 1 + 1 + 1 + 1 + 1 + 1 + 1 + 1 + 1 + 1 + 1 + 1 + 1 + 1 + 1) = .slice A l.length c ∧ Rd w1 A (bs l) from hF 20 (by kernel_rfl))
          have hcv := conv_n (c := c9) hr9 rfl Hx.out
          rw [e9] at hK ⊢
          go_simp
          exact hK _ _ (Chg.refl _ _) rfl
        iterate 8 (
            (refine mix_lit ?_ ?_ (fun w => Chg.refl _ w) ?_ ?_ ?_ ?_
             rotate_left; rotate_left
             · intro e w1 hR hF K hK; (have hcv := conv_n (c := c0) (Hr8.out.same hR) Hbn.out Hy.out); go_simp; (first | (refine hK _ _ (Chg.refl _ _) ?_; rfl) | (go_at_call 21; (with_reducible refine (HWl.out _ hR).mono ?_); rintro _ w2 ⟨rfl, hs⟩; refine hK _ _ hs ?_; rfl) | (go_at_call 22; (with_reducible refine (HLv.out _).mono ?_); rintro _ w2 ⟨rfl, hs⟩; refine hK _ _ hs ?_; rfl))
             · intro e; simp only [Act.put, List.setIfInBounds_toArray, List.set_cons_zero, List.set_cons_succ]; rfl
             · exact Loc.const _ _))
        refine mix_nil fun e w1 hR hF => hFin _ _ ?_
        simp only [List.drop_succ_cons, List.drop_zero]
        clear hF hFin
        go_wp2_with fail
        go_ret
        have hnq : (!x.toList == y.toList) = true := by simpa using hnx
        exact ⟨by first | rfl | exact congrArg (fun v => Ending.returned (Value.bool v)) hnq, Same.trans (Same.trans Hs2.out Hs28.out) hR⟩
    | some q =>
      obtain ⟨q, t⟩ := q
      have hln := rdA_len (readD_rdA hrd)
      have hsm := readD_some hrd
      obtain ⟨l, hl⟩ : ∃ l, wrtD q t = l := ⟨_, rfl⟩
      have Hqw := hide hsm.1
      have Hqb := hide hl
      have Hlb := hide (hl.symm.trans hsm.2)
      have Hrd := hide hrd
      have hqn : q.length ≤ 100 := by omega
      have htn : t.length ≤ 100 := by omega
      clear hrd hsm hl hln
      go_enter Tryz.func5, Tryz.ntmps5
      go_wp2_with (first
        | (go_at_call 18; (with_reducible refine HF1.out.mono ?_); rintro e w1 ⟨A1', c1', rfl, ho1, hs1⟩; have Hs1 := hide hs1; have HR1 := hide (Row3.own ho1 Hnp.out); clear ho1 hs1)
        | (go_at_call 19; (with_reducible refine (HS1.out w1 Hs1.out).mono ?_); rintro e w2 ⟨A2', c2', rfl, ho2, hs2⟩; have Hs2 := hide (Same.trans Hs1.out hs2); have Hs2' := hide hs2; have HR2 := hide (Row3.own ho2 Hns.out); clear ho2 hs2)
        | (at_builtin; refine wpList_appS (by rfl) (.tmp 20) (.tmp 21) _ (by rfl) slB (by rfl) (base := w2.heap.size) (by exact own_lit w2 w2.heap.size 5 1 #[] 0 (Nat.le_refl _) (by decide) rfl) (by rfl) (by exact Hbl.out) (by exact (Hr0.out.same Hs2.out).alloc _) (one_bs _) (by omega) (by omega) (by simp) ?_; intro A7 c7 w7 hown hc hb7; have Hs27 : Hid (Same w2 w7) := hide (Chg.fresh (S := fun k => w2.heap.size ≤ k) (Chg.trans ((Chg.refl _ w2).alloc _) hc fun k _ e => by have : k = w2.heap.size := (by simpa [blkOf] using e.symm); omega) fun _ h => h); have Ho7 := hide hown; clear hown hc hb7)
        | (go_at_call 23; have ho7 := Ho7.out; simp only [Nat.zero_add, List.nil_append] at ho7; obtain ⟨A', c', he7, h71, h72, h73, h74, h75, h76⟩ := own_form ho7; obtain ⟨rfl, rfl⟩ : A7 = A' ∧ c7 = c' := (by injection he7 with e1 e2 e3; exact ⟨e1, e3⟩); (with_reducible refine (dRead_any b w7 h72 Hbn.out h71 h75 (by unfold TyA at h73; exact fun k e => ty_lt (h73 k e)) (by omega)).mono ?_); rw [Hrd.out]; rintro e w8 ⟨hs8, AP, cp, AS, cs, rfl, hop, hos⟩; have Hs28 := hide (Same.trans Hs27.out hs8); have HP8 := hide (Row3.own hop rfl); have HS8 := hide (Row3.own hos rfl); clear hs8 hop hos ho7 he7 h71 h72 h73 h74 h75 h76)
        | fail)
      have Hr8 := hide (Hr0.out.same (Same.trans Hs2.out Hs28.out))
      have HWl : Hid (∀ w', Same w8 w' → Calls Tryz.prog 21 #[.slice AP q.length cp, .slice AS t.length cs] w' fun e w'' => e = .returned (.bool true) ∧ Same w' w'') := hide fun w' h => by
        have := rwell_any q t w' (HP8.out.same h) (HS8.out.same h) (by omega) (by omega)
        rwa [Hqw.out] at this
      have HWr : Hid (∀ w', Same w8 w' → Calls Tryz.prog 24 #[.slice AP q.length cp, .slice AS t.length cs] w' (WritEnd w' l)) := hide fun w' h => by
        have := rwrite_any q t w' (HP8.out.same h) (HS8.out.same h) Hqw.out (by omega) (by omega)
        rwa [Hqb.out] at this
      obtain ⟨x, hx⟩ : ∃ x, (⟨l.toArray⟩ : ByteArray) = x := ⟨_, rfl⟩
      have Hx := hide hx
      have Hy := hide (show (⟨b.toArray⟩ : ByteArray) = x by rw [← Hlb.out]; exact hx)
      clear hx
      refine wp_region_mixS 15 (by kernel_rfl) (by kernel_rfl) fun Fin hFin => ?_
      simp only [List.take_succ_cons, List.take_zero]
      iterate 6 (
          (refine mix_lit ?_ ?_ (fun w => Chg.refl _ w) ?_ ?_ ?_ ?_
           rotate_left; rotate_left
           · intro e w1 hR hF K hK; (skip); go_simp; (first | (refine hK _ _ (Chg.refl _ _) ?_; rfl) | (go_at_call 21; (with_reducible refine (HWl.out _ hR).mono ?_); rintro _ w2 ⟨rfl, hs⟩; refine hK _ _ hs ?_; rfl) | (go_at_call 22; (with_reducible refine (HLv.out _).mono ?_); rintro _ w2 ⟨rfl, hs⟩; refine hK _ _ hs ?_; rfl))
           · intro e; simp only [Act.put, List.setIfInBounds_toArray, List.set_cons_zero, List.set_cons_succ]; rfl
           · exact Loc.const _ _))
      refine mix_letS (fun _ v w' => ∃ A c, v = .slice A l.length c ∧ Rd w' A (bs l)) ?_ (by exact Loc.const _ _) ?_ ?_ ?_ ?_ ?_
      rotate_left
      · rintro e u w1 w2 hs ⟨A, c, rfl, h1⟩; exact ⟨A, c, rfl, h1.same hs⟩
      · intro e; rfl
      · intro e w1 hR hF K hK
        go_simp
        go_at_call 24
        (with_reducible refine (HWr.out _ hR).mono ?_)
        rintro _ w2 ⟨A, c, rfl, ho, hs⟩
        exact hK _ _ _ hs ⟨A, c, rfl, own_rd ho⟩ rfl
      · intro e; simp only [Act.put, List.setIfInBounds_toArray, List.set_cons_zero, List.set_cons_succ]; rfl
      refine mix_lit (fun _ => .string x) ?_ (fun w => Chg.refl _ w) ?_ ?_ ?_ ?_
      rotate_left 2
      · intro e; simp only [Act.put, List.setIfInBounds_toArray, List.set_cons_zero, List.set_cons_succ]; rfl
      · exact Loc.const _ _
      rotate_left
      · intro e w1 hR hF K hK
        obtain ⟨A9, c9, e9, hr9⟩ := (show ∃ A c, e (0 + 1 + 1 + 1 + 1 + 1 + 1) = .slice A l.length c ∧ Rd w1 A (bs l) from hF 6 (by kernel_rfl))
        have hcv := conv_n (c := c9) hr9 rfl Hx.out
        rw [e9] at hK ⊢
        go_simp
        exact hK _ _ (Chg.refl _ _) rfl
      iterate 7 (
          (refine mix_lit ?_ ?_ (fun w => Chg.refl _ w) ?_ ?_ ?_ ?_
           rotate_left; rotate_left
           · intro e w1 hR hF K hK; (have hcv := conv_n (c := c0) (Hr8.out.same hR) Hbn.out Hy.out); go_simp; (first | (refine hK _ _ (Chg.refl _ _) ?_; rfl) | (go_at_call 21; (with_reducible refine (HWl.out _ hR).mono ?_); rintro _ w2 ⟨rfl, hs⟩; refine hK _ _ hs ?_; rfl) | (go_at_call 22; (with_reducible refine (HLv.out _).mono ?_); rintro _ w2 ⟨rfl, hs⟩; refine hK _ _ hs ?_; rfl))
           · intro e; simp only [Act.put, List.setIfInBounds_toArray, List.set_cons_zero, List.set_cons_succ]; rfl
           · exact Loc.const _ _))
      refine mix_nil fun e w1 hR hF => hFin _ _ ?_
      simp only [List.drop_succ_cons, List.drop_zero]
      clear hF hFin
      go_wp2_with fail
      go_ret
      exact ⟨rfl, Same.trans (Same.trans Hs2.out Hs28.out) hR⟩
end Go.Proofs.YtopkdiiigidfdaaGreat
