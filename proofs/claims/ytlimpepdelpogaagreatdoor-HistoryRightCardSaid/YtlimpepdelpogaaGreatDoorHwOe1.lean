/-
  The document's Ops: a new operation that is invoked. No conditions.
-/
import Derived.Test.YtlimpepdelpogaaGreatDoorHwOs
namespace Go.Proofs.YtlimpepdelpogaaGreatDoor
open Go.RowKit Go.Al
set_option linter.unusedVariables false
set_option maxHeartbeats 16000000
set_option maxRecDepth 100000
theorem opsE1 : opsSkel.1 := by
  intro N C all w HN HN4 hN' G HG0 HS0 xK xA gk wr u2 u3 u7 u8 u9 u12 u13 u14 u15 u16 u17 u18 u19 u20 u21 u22 u23 u24 u25 u26 u27 u28 u29 u30 u31 u32 u33 u34 u35 u36 u37 u38 u39 u40 u41 u42 u43 u44 u45 u46 u47 u48 u49 u50 u51 u52 u53 u54 u55 u56 u57 u58 u59 u60 u61 u62 u63 u64 u65 u66 u67 u68 u69 u70 u71 u72 u73 u74 u75 u76 u77 u78 u79 u80 u81 u82 u83 u84 u85 u86 u87 u88 u89 u90 u91 u92 u93 u94 u95 u96 u97 u98 u99 u100 u101 u102 u103 u104 u105 u106 u107 u108 u109 u110 u111 u112 u113 u114 u115 u116 u117 u118 u119 u120 u121 u122 u123 u124 u125 u126 u127 u128 u129 u130 u131 u132 u133 u134 u135 u136 u137 u138 u139 u140 u141 u142 u143 u144 u145 u146 u147 u148 u149 u150 u151 u152 u153 u154 u155 u156 u157 u158 u159 u160 u161 u162 u163 u164 u165 u166 u167 u168 u169 u170 u171 u172 u173 u174 u175 u176 u177 u178 u179 u180 u181 u182 u183 u184 u185 u186 u187 u188 u189 gJ gK gHK i last A n c ds hi hli Hk Hli Hst Hinv Hgo hnl hlt hil b off Ha gHJ hbl x Hrx0 Hstep hiI k xs ss op te Hkx Hxs Hss Hop Hte R HRl HR0 L Hra HLc HrepF c0 c1 c2 c3 c22 HreqF h1 h2 h3 h0 hnew k1
  have Hl1 : Hid (last ≤ x.st) := hide (by rw [Hxs.out]; exact h1)
  have h1b : ¬ xs < last := by omega
  have h2b : ¬ op < 0 := by omega
  have h3b : ¬ (n : Int) < op := by omega
  have HopE : Hid (x.op = (ds.length : Int) + 1) := hide (by rw [Hop.out, hnew]; omega)
  have Hn64 : Hid (n ≤ 64) := hide (by have := HN4.out; omega)
  have hn0 : ¬ (n : Int) = 0 := by omega
  have hn1 : ((n : Int) == 0) = false := by simp; omega
  have hn2 : ¬ n = 0 := by omega
  have hn3 : ¬ (n : Int) < 0 := by omega
  rw [hnew] at c3
  have Hnew := hide hnew
  clear hnew
  subst k1
  have HKE : Hid (x.k = 1 ∨ x.k = 5) := hide (by rw [Hkx.out]; decide)
  obtain ⟨m, hm⟩ : ∃ m, ds.length = m := ⟨_, rfl⟩
  have Hdl := hide hm
  have hmd : m < (ds ++ [freshD x]).length := (get_new ds (freshD x) hm).1
  have HM : Hid (n = m + 1) := hide (by omega)
  have HFl := hide (ddL_length (freshD x))
  have HFo := hide (one_ddL (freshD x))
  have hbu := built_op x
  obtain ⟨FL, hFL⟩ : ∃ FL, ddL (freshD x) = FL := ⟨_, rfl⟩
  rw [Hss.out, HR0.out, hFL] at hbu
  rw [hFL] at HFl HFo
  have HBu := hide hbu
  have HFL := hide hFL
  clear hbu hFL hm
  go_wp2_with (first
    | ((with_reducible refine ldR 45 b (off + i * 27) 27 L rowEvt HLc.out.len Hra.out ?_ ?_ ?_); rfl; rfl)
    | ((with_reducible refine stNg 45 27 L 45 _ rowEvt HLc.out.len ?_ HLc.out.one ?_ ?_ ?_); rfl; rfl; rfl; intro w3 hs3 hz3 hb3; have Hs3 := hide hs3; have Hb3 := hide hb3; have hkb3 := hb3.cell; clear hs3 hz3 hb3)
    | ((with_reducible refine ldR 37 wr.heap.size 4 18 R rowReqH HRl.out (HreqF.out w3 Hb3.out) ?_ ?_ ?_); rfl; rfl)
    | (refine wpList_buildTo (by rfl) 74 _ (by rfl) (some 74) rfl FL.toArray (by rw [Array.toList_map]; exact HBu.out) ?_)
    | (refine wpList_bs1 (by rfl) 68 74 _ rfl FL rfl _ 29 240 Tryz.underlying68 infoOp3 HFl.out (by decide) (by decide) ?_)
    | (at_builtin; refine wpList_appS (by rfl) (.tmp 68) (.tmp 75) _ (by rfl) slOp (by rfl) (base := w.heap.size) (by exact own_chg Hst.out.own (Hs3.out.alloc _) (fun _ _ f => f)) (by rfl) (show FL.length = 1 * 29 from by rw [HFl.out]) (by exact rd_lit _ _ _ _ _ (by simp)) HFo.out (by have := Hn64.out; omega) (by have := Hn64.out; omega) (by have := Hst.out.same.size; have := Hs3.out.size; simp; omega) ?_; intro A4 c4 w8 hown hc hb; have HSp := hide ((Hst.out.same2 (Hs3.out.alloc (.cells FL.toArray 74))).push hc (by rw [HFL.out]; exact hown) (fresh_rp w x)); have Hb8 := hide ((Hb3.out.alloc (.cells FL.toArray 74)).chg hc (fun e => by have := (Hst.out.own.lt _ (by rw [ownBlock_slice]; exact e)).2; omega)); have hkb8 := Hb8.out.cell; clear hown hc hb; obtain ⟨gd, hA, hrest⟩ := own_dd HSp.out.own (j := n) (by rw [List.length_cons]; have := HM.out; omega); subst hA; clear hrest)
    | fail)
  have HB := Hb8
  have HO := HSp
  obtain ⟨d, hdd⟩ : ∃ d, freshD x = d := ⟨_, rfl⟩
  have Hdd := hide hdd
  have Hd : Hid ((ds ++ [freshD x])[m] = d) := hide ((get_new ds (freshD x) Hdl.out).2.trans hdd)
  clear hdd hkb3 hkb8
  have hMl : n < (zD :: (ds ++ [freshD x])).length := by have := HM.out; rw [List.length_cons]; omega
  have HMl := hide hMl
  have hcl0 := own_cells HO.out.own (j := n) hMl
  obtain ⟨gd', hA', hgb, hgd, hty, hfz, hrest⟩ := own_dd HO.out.own (j := n) hMl
  clear hrest
  obtain rfl : gd = gd' := by cases hA'; rfl
  clear hA'
  have hgdw : ¬ gd = wr.heap.size := fun e => by have h1 := hty; rw [e, HB.out.ty] at h1; exact absurd h1 (by decide)
  have hgdw' : ¬ wr.heap.size = gd := fun e => hgdw e.symm
  rw [get_cons HM.out hmd Hd.out hMl] at hcl0
  have Hcl := hide (fun (w' : World) (h : Same w8 w') (q : Nat) (hq : q < 29) => (h.cell (p := ⟨gd, n * 29 + q, none⟩) hgd (fun f => f)).trans (hcl0 q hq))
  have HDf := hide (fun (w' : World) (h : Same w8 w') (q : Nat) => (h.frozen (p := ⟨gd, q, none⟩) hgd (fun f => f)).trans (hfz q))
  obtain ⟨ds5, hds5⟩ : ∃ v, d.ss = v := ⟨_, rfl⟩
  obtain ⟨er, her⟩ : ∃ v, eqR d.r x.r = v := ⟨_, rfl⟩
  obtain ⟨gr, hgr⟩ : ∃ v, goodR x.r = v := ⟨_, rfl⟩
  have HD5 : Hid (∀ w', Same w8 w' → w'.cell? ⟨gd, n * 29 + 5, none⟩ = some (.int .i64 ds5)) := hide fun w' h => by rw [Hcl.out w' h 5 (by omega), ← hds5]; rfl
  have HDr : Hid (∀ w', Same w8 w' → w'.rangeAt gd (n * 29 + 6) (rqL d.r)) := hide fun w' h q v hv => by
    have hl : q < 18 := by have := (List.getElem?_eq_some_iff.1 hv).1; rwa [rqL_length] at this
    have e := rangeAt_part' [.int .i64 d.iv, .int .i64 d.tk, .int .i64 d.rp, .int .i64 d.ab, .int .i64 d.rf, .int .i64 d.ss] (rqL d.r) (rpL d.t) q v hv
    rw [show n * 29 + 6 + q = n * 29 + (6 + q) by omega, Hcl.out w' h (6 + q) (by omega)]
    exact e
  have HDl := hide (rqL_length d.r)
  have hneq := neq_req d.r x.r
  have HG := hide (fun w' => goodRf_any x.r w')
  rw [her] at hneq
  rw [hgr] at HG
  unfold rqV at HG
  rw [HR0.out] at hneq HG
  have Hds5 := hide hds5
  have Her := hide her
  have Hgr := hide hgr
  clear hds5 her hgr hcl0 hfz hMl hty
  generalize rqL d.r = Rd at *
  have hss5 : ds5 = ss := by rw [← Hds5.out, ← Hdd.out]; exact Hss.out
  subst hss5
  have her : er = true := by rw [← Her.out, ← Hdd.out]; exact eqR_refl _
  subst her
  by_cases hgr : gr = true
  · subst hgr
    refine wp_region_mixS 22 (by kernel_rfl) (by kernel_rfl) fun Fin hFin => ?_
    simp only [List.take_succ_cons, List.take_zero]
    iterate 11 (
        (refine mix_lit ?_ ?_ (Chg.refl _) ?_ ?_ ?_ ?_; rotate_left 2
         · intro e w1 hR hF K hK; (have hcb := (HB.out.same hR).cell; have e5 := HD5.out w1 hR); go_simp; (refine hK _ _ (Chg.refl _ _) ?_; rfl)
         · intro e; simp only [puts]; rfl
         · exact Loc.const _ _))
    refine mix_ld Rd ?_ (Chg.refl _) (fun _ => by rfl) 37 _ rfl gd (n * 29 + 6) (fun _ => by rfl) _ (fun w1 hR => HDr.out w1 hR) Tryz.underlying37 rfl (by rw [HDl.out]; exact rowReqH.sz) ?_ ?_
    rotate_left
    · intro e; simp only [puts]; rfl
    iterate 1 (
        (refine mix_lit ?_ ?_ (Chg.refl _) ?_ ?_ ?_ ?_; rotate_left 2
         · intro e w1 hR hF K hK; (have hcb := (HB.out.same hR).cell; have e5 := HD5.out w1 hR); go_simp; (refine hK _ _ (Chg.refl _ _) ?_; rfl)
         · intro e; simp only [puts]; rfl
         · exact Loc.const _ _))
    refine mix_ld R ?_ (Chg.refl _) (fun _ => by rfl) 37 _ rfl wr.heap.size 4 (fun _ => by rfl) _ (fun w1 hR => HreqF.out _ (HB.out.same hR)) Tryz.underlying37 rfl (by rw [HRl.out]; exact rowReqH.sz) ?_ ?_
    rotate_left
    · intro e; simp only [puts]; rfl
    iterate 4 (
        (refine mix_lit ?_ ?_ (Chg.refl _) ?_ ?_ ?_ ?_; rotate_left 2
         · intro e w1 hR hF K hK; (have hcb := (HB.out.same hR).cell; have e5 := HD5.out w1 hR); go_simp; (refine hK _ _ (Chg.refl _ _) ?_; rfl)
         · intro e; simp only [puts]; rfl
         · exact Loc.const _ _))
    refine mix_ld R ?_ (Chg.refl _) (fun _ => by rfl) 37 _ rfl wr.heap.size 4 (fun _ => by rfl) _ (fun w1 hR => HreqF.out _ (HB.out.same hR)) Tryz.underlying37 rfl (by rw [HRl.out]; exact rowReqH.sz) ?_ ?_
    rotate_left
    · intro e; simp only [puts]; rfl
    iterate 3 (
        (refine mix_lit ?_ ?_ (Chg.refl _) ?_ ?_ ?_ ?_; rotate_left 2
         · intro e w1 hR hF K hK; (have hcb := (HB.out.same hR).cell; have e5 := HD5.out w1 hR); go_simp; (first | (refine hK _ _ (Chg.refl _ _) ?_; rfl) | (go_at_call 32; (with_reducible refine (HG.out _).mono ?_); rintro _ w2 ⟨rfl, hs⟩; refine hK _ _ hs ?_; rfl))
         · intro e; simp only [puts]; rfl
         · exact Loc.const _ _))
    refine mix_nil fun e wc hR hF => hFin _ _ ?_
    simp only [List.drop_succ_cons, List.drop_zero]
    have Hsc := hide hR
    clear hF hFin hR
    go_wp2_with fail
    refine wp_region_mixS 17 (by kernel_rfl) (by kernel_rfl) fun Fin hFin => ?_
    simp only [List.take_succ_cons, List.take_zero]
    iterate 16 (
        (refine mix_lit ?_ ?_ (Chg.refl _) ?_ ?_ ?_ ?_; rotate_left 2
         · intro e w1 hR hF K hK; (skip); go_simp; (refine hK _ _ (Chg.refl _ _) ?_; rfl)
         · intro e; simp only [puts]; rfl
         · exact Loc.const _ _))
    refine mix_letS (fun _ v w' => ∃ ba, v = .pointer (some ⟨ba, 0, none⟩) ∧ Blk w' ba 99 #[.pointer none, .pointer none, .pointer none, .pointer none, .pointer none, .pointer none] ∧ wc.heap.size ≤ ba) ?_ (by exact Loc.const _ _) ?_ ?_ ?_ ?_ ?_
    rotate_left
    · rintro e u w1 w2 hs ⟨ba, rfl, h1, h2⟩; exact ⟨ba, rfl, h1.same hs, h2⟩
    · intro e; rfl
    · intro e w1 hR hF K hK; go_simp; exact hK _ _ _ ((Chg.refl _ _).alloc _) ⟨_, rfl, Blk.new _ _ _, hR.size⟩ (by simp only [puts])
    · intro e; simp only [puts]; rfl
    refine mix_nil fun e wd hR hF => hFin _ _ ?_
    simp only [List.drop_succ_cons, List.drop_zero]
    obtain ⟨ba, hba, hB6, hbz⟩ := (show ∃ ba, e 16 = .pointer (some ⟨ba, 0, none⟩) ∧ Blk wd ba 99 #[.pointer none, .pointer none, .pointer none, .pointer none, .pointer none, .pointer none] ∧ wc.heap.size ≤ ba from hF 16 (by decide))
    rw [hba]
    have Hsd := hide (Same.trans Hsc.out hR)
    have HB6 := hide hB6
    have Hbz := hide hbz
    have HR6 := hide (RowL.lit (cs := [.pointer none, .pointer (some ⟨gd, n * 29, none⟩), .pointer (some ⟨gd, n * 29 + 1, none⟩), .pointer (some ⟨gd, n * 29 + 2, none⟩), .pointer (some ⟨gd, n * 29 + 3, none⟩), .pointer (some ⟨gd, n * 29 + 4, none⟩)]) (n := 6) rfl rfl)
    clear hF hFin hR hba hB6 hbz
    have hkx : x.k = 1 := Hkx.out
    obtain ⟨tv, htv⟩ : ∃ v, timeD d 1 = v := ⟨_, rfl⟩
    have HDt : Hid (∀ w', Same w8 w' → w'.cell? ⟨gd, n * 29, none⟩ = some (.int .i64 tv)) := hide fun w' h => (Hcl.out w' h 0 (by omega)).trans (by rw [← htv]; rfl)
    have Htv := hide htv
    clear htv
    have ht : tv < 0 := by rw [← Htv.out, ← Hdd.out]; exact fresh_time x 1
    have HTm := hide ht
    have HCd := hide (show timeD d x.k < 0 ∧ d.ss = x.ss ∧ eqR d.r x.r = true ∧ goodR x.r = true from ⟨by rw [← Hdd.out]; exact fresh_time x x.k, by rw [← Hdd.out]; rfl, by rw [← Hdd.out]; exact eqR_refl _, Hgr.out⟩)
    go_wp2_with (first
      | ((with_reducible refine stRg 99 ba 6 [.pointer none, .pointer (some ⟨gd, n * 29, none⟩), .pointer (some ⟨gd, n * 29 + 1, none⟩), .pointer (some ⟨gd, n * 29 + 2, none⟩), .pointer (some ⟨gd, n * 29 + 3, none⟩), .pointer (some ⟨gd, n * 29 + 4, none⟩)] 99 _ rowAt6 HR6.out.len ?_ HB6.out HR6.out.one ?_ ?_ ?_); rfl; rfl; rfl; intro wE hcE hzE hbE; have Hse := hide (show Same w8 wE from Chg.fresh (S := fun k => k = ba) (Hsd.out.to.trans hcE fun _ _ e => e) (fun k e => by subst e; have := Hsc.out.size; have := Hbz.out; omega)); have hka := hbE.cell; have hkb := (HB.out.same Hse.out).cell; have hkt := HDt.out wE Hse.out; have hkf := HDf.out wE Hse.out; clear hcE hzE hbE)
      | fail)
    have HOs := hide ((HO.out.same2 Hse.out).put (m := m) (d' := setD d x.k i) HM.out ((Chg.refl _ wE).set1 _ (.int .i64 (i : Int))) (own_setd (HO.out.same2 Hse.out).own HMl.out (i := 0) (by omega) (.int .i64 i) (setD d x.k i) (by rw [get_cons HM.out hmd Hd.out HMl.out, hkx]; rfl)) (by rw [setD_t]; exact Hd.out ▸ HO.out.rep _ (List.getElem_mem hmd)))
    go_roundg (N - (i + 1))
    case measure => have := Hk.out; omega
    case rel =>
      have hnx := Hstep.out
      rw [tk_e Hl1.out HopE.out HKE.out, Hdd.out, placeP_14 (.inl hkx) HCd.out, Option.map_some] at hnx
      have hN44 := HN4.out
      have hl44 := Hli.out
      have hfin := HOs.out
      rw [set_new ds (freshD x) _ Hdl.out] at hfin
      exact ⟨i + 1, x.st, _, _, _, ds ++ [setD d x.k i], (by omega), rfl, (by first | go_num | exact congrArg (Value.int .i64) (wrapN (by omega))), rfl, (by rw [Hxs.out]), (by rw [List.length_append]; simp; omega), hfin, hnx, take_inv Hinv.out (by rw [tk_e Hl1.out HopE.out HKE.out, Hdd.out, placeP_14 (.inl hkx) HCd.out, Option.map_some])⟩
  · rw [Bool.not_eq_true] at hgr
    subst hgr
    refine wp_region_mixS 22 (by kernel_rfl) (by kernel_rfl) fun Fin hFin => ?_
    simp only [List.take_succ_cons, List.take_zero]
    iterate 11 (
        (refine mix_lit ?_ ?_ (Chg.refl _) ?_ ?_ ?_ ?_; rotate_left 2
         · intro e w1 hR hF K hK; (have hcb := (HB.out.same hR).cell; have e5 := HD5.out w1 hR); go_simp; (refine hK _ _ (Chg.refl _ _) ?_; rfl)
         · intro e; simp only [puts]; rfl
         · exact Loc.const _ _))
    refine mix_ld Rd ?_ (Chg.refl _) (fun _ => by rfl) 37 _ rfl gd (n * 29 + 6) (fun _ => by rfl) _ (fun w1 hR => HDr.out w1 hR) Tryz.underlying37 rfl (by rw [HDl.out]; exact rowReqH.sz) ?_ ?_
    rotate_left
    · intro e; simp only [puts]; rfl
    iterate 1 (
        (refine mix_lit ?_ ?_ (Chg.refl _) ?_ ?_ ?_ ?_; rotate_left 2
         · intro e w1 hR hF K hK; (have hcb := (HB.out.same hR).cell; have e5 := HD5.out w1 hR); go_simp; (refine hK _ _ (Chg.refl _ _) ?_; rfl)
         · intro e; simp only [puts]; rfl
         · exact Loc.const _ _))
    refine mix_ld R ?_ (Chg.refl _) (fun _ => by rfl) 37 _ rfl wr.heap.size 4 (fun _ => by rfl) _ (fun w1 hR => HreqF.out _ (HB.out.same hR)) Tryz.underlying37 rfl (by rw [HRl.out]; exact rowReqH.sz) ?_ ?_
    rotate_left
    · intro e; simp only [puts]; rfl
    iterate 4 (
        (refine mix_lit ?_ ?_ (Chg.refl _) ?_ ?_ ?_ ?_; rotate_left 2
         · intro e w1 hR hF K hK; (have hcb := (HB.out.same hR).cell; have e5 := HD5.out w1 hR); go_simp; (refine hK _ _ (Chg.refl _ _) ?_; rfl)
         · intro e; simp only [puts]; rfl
         · exact Loc.const _ _))
    refine mix_ld R ?_ (Chg.refl _) (fun _ => by rfl) 37 _ rfl wr.heap.size 4 (fun _ => by rfl) _ (fun w1 hR => HreqF.out _ (HB.out.same hR)) Tryz.underlying37 rfl (by rw [HRl.out]; exact rowReqH.sz) ?_ ?_
    rotate_left
    · intro e; simp only [puts]; rfl
    iterate 3 (
        (refine mix_lit ?_ ?_ (Chg.refl _) ?_ ?_ ?_ ?_; rotate_left 2
         · intro e w1 hR hF K hK; (have hcb := (HB.out.same hR).cell; have e5 := HD5.out w1 hR); go_simp; (first | (refine hK _ _ (Chg.refl _ _) ?_; rfl) | (go_at_call 32; (with_reducible refine (HG.out _).mono ?_); rintro _ w2 ⟨rfl, hs⟩; refine hK _ _ hs ?_; rfl))
         · intro e; simp only [puts]; rfl
         · exact Loc.const _ _))
    refine mix_nil fun e wc hR hF => hFin _ _ ?_
    simp only [List.drop_succ_cons, List.drop_zero]
    have Hsc := hide hR
    clear hF hFin hR
    go_wp2_with fail
    go_ret2
    have hn : G = none := by
      have h := Hstep.out
      rw [tk_e Hl1.out HopE.out HKE.out, Hdd.out, placeP_n (fun h => absurd (Hgr.out.symm.trans h.2.2) (by decide)), Option.map_none] at h
      exact h.symm
    rw [hn]
    exact OpsEnd.none_ (Same.trans HO.out.same Hsc.out)
end Go.Proofs.YtlimpepdelpogaaGreatDoor
