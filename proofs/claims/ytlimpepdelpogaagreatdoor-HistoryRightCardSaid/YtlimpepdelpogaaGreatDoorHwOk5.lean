/-
  The document's Ops: an operation that is there, kind 5. No conditions.
-/
import Derived.Test.YtlimpepdelpogaaGreatDoorHwOf
namespace Go.Proofs.YtlimpepdelpogaaGreatDoor
open Go.RowKit Go.Al
set_option linter.unusedVariables false
set_option maxHeartbeats 16000000
set_option maxRecDepth 100000
theorem opsK5 : opsSkelF.2.2.2.2.1 := by
  intro N C all w HN HN4 hN' G HG0 HS0 xK xA gk wr u2 u3 u7 u8 u9 u12 u13 u14 u15 u16 u17 u18 u19 u20 u21 u22 u23 u24 u25 u26 u27 u28 u29 u30 u31 u32 u33 u34 u35 u36 u37 u38 u39 u40 u41 u42 u43 u44 u45 u46 u47 u48 u49 u50 u51 u52 u53 u54 u55 u56 u57 u58 u59 u60 u61 u62 u63 u64 u65 u66 u67 u68 u69 u70 u71 u72 u73 u74 u75 u76 u77 u78 u79 u80 u81 u82 u83 u84 u85 u86 u87 u88 u89 u90 u91 u92 u93 u94 u95 u96 u97 u98 u99 u100 u101 u102 u103 u104 u105 u106 u107 u108 u109 u110 u111 u112 u113 u114 u115 u116 u117 u118 u119 u120 u121 u122 u123 u124 u125 u126 u127 u128 u129 u130 u131 u132 u133 u134 u135 u136 u137 u138 u139 u140 u141 u142 u143 u144 u145 u146 u147 u148 u149 u150 u151 u152 u153 u154 u155 u156 u157 u158 u159 u160 u161 u162 u163 u164 u165 u166 u167 u168 u169 u170 u171 u172 u173 u174 u175 u176 u177 u178 u179 u180 u181 u182 u183 u184 u185 u186 u187 u188 u189 gJ gK gHK i last n c ds hi hli Hk Hli Hinv Hgo hnl hlt hil b off Ha gHJ hbl x Hrx0 Hstep hiI xs op te Hxs Hop Hte R HRl HR0 L Hra HLc HrepF c1 c22 HreqF h1 h2 h3 h0 hnew Hl1 m M c3 hmd HopM HM d Hd gd Hst hM0 hM1 hM2 hM3 hM4 hM5 hM6 y1 y2 w3 Hs3 Hb3 h1b h2b h3b hM7 hM8 HB HO HMl hgb hgd hgdw hgdw' Hcl HDf ds5 HD5 Hds5 Rd HDr HDl Hss c2 Her hneq HG Hgr y3 y4 wc Hsc y5 y6 Fin e wd ba Hsd HB6 Hbz HR6 Hkx c0 hk1 hk5
  have hkx : x.k = 5 := Hkx.out
  obtain ⟨tv, htv⟩ : ∃ v, timeD d 5 = v := ⟨_, rfl⟩
  have HDt : Hid (∀ w', Same w3 w' → w'.cell? ⟨gd, M * 29 + 4, none⟩ = some (.int .i64 tv)) := hide fun w' h => (Hcl.out w' h 4 (by omega)).trans (by rw [← htv]; rfl)
  have Htv := hide htv
  clear htv
  by_cases ht : tv < 0
  · as_aux_lemma =>
      have HTm := hide ht
      have HCd := hide (show timeD d x.k < 0 ∧ d.ss = x.ss ∧ eqR d.r x.r = true ∧ goodR x.r = true from ⟨by rw [hkx, Htv.out]; exact HTm.out, by rw [Hds5.out, Hss.out], Her.out, Hgr.out⟩)
      go_wp2_with (first
        | ((with_reducible refine stRg 99 ba 6 [.pointer none, .pointer (some ⟨gd, M * 29, none⟩), .pointer (some ⟨gd, M * 29 + 1, none⟩), .pointer (some ⟨gd, M * 29 + 2, none⟩), .pointer (some ⟨gd, M * 29 + 3, none⟩), .pointer (some ⟨gd, M * 29 + 4, none⟩)] 99 _ rowAt6 HR6.out.len ?_ HB6.out HR6.out.one ?_ ?_ ?_); rfl; rfl; rfl; intro wE hcE hzE hbE; have Hse := hide (show Same w3 wE from Chg.fresh (S := fun k => k = ba) (Hsd.out.to.trans hcE fun _ _ e => e) (fun k e => by subst e; have := Hsc.out.size; have := Hbz.out; omega)); have hka := hbE.cell; have hkb := (HB.out.same Hse.out).cell; have hkt := HDt.out wE Hse.out; have hkf := HDf.out wE Hse.out; clear hcE hzE hbE)
        | fail)
      have HOs := hide ((HO.out.same2 Hse.out).put (m := m) (d' := setD d x.k i) HM.out ((Chg.refl _ wE).set1 _ (.int .i64 (i : Int))) (own_setd (HO.out.same2 Hse.out).own HMl.out (i := 4) (by omega) (.int .i64 i) (setD d x.k i) (by rw [get_cons HM.out hmd Hd.out HMl.out, hkx]; rfl)) (by rw [setD_t]; exact Hd.out ▸ HO.out.rep _ (List.getElem_mem hmd)))
      have HBs := hide ((HB.out.same Hse.out).far (p := ⟨gd, M * 29 + 4, none⟩) hgdw' (.int .i64 (i : Int)))
      obtain ⟨tk, htk⟩ : ∃ v, (setD d x.k i).tk = v := ⟨_, rfl⟩
      obtain ⟨rp, hrp⟩ : ∃ v, (setD d x.k i).rp = v := ⟨_, rfl⟩
      have HMl2 := hide (show M < (zD :: ds.set m (setD d x.k i)).length by have := HMl.out; rw [List.length_cons] at this ⊢; rw [List.length_set]; exact this)
      have HgetM := hide (get_cons (d := setD d x.k i) HM.out (by rw [List.length_set]; exact hmd) (List.getElem_set_self _) HMl2.out)
      have HD2 : Hid (∀ w', Same (wE.setCell ⟨gd, M * 29 + 4, none⟩ (.int .i64 (i : Int))) w' → w'.cell? ⟨gd, M * 29 + 1, none⟩ = some (.int .i64 tk) ∧ w'.cell? ⟨gd, M * 29 + 2, none⟩ = some (.int .i64 rp)) := hide fun w' h => by
        have e1 := (h.cell (p := ⟨gd, M * 29 + 1, none⟩) (HOs.out.own.lt gd rfl).2 (fun f => f)).trans (own_cells HOs.out.own (j := M) HMl2.out 1 (by omega))
        have e2 := (h.cell (p := ⟨gd, M * 29 + 2, none⟩) (HOs.out.own.lt gd rfl).2 (fun f => f)).trans (own_cells HOs.out.own (j := M) HMl2.out 2 (by omega))
        rw [HgetM.out] at e1 e2
        exact ⟨e1.trans (by rw [← htk]; rfl), e2.trans (by rw [← hrp]; rfl)⟩
      have Htk := hide htk
      have Hrp := hide hrp
      have HInvd : Hid (InvD all i d) := hide (Hd.out ▸ Hinv.out _ (List.getElem_mem hmd))
      have htb : tk < (i : Int) + 1 := by rw [← htk]; exact setD_tk (by have := HInvd.out.tk; omega) (by omega)
      have hrb : rp < (i : Int) + 1 := by rw [← hrp]; exact setD_rp (by have := HInvd.out.rp; omega) (by omega)
      clear htk hrp
      by_cases l1 : tk < 0
      · as_aux_lemma =>
          have Hl1c := hide l1
          have H11 : NLe 0 tk := ⟨by omega⟩
          clear l1 htb hrb
          refine wp_region_mixS 32 (by kernel_rfl) (by kernel_rfl) fun Fin hFin => ?_
          simp only [List.take_succ_cons, List.take_zero]
          iterate 32 (
              (refine mix_lit ?_ ?_ (Chg.refl _) ?_ ?_ ?_ ?_; rotate_left 2
               · intro e w1 hR hF K hK; (have hcb := (HBs.out.same hR).cell; obtain ⟨e1, e2⟩ := HD2.out w1 hR; have h11 := H11.out); go_simp; (refine hK _ _ (Chg.refl _ _) ?_; rfl)
               · intro e; simp only [puts]; rfl
               · exact Loc.const _ _))
          refine mix_nil fun e wf hR hF => hFin _ _ ?_
          simp only [List.drop_succ_cons, List.drop_zero]
          have HOf := hide (HOs.out.same2 hR)
          have HBf := hide (HBs.out.same hR)
          clear hF hFin hR
          have HTl := hide (rpL_length x.t)
          have HTo := hide (one_rpL x.t)
          have HTr := hide (HrepF.out _ HBf.out)
          have HTh := hide (own_there HOf.out.own HMl2.out)
          have HTe := hide (HOf.out.put (m := m) (d' := { setD d x.k i with t := x.t }) HM.out (Chg.setCells (S := fun k => k = gd) (rpL x.t) (M * 29 + 24) (Chg.refl _ wf) (.inl rfl)) (by have := own_tellC HOf.out.own HMl2.out x.t; rw [HgetM.out] at this; exact this) Hrx0.out)
          rw [List.set_set] at HTe
          generalize rpL x.t = T at *
          go_wp2_with (first
            | ((with_reducible refine ldR 43 wr.heap.size 22 5 T rowRep HTl.out HTr.out ?_ ?_ ?_); rfl; rfl)
            | ((with_reducible refine stM 43 gd (M * 29 + 24) 5 T rowRep HTl.out HTh.out HTo.out ?_ ?_ ?_); rfl; rfl)
            | fail)
          go_roundg (N - (i + 1))
          case measure => have := Hk.out; omega
          case rel =>
            have hnx := Hstep.out
            rw [tk_f Hl1.out HopM.out hmd, Hd.out, placeP_5 hkx HCd.out, Option.map_some] at hnx
            have hN44 := HN4.out
            have hl44 := Hli.out
            have hfin := HTe.out
            exact ⟨i + 1, x.st, _, _, _, ds.set m { setD d x.k i with t := x.t }, (by omega), rfl, (by first | go_num | exact congrArg (Value.int .i64) (wrapN (by omega))), rfl, (by rw [Hxs.out]), (by rw [List.length_set]; omega), hfin, hnx, take_inv Hinv.out (by rw [tk_f Hl1.out HopM.out hmd, Hd.out, placeP_5 hkx HCd.out, Option.map_some])⟩
      · by_cases l2 : rp < 0
        · as_aux_lemma =>
            have Hl2c := hide l2
            have l1' : 0 ≤ tk := by omega
            have H12 : NLe 0 rp := ⟨by omega⟩
            clear l1 l2 htb hrb
            refine wp_region_mixS 32 (by kernel_rfl) (by kernel_rfl) fun Fin hFin => ?_
            simp only [List.take_succ_cons, List.take_zero]
            iterate 32 (
                (refine mix_lit ?_ ?_ (Chg.refl _) ?_ ?_ ?_ ?_; rotate_left 2
                 · intro e w1 hR hF K hK; (have hcb := (HBs.out.same hR).cell; obtain ⟨e1, e2⟩ := HD2.out w1 hR; have h12 := H12.out); go_simp; (refine hK _ _ (Chg.refl _ _) ?_; rfl)
                 · intro e; simp only [puts]; rfl
                 · exact Loc.const _ _))
            refine mix_nil fun e wf hR hF => hFin _ _ ?_
            simp only [List.drop_succ_cons, List.drop_zero]
            have HOf := hide (HOs.out.same2 hR)
            have HBf := hide (HBs.out.same hR)
            clear hF hFin hR
            have HTl := hide (rpL_length x.t)
            have HTo := hide (one_rpL x.t)
            have HTr := hide (HrepF.out _ HBf.out)
            have HTh := hide (own_there HOf.out.own HMl2.out)
            have HTe := hide (HOf.out.put (m := m) (d' := { setD d x.k i with t := x.t }) HM.out (Chg.setCells (S := fun k => k = gd) (rpL x.t) (M * 29 + 24) (Chg.refl _ wf) (.inl rfl)) (by have := own_tellC HOf.out.own HMl2.out x.t; rw [HgetM.out] at this; exact this) Hrx0.out)
            rw [List.set_set] at HTe
            generalize rpL x.t = T at *
            go_wp2_with (first
              | ((with_reducible refine ldR 43 wr.heap.size 22 5 T rowRep HTl.out HTr.out ?_ ?_ ?_); rfl; rfl)
              | ((with_reducible refine stM 43 gd (M * 29 + 24) 5 T rowRep HTl.out HTh.out HTo.out ?_ ?_ ?_); rfl; rfl)
              | fail)
            go_roundg (N - (i + 1))
            case measure => have := Hk.out; omega
            case rel =>
              have hnx := Hstep.out
              rw [tk_f Hl1.out HopM.out hmd, Hd.out, placeP_5 hkx HCd.out, Option.map_some] at hnx
              have hN44 := HN4.out
              have hl44 := Hli.out
              have hfin := HTe.out
              exact ⟨i + 1, x.st, _, _, _, ds.set m { setD d x.k i with t := x.t }, (by omega), rfl, (by first | go_num | exact congrArg (Value.int .i64) (wrapN (by omega))), rfl, (by rw [Hxs.out]), (by rw [List.length_set]; omega), hfin, hnx, take_inv Hinv.out (by rw [tk_f Hl1.out HopM.out hmd, Hd.out, placeP_5 hkx HCd.out, Option.map_some])⟩
        · obtain ⟨a, hta⟩ : ∃ a : Nat, tk = (a : Int) := ⟨tk.toNat, by omega⟩
          obtain ⟨b9, hrb2⟩ : ∃ b : Nat, rp = (b : Int) := ⟨rp.toNat, by omega⟩
          subst hta
          subst hrb2
          have h11 : a < all.length := by have := HN.out; omega
          have h12 : b9 < all.length := by have := HN.out; omega
          obtain ⟨b1, o1, hA1, _, hra, hpa⟩ := evs_rep Ha.out (i := a) h11
          obtain ⟨b2, o2, hA2, _, hrb3, hpb⟩ := evs_rep Ha.out (i := b9) h12
          obtain ⟨e1, e2⟩ : b = b1 ∧ off = o1 := by cases hA1; exact ⟨rfl, rfl⟩
          obtain ⟨e3, e4⟩ : b = b2 ∧ off = o2 := by cases hA2; exact ⟨rfl, rfl⟩
          subst e1
          subst e2
          subst e3
          subst e4
          clear hA1 hA2
          have HRa := hide (fun (w' : World) (h : Same w w') => rangeAt_same hra h)
          have HRb9 := hide (fun (w' : World) (h : Same w w') => rangeAt_same hrb3 h)
          have HRal := hide (rpL_length all[a].t)
          have HRb9l := hide (rpL_length all[b9].t)
          have HRS := hide (fun (w' : World) (h : Same w w') => rsameRf_any _ _ w' (hpa.same h) (hpb.same h))
          have HLk := hide (likeD_c (d := setD d x.k i) Htk.out Hrp.out h11 h12)
          obtain ⟨sv, hsv⟩ : ∃ v, sameA all[a].t.ans all[b9].t.ans = v := ⟨_, rfl⟩
          rw [hsv] at HRS HLk
          unfold rpV at HRS
          have haI : (a : Int) < (N : Int) := by have := HN.out; omega
          have hbI : (b9 : Int) < (N : Int) := by have := HN.out; omega
          have ha0 : ¬ (a : Int) < 0 := by omega
          have hb0' : ¬ (b9 : Int) < 0 := by omega
          clear hra hrb3 hpa hpb hsv
          generalize rpL all[a].t = Ra at *
          generalize rpL all[b9].t = Rb9 at *
          clear l1 l2 htb hrb
          cases sv
          · as_aux_lemma =>
              exfalso
              have h := HInvd.out.like
              have e : likeD all (setD d x.k i) = likeD all d := by rw [hkx]; rfl
              rw [← e, HLk.out] at h
              exact Bool.noConfusion h
          · as_aux_lemma =>
              refine wp_region_mixS 32 (by kernel_rfl) (by kernel_rfl) fun Fin hFin => ?_
              simp only [List.take_succ_cons, List.take_zero]
              iterate 20 (
                  (refine mix_lit ?_ ?_ (Chg.refl _) ?_ ?_ ?_ ?_; rotate_left 2
                   · intro e w1 hR hF K hK; (have hcb := (HBs.out.same hR).cell; obtain ⟨e1, e2⟩ := HD2.out w1 hR); go_simp; (refine hK _ _ (Chg.refl _ _) ?_; rfl)
                   · intro e; simp only [puts]; rfl
                   · exact Loc.const _ _))
              refine mix_ld Ra ?_ (Chg.refl _) (fun _ => by rfl) 43 _ rfl b (off + a * 27 + 22) (fun _ => by rfl) _ (fun w1 hR => HRa.out _ (Same.trans HOs.out.same hR)) Tryz.underlying43 rfl (by rw [HRal.out]; exact rowRep.sz) ?_ ?_
              rotate_left
              · intro e; simp only [puts]; rfl
              iterate 7 (
                  (refine mix_lit ?_ ?_ (Chg.refl _) ?_ ?_ ?_ ?_; rotate_left 2
                   · intro e w1 hR hF K hK; (have hcb := (HBs.out.same hR).cell; obtain ⟨e1, e2⟩ := HD2.out w1 hR); go_simp; (refine hK _ _ (Chg.refl _ _) ?_; rfl)
                   · intro e; simp only [puts]; rfl
                   · exact Loc.const _ _))
              refine mix_ld Rb9 ?_ (Chg.refl _) (fun _ => by rfl) 43 _ rfl b (off + b9 * 27 + 22) (fun _ => by rfl) _ (fun w1 hR => HRb9.out _ (Same.trans HOs.out.same hR)) Tryz.underlying43 rfl (by rw [HRb9l.out]; exact rowRep.sz) ?_ ?_
              rotate_left
              · intro e; simp only [puts]; rfl
              iterate 3 (
                  (refine mix_lit ?_ ?_ (Chg.refl _) ?_ ?_ ?_ ?_; rotate_left 2
                   · intro e w1 hR hF K hK; (have hcb := (HBs.out.same hR).cell; obtain ⟨e1, e2⟩ := HD2.out w1 hR); go_simp; (first | (refine hK _ _ (Chg.refl _ _) ?_; rfl) | (go_at_call 17; (with_reducible refine (HRS.out _ (Same.trans HOs.out.same hR)).mono ?_); rintro _ w2 ⟨rfl, hs⟩; refine hK _ _ hs ?_; rfl))
                   · intro e; simp only [puts]; rfl
                   · exact Loc.const _ _))
              refine mix_nil fun e wf hR hF => hFin _ _ ?_
              simp only [List.drop_succ_cons, List.drop_zero]
              have HOf := hide (HOs.out.same2 hR)
              have HBf := hide (HBs.out.same hR)
              clear hF hFin hR
              have HTl := hide (rpL_length x.t)
              have HTo := hide (one_rpL x.t)
              have HTr := hide (HrepF.out _ HBf.out)
              have HTh := hide (own_there HOf.out.own HMl2.out)
              have HTe := hide (HOf.out.put (m := m) (d' := { setD d x.k i with t := x.t }) HM.out (Chg.setCells (S := fun k => k = gd) (rpL x.t) (M * 29 + 24) (Chg.refl _ wf) (.inl rfl)) (by have := own_tellC HOf.out.own HMl2.out x.t; rw [HgetM.out] at this; exact this) Hrx0.out)
              rw [List.set_set] at HTe
              generalize rpL x.t = T at *
              go_wp2_with (first
                | ((with_reducible refine ldR 43 wr.heap.size 22 5 T rowRep HTl.out HTr.out ?_ ?_ ?_); rfl; rfl)
                | ((with_reducible refine stM 43 gd (M * 29 + 24) 5 T rowRep HTl.out HTh.out HTo.out ?_ ?_ ?_); rfl; rfl)
                | fail)
              go_roundg (N - (i + 1))
              case measure => have := Hk.out; omega
              case rel =>
                have hnx := Hstep.out
                rw [tk_f Hl1.out HopM.out hmd, Hd.out, placeP_5 hkx HCd.out, Option.map_some] at hnx
                have hN44 := HN4.out
                have hl44 := Hli.out
                have hfin := HTe.out
                exact ⟨i + 1, x.st, _, _, _, ds.set m { setD d x.k i with t := x.t }, (by omega), rfl, (by first | go_num | exact congrArg (Value.int .i64) (wrapN (by omega))), rfl, (by rw [Hxs.out]), (by rw [List.length_set]; omega), hfin, hnx, take_inv Hinv.out (by rw [tk_f Hl1.out HopM.out hmd, Hd.out, placeP_5 hkx HCd.out, Option.map_some])⟩
  · as_aux_lemma =>
      have h0tv : 0 ≤ tv := by omega
      have Hnt : NLt tv 0 := ⟨ht⟩
      go_wp2_with (first
        | ((with_reducible refine stRg 99 ba 6 [.pointer none, .pointer (some ⟨gd, M * 29, none⟩), .pointer (some ⟨gd, M * 29 + 1, none⟩), .pointer (some ⟨gd, M * 29 + 2, none⟩), .pointer (some ⟨gd, M * 29 + 3, none⟩), .pointer (some ⟨gd, M * 29 + 4, none⟩)] 99 _ rowAt6 HR6.out.len ?_ HB6.out HR6.out.one ?_ ?_ ?_); rfl; rfl; rfl; intro wE hcE hzE hbE; have Hse := hide (show Same w3 wE from Chg.fresh (S := fun k => k = ba) (Hsd.out.to.trans hcE fun _ _ e => e) (fun k e => by subst e; have := Hsc.out.size; have := Hbz.out; omega)); have hka := hbE.cell; have hkb := (HB.out.same Hse.out).cell; have hkt := HDt.out wE Hse.out; have hkf := HDf.out wE Hse.out; clear hcE hzE hbE)
        | fail)
      go_ret2
      have hn : G = none := by
        have h := Hstep.out
        rw [tk_f Hl1.out HopM.out hmd, Hd.out, placeP_c (by rw [hkx]; decide) (fun h => Hnt.out (show tv < 0 by rw [← Htv.out, ← hkx]; exact h.1)), Option.map_none] at h
        exact h.symm
      rw [hn]
      exact OpsEnd.none_ (Same.trans HO.out.same Hse.out)
end Go.Proofs.YtlimpepdelpogaaGreatDoor
