/-
  The document's Ops: an operation that is there, kind 1. No conditions.
  The document's Ops: an operation that is there, kind 4. No conditions.
-/
import Derived.Test.YtlimpepdelpogaaGreatDoorHwOf
/-! HwOk1 -/
namespace Go.Proofs.YtlimpepdelpogaaGreatDoor
open Go.RowKit Go.Al
set_option linter.unusedVariables false
set_option maxHeartbeats 16000000
set_option maxRecDepth 100000
theorem opsK1 : opsSkelF.1 := by
  intro N C all w HN HN4 hN' G HG0 HS0 xK xA gk wr u2 u3 u7 u8 u9 u12 u13 u14 u15 u16 u17 u18 u19 u20 u21 u22 u23 u24 u25 u26 u27 u28 u29 u30 u31 u32 u33 u34 u35 u36 u37 u38 u39 u40 u41 u42 u43 u44 u45 u46 u47 u48 u49 u50 u51 u52 u53 u54 u55 u56 u57 u58 u59 u60 u61 u62 u63 u64 u65 u66 u67 u68 u69 u70 u71 u72 u73 u74 u75 u76 u77 u78 u79 u80 u81 u82 u83 u84 u85 u86 u87 u88 u89 u90 u91 u92 u93 u94 u95 u96 u97 u98 u99 u100 u101 u102 u103 u104 u105 u106 u107 u108 u109 u110 u111 u112 u113 u114 u115 u116 u117 u118 u119 u120 u121 u122 u123 u124 u125 u126 u127 u128 u129 u130 u131 u132 u133 u134 u135 u136 u137 u138 u139 u140 u141 u142 u143 u144 u145 u146 u147 u148 u149 u150 u151 u152 u153 u154 u155 u156 u157 u158 u159 u160 u161 u162 u163 u164 u165 u166 u167 u168 u169 u170 u171 u172 u173 u174 u175 u176 u177 u178 u179 u180 u181 u182 u183 u184 u185 u186 u187 u188 u189 gJ gK gHK i last n c ds hi hli Hk Hli Hinv Hgo hnl hlt hil b off Ha gHJ hbl x Hrx0 Hstep hiI xs op te Hxs Hop Hte R HRl HR0 L Hra HLc HrepF c1 c22 HreqF h1 h2 h3 h0 hnew Hl1 m M c3 hmd HopM HM d Hd gd Hst hM0 hM1 hM2 hM3 hM4 hM5 hM6 y1 y2 w3 Hs3 Hb3 h1b h2b h3b hM7 hM8 HB HO HMl hgb hgd hgdw hgdw' Hcl HDf ds5 HD5 Hds5 Rd HDr HDl Hss c2 Her hneq HG Hgr y3 y4 wc Hsc y5 y6 Fin e wd ba Hsd HB6 Hbz HR6 Hkx c0 hk1 hk5
  have hkx : x.k = 1 := Hkx.out
  obtain ⟨tv, htv⟩ : ∃ v, timeD d 1 = v := ⟨_, rfl⟩
  have HDt : Hid (∀ w', Same w3 w' → w'.cell? ⟨gd, M * 29, none⟩ = some (.int .i64 tv)) := hide fun w' h => (Hcl.out w' h 0 (by omega)).trans (by rw [← htv]; rfl)
  have Htv := hide htv
  clear htv
  by_cases ht : tv < 0
  · as_aux_lemma =>
      have HTm := hide ht
      have HCd := hide (show timeD d x.k < 0 ∧ d.ss = x.ss ∧ eqR d.r x.r = true ∧ goodR x.r = true from ⟨by rw [hkx, Htv.out]; exact HTm.out, by rw [Hds5.out, Hss.out], Her.out, Hgr.out⟩)
      go_wp2_with (first
        | ((with_reducible refine stRg 99 ba 6 [.pointer none, .pointer (some ⟨gd, M * 29, none⟩), .pointer (some ⟨gd, M * 29 + 1, none⟩), .pointer (some ⟨gd, M * 29 + 2, none⟩), .pointer (some ⟨gd, M * 29 + 3, none⟩), .pointer (some ⟨gd, M * 29 + 4, none⟩)] 99 _ rowAt6 HR6.out.len ?_ HB6.out HR6.out.one ?_ ?_ ?_); rfl; rfl; rfl; intro wE hcE hzE hbE; have Hse := hide (show Same w3 wE from Chg.fresh (S := fun k => k = ba) (Hsd.out.to.trans hcE fun _ _ e => e) (fun k e => by subst e; have := Hsc.out.size; have := Hbz.out; omega)); have hka := hbE.cell; have hkb := (HB.out.same Hse.out).cell; have hkt := HDt.out wE Hse.out; have hkf := HDf.out wE Hse.out; clear hcE hzE hbE)
        | fail)
      have HOs := hide ((HO.out.same2 Hse.out).put (m := m) (d' := setD d x.k i) HM.out ((Chg.refl _ wE).set1 _ (.int .i64 (i : Int))) (own_setd (HO.out.same2 Hse.out).own HMl.out (i := 0) (by omega) (.int .i64 i) (setD d x.k i) (by rw [get_cons HM.out hmd Hd.out HMl.out, hkx]; rfl)) (by rw [setD_t]; exact Hd.out ▸ HO.out.rep _ (List.getElem_mem hmd)))
      go_roundg (N - (i + 1))
      case measure => have := Hk.out; omega
      case rel =>
        have hnx := Hstep.out
        rw [tk_f Hl1.out HopM.out hmd, Hd.out, placeP_14 (.inl hkx) HCd.out, Option.map_some] at hnx
        have hN44 := HN4.out
        have hl44 := Hli.out
        have hfin := HOs.out
        exact ⟨i + 1, x.st, _, _, _, ds.set m (setD d x.k i), (by omega), rfl, (by first | go_num | exact congrArg (Value.int .i64) (wrapN (by omega))), rfl, (by rw [Hxs.out]), (by rw [List.length_set]; omega), hfin, hnx, take_inv Hinv.out (by rw [tk_f Hl1.out HopM.out hmd, Hd.out, placeP_14 (.inl hkx) HCd.out, Option.map_some])⟩
  · as_aux_lemma =>
      have h0tv : 0 ≤ tv := by omega
      have Hnt : NLt tv 0 := ⟨ht⟩
      go_wp2_with (first
        | ((with_reducible refine stRg 99 ba 6 [.pointer none, .pointer (some ⟨gd, M * 29, none⟩), .pointer (some ⟨gd, M * 29 + 1, none⟩), .pointer (some ⟨gd, M * 29 + 2, none⟩), .pointer (some ⟨gd, M * 29 + 3, none⟩), .pointer (some ⟨gd, M * 29 + 4, none⟩)] 99 _ rowAt6 HR6.out.len ?_ HB6.out HR6.out.one ?_ ?_ ?_); rfl; rfl; rfl; intro wE hcE hzE hbE; have Hse := hide (show Same w3 wE from Chg.fresh (S := fun k => k = ba) (Hsd.out.to.trans hcE fun _ _ e => e) (fun k e => by subst e; have := Hsc.out.size; have := Hbz.out; omega)); have hka := hbE.cell; have hkb := (HB.out.same Hse.out).cell; have hkt := HDt.out wE Hse.out; have hkf := HDf.out wE Hse.out; clear hcE hzE hbE)
        | fail)
      go_ret2
      have hn : G = none := by
        have h := Hstep.out
        rw [tk_f Hl1.out HopM.out hmd, Hd.out, placeP_c (by rw [hkx]; decide) (fun h => Hnt.out (show tv < 0 by rw [← Htv.out, ← hkx]; exact h.1)), Option.map_none] at h
        exact h.symm
      rw [hn]
      exact OpsEnd.none_ (Same.trans HO.out.same Hse.out)
end Go.Proofs.YtlimpepdelpogaaGreatDoor
/-! HwOk4 -/
namespace Go.Proofs.YtlimpepdelpogaaGreatDoor
open Go.RowKit Go.Al
set_option linter.unusedVariables false
set_option maxHeartbeats 16000000
set_option maxRecDepth 100000
theorem opsK4 : opsSkelF.2.2.2.1 := by
  intro N C all w HN HN4 hN' G HG0 HS0 xK xA gk wr u2 u3 u7 u8 u9 u12 u13 u14 u15 u16 u17 u18 u19 u20 u21 u22 u23 u24 u25 u26 u27 u28 u29 u30 u31 u32 u33 u34 u35 u36 u37 u38 u39 u40 u41 u42 u43 u44 u45 u46 u47 u48 u49 u50 u51 u52 u53 u54 u55 u56 u57 u58 u59 u60 u61 u62 u63 u64 u65 u66 u67 u68 u69 u70 u71 u72 u73 u74 u75 u76 u77 u78 u79 u80 u81 u82 u83 u84 u85 u86 u87 u88 u89 u90 u91 u92 u93 u94 u95 u96 u97 u98 u99 u100 u101 u102 u103 u104 u105 u106 u107 u108 u109 u110 u111 u112 u113 u114 u115 u116 u117 u118 u119 u120 u121 u122 u123 u124 u125 u126 u127 u128 u129 u130 u131 u132 u133 u134 u135 u136 u137 u138 u139 u140 u141 u142 u143 u144 u145 u146 u147 u148 u149 u150 u151 u152 u153 u154 u155 u156 u157 u158 u159 u160 u161 u162 u163 u164 u165 u166 u167 u168 u169 u170 u171 u172 u173 u174 u175 u176 u177 u178 u179 u180 u181 u182 u183 u184 u185 u186 u187 u188 u189 gJ gK gHK i last n c ds hi hli Hk Hli Hinv Hgo hnl hlt hil b off Ha gHJ hbl x Hrx0 Hstep hiI xs op te Hxs Hop Hte R HRl HR0 L Hra HLc HrepF c1 c22 HreqF h1 h2 h3 h0 hnew Hl1 m M c3 hmd HopM HM d Hd gd Hst hM0 hM1 hM2 hM3 hM4 hM5 hM6 y1 y2 w3 Hs3 Hb3 h1b h2b h3b hM7 hM8 HB HO HMl hgb hgd hgdw hgdw' Hcl HDf ds5 HD5 Hds5 Rd HDr HDl Hss c2 Her hneq HG Hgr y3 y4 wc Hsc y5 y6 Fin e wd ba Hsd HB6 Hbz HR6 Hkx c0 hk1 hk5
  have hkx : x.k = 4 := Hkx.out
  obtain ⟨tv, htv⟩ : ∃ v, timeD d 4 = v := ⟨_, rfl⟩
  have HDt : Hid (∀ w', Same w3 w' → w'.cell? ⟨gd, M * 29 + 3, none⟩ = some (.int .i64 tv)) := hide fun w' h => (Hcl.out w' h 3 (by omega)).trans (by rw [← htv]; rfl)
  have Htv := hide htv
  clear htv
  by_cases ht : tv < 0
  · as_aux_lemma =>
      have HTm := hide ht
      have HCd := hide (show timeD d x.k < 0 ∧ d.ss = x.ss ∧ eqR d.r x.r = true ∧ goodR x.r = true from ⟨by rw [hkx, Htv.out]; exact HTm.out, by rw [Hds5.out, Hss.out], Her.out, Hgr.out⟩)
      go_wp2_with (first
        | ((with_reducible refine stRg 99 ba 6 [.pointer none, .pointer (some ⟨gd, M * 29, none⟩), .pointer (some ⟨gd, M * 29 + 1, none⟩), .pointer (some ⟨gd, M * 29 + 2, none⟩), .pointer (some ⟨gd, M * 29 + 3, none⟩), .pointer (some ⟨gd, M * 29 + 4, none⟩)] 99 _ rowAt6 HR6.out.len ?_ HB6.out HR6.out.one ?_ ?_ ?_); rfl; rfl; rfl; intro wE hcE hzE hbE; have Hse := hide (show Same w3 wE from Chg.fresh (S := fun k => k = ba) (Hsd.out.to.trans hcE fun _ _ e => e) (fun k e => by subst e; have := Hsc.out.size; have := Hbz.out; omega)); have hka := hbE.cell; have hkb := (HB.out.same Hse.out).cell; have hkt := HDt.out wE Hse.out; have hkf := HDf.out wE Hse.out; clear hcE hzE hbE)
        | fail)
      have HOs := hide ((HO.out.same2 Hse.out).put (m := m) (d' := setD d x.k i) HM.out ((Chg.refl _ wE).set1 _ (.int .i64 (i : Int))) (own_setd (HO.out.same2 Hse.out).own HMl.out (i := 3) (by omega) (.int .i64 i) (setD d x.k i) (by rw [get_cons HM.out hmd Hd.out HMl.out, hkx]; rfl)) (by rw [setD_t]; exact Hd.out ▸ HO.out.rep _ (List.getElem_mem hmd)))
      go_roundg (N - (i + 1))
      case measure => have := Hk.out; omega
      case rel =>
        have hnx := Hstep.out
        rw [tk_f Hl1.out HopM.out hmd, Hd.out, placeP_14 (.inr hkx) HCd.out, Option.map_some] at hnx
        have hN44 := HN4.out
        have hl44 := Hli.out
        have hfin := HOs.out
        exact ⟨i + 1, x.st, _, _, _, ds.set m (setD d x.k i), (by omega), rfl, (by first | go_num | exact congrArg (Value.int .i64) (wrapN (by omega))), rfl, (by rw [Hxs.out]), (by rw [List.length_set]; omega), hfin, hnx, take_inv Hinv.out (by rw [tk_f Hl1.out HopM.out hmd, Hd.out, placeP_14 (.inr hkx) HCd.out, Option.map_some])⟩
  · as_aux_lemma =>
      have h0tv : 0 ≤ tv := by omega
      have Hnt : NLt tv 0 := ⟨ht⟩
      go_wp2_with (first
        | ((with_reducible refine stRg 99 ba 6 [.pointer none, .pointer (some ⟨gd, M * 29, none⟩), .pointer (some ⟨gd, M * 29 + 1, none⟩), .pointer (some ⟨gd, M * 29 + 2, none⟩), .pointer (some ⟨gd, M * 29 + 3, none⟩), .pointer (some ⟨gd, M * 29 + 4, none⟩)] 99 _ rowAt6 HR6.out.len ?_ HB6.out HR6.out.one ?_ ?_ ?_); rfl; rfl; rfl; intro wE hcE hzE hbE; have Hse := hide (show Same w3 wE from Chg.fresh (S := fun k => k = ba) (Hsd.out.to.trans hcE fun _ _ e => e) (fun k e => by subst e; have := Hsc.out.size; have := Hbz.out; omega)); have hka := hbE.cell; have hkb := (HB.out.same Hse.out).cell; have hkt := HDt.out wE Hse.out; have hkf := HDf.out wE Hse.out; clear hcE hzE hbE)
        | fail)
      go_ret2
      have hn : G = none := by
        have h := Hstep.out
        rw [tk_f Hl1.out HopM.out hmd, Hd.out, placeP_c (by rw [hkx]; decide) (fun h => Hnt.out (show tv < 0 by rw [← Htv.out, ← hkx]; exact h.1)), Option.map_none] at h
        exact h.symm
      rw [hn]
      exact OpsEnd.none_ (Same.trans HO.out.same Hse.out)
end Go.Proofs.YtlimpepdelpogaaGreatDoor
