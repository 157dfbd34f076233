/-
  The document's Ops: the walk, with three cases left out. No conditions.
-/
import Derived.Test.YtlimpepdelpogaaGreatDoorHwO
import Derived.Test.YtlimpepdelpogaaGreatDoorRfA
namespace Go.Proofs.YtlimpepdelpogaaGreatDoor
open Go.RowKit Go.Al
set_option linter.unusedVariables false
set_option maxHeartbeats 16000000
set_option maxRecDepth 100000
/-- what is said of the document's Ops -/
def OpsMain : Prop := ∀ (A0 : Option Addr) (N C : Nat) (all : List Ev) (w : World), all.length = N → N ≤ 64 → Evs w A0 all →
    Calls Tryz.prog 16 #[.slice A0 N C] w (OpsEnd w (goP all 0 0 [] all))
/-- the walk, and what it leaves out -/
noncomputable def opsSkel : (G1 : Prop) ×' (G2 : Prop) ×' (G3 : Prop) ×' (Hid G1 → Hid G2 → Hid G3 → OpsMain) := by
  apply PSigma.mk
  focus
    apply PSigma.mk
    focus
      apply PSigma.mk
      focus
        intro hG1 hG2 hG3 A0 N C all w hN hN4 ha
        have HN := hide hN
        have HN4 := hide hN4
        have Ha := hide ha
        have hN' : N ≤ 9223372036854775807 := by omega
        obtain ⟨G, hG⟩ : ∃ G, goP all 0 0 [] all = G := ⟨_, rfl⟩
        rw [hG]
        have HG0 := hide hG
        have hst0 : OSt w (w.alloc (.cells (ddL zD).toArray 74)) (some ⟨w.heap.size, 0, none⟩) 1 1 [] := ⟨by
          have h := own_lit w w.heap.size 74 29 (ddL zD).toArray 1 (Nat.le_refl _) (by decide) (by rw [List.size_toArray]; rfl)
          simpa [flatD] using h, rfl, (Chg.refl _ w).alloc _, fun d hd => by cases hd⟩
        have HS0 := hide hst0
        clear hN ha hN4 hG hst0
        go_enter Tryz.func16, Tryz.ntmps16
        go_wp2_with fail
        go_loopg [4, 5, 6, 7, 8, 9] N (fun kk v4 v5 v6 v7 v8 v9 wr => ∃ (i : Nat) (last : Int) (A : Option Addr) (n c : Nat) (ds : List Dd), i ≤ N ∧ kk = N - i ∧ v6 = .int .i64 i ∧ v4 = .slice A n c ∧ v5 = .int .i64 last ∧ ds.length ≤ i ∧ OSt w wr A n c ds ∧ goP all i last ds (all.drop i) = G ∧ ∀ d ∈ ds, InvD all i d)
        case atStart => exact ⟨0, 0, _, _, _, [], Nat.zero_le _, rfl, rfl, rfl, rfl, Nat.le_refl _, HS0.out, HG0.out, fun d hd => by cases hd⟩
        case round =>
          rename_i xK xA gJ gK gHJ gHK
          obtain ⟨i, last, A, n, c, ds, hi, hk, rfl, rfl, rfl, hli, hst, hgo, hinv⟩ := hrel
          have Hk := hide hk
          have Hli := hide hli
          have Hst := hide hst
          have Hinv := hide hinv
          have Hgo := hide hgo
          have hnl := hst.len
          clear hk hst hgo hinv
          by_cases hlt : i < N
          · have hil : i < all.length := by rw [HN.out]; exact hlt
            obtain ⟨b, off, rfl, hbl, hra, hrx⟩ := (Ha.out.same Hst.out.same).at_ hil
            have Hra := hide hra
            have hrx0 := Ha.out.rep _ (List.getElem_mem hil)
            obtain ⟨x, hxx⟩ : ∃ x, all[i] = x := ⟨_, rfl⟩
            have hstep := Hgo.out
            rw [goP_step hil] at hstep
            rw [hxx] at Hra hstep hrx0
            have Hrx0 := hide hrx0
            have Hstep := hide hstep
            have HLc := hide (RowL.mk (evL_length x) (one_evL x))
            have HreqF := hide (fun (w' : World) (h : Blk w' wr.heap.size 45 (evL x).toArray) => ev_req h)
            have HrepF := hide (fun (w' : World) (h : Blk w' wr.heap.size 45 (evL x).toArray) => ev_rep h)
            have c0 : (evL x)[0]? = some (.int .i64 x.k) := rfl
            have c1 : (evL x)[1]? = some (.int .i64 x.st) := rfl
            have c2 : (evL x)[2]? = some (.int .i64 x.ss) := rfl
            have c3 : (evL x)[3]? = some (.int .i64 x.op) := rfl
            have c22 : (evL x)[22]? = some (.int .i64 x.t.e) := rfl
            have hiI : (i : Int) < (N : Int) := by omega
            obtain ⟨k, hkk⟩ : ∃ v, x.k = v := ⟨_, rfl⟩
            obtain ⟨xs, hxs⟩ : ∃ v, x.st = v := ⟨_, rfl⟩
            obtain ⟨ss, hss⟩ : ∃ v, x.ss = v := ⟨_, rfl⟩
            obtain ⟨op, hop⟩ : ∃ v, x.op = v := ⟨_, rfl⟩
            obtain ⟨te, hte⟩ : ∃ v, x.t.e = v := ⟨_, rfl⟩
            rw [hkk] at c0
            rw [hxs] at c1
            rw [hss] at c2
            rw [hop] at c3
            rw [hte] at c22
            have Hkx := hide hkk
            have Hxs := hide hxs
            have Hss := hide hss
            have Hop := hide hop
            have Hte := hide hte
            obtain ⟨R, hR0⟩ : ∃ R, rqL x.r = R := ⟨_, rfl⟩
            have HRl := hide (rqL_length x.r)
            rw [hR0] at HreqF HRl
            have HR0 := hide hR0
            clear hra hrx hrx0 hxx hstep hkk hxs hss hop hte hR0
            generalize evL x = L at *
            by_cases h1 : last ≤ xs
            · by_cases h2 : 0 ≤ op
              · by_cases h3 : op ≤ (n : Int)
                · by_cases h0 : op = 0
                  · by_cases h5 : k = 5
                    · by_cases h8 : te = 8
                      · as_aux_lemma =>
                          have Hl1 : Hid (last ≤ x.st) := hide (by rw [Hxs.out]; exact h1)
                          have h1b : ¬ xs < last := by omega
                          rw [h0] at c3
                          have H0 := hide h0
                          subst h5
                          subst h8
                          go_wp2_with (first
                            | ((with_reducible refine ldR 45 b (off + i * 27) 27 L rowEvt HLc.out.len Hra.out ?_ ?_ ?_); rfl; rfl)
                            | ((with_reducible refine stNg 45 27 L 45 _ rowEvt HLc.out.len ?_ HLc.out.one ?_ ?_ ?_); rfl; rfl; rfl; intro w3 hs3 hz3 hb3; have Hs3 := hide hs3; have Hb3 := hide hb3; have hkb3 := hb3.cell; clear hs3 hz3 hb3)
                            | fail)
                          go_roundg (N - (i + 1))
                          case measure => have := Hk.out; omega
                          case rel =>
                            have hnx := Hstep.out
                            rw [tk_d Hl1.out (Hop.out.trans H0.out), if_pos ⟨Hkx.out, Hte.out⟩] at hnx
                            have hN44 := HN4.out
                            have hl44 := Hli.out
                            exact ⟨i + 1, x.st, _, _, _, ds, (by omega), rfl, (by first | go_num | exact congrArg (Value.int .i64) (wrapN (by omega))), rfl, (by rw [Hxs.out]), (by omega), Hst.out.same2 Hs3.out, hnx, take_inv Hinv.out (by rw [tk_d Hl1.out (Hop.out.trans H0.out), if_pos ⟨Hkx.out, Hte.out⟩])⟩
                      · as_aux_lemma =>
                          have Hl1 : Hid (last ≤ x.st) := hide (by rw [Hxs.out]; exact h1)
                          have h1b : ¬ xs < last := by omega
                          rw [h0] at c3
                          have H0 := hide h0
                          subst h5
                          have h8' : (te == 8) = false := by simpa using h8
                          have Hh := hide h8
                          go_wp2_with (first
                            | ((with_reducible refine ldR 45 b (off + i * 27) 27 L rowEvt HLc.out.len Hra.out ?_ ?_ ?_); rfl; rfl)
                            | ((with_reducible refine stNg 45 27 L 45 _ rowEvt HLc.out.len ?_ HLc.out.one ?_ ?_ ?_); rfl; rfl; rfl; intro w3 hs3 hz3 hb3; have Hs3 := hide hs3; have Hb3 := hide hb3; have hkb3 := hb3.cell; clear hs3 hz3 hb3)
                            | fail)
                          go_ret2
                          have hn : G = none := by
                            have h := Hstep.out
                            rw [tk_d Hl1.out (Hop.out.trans H0.out), if_neg (fun h => Hh.out (Hte.out.symm.trans h.2))] at h
                            exact h.symm
                          rw [hn]
                          exact OpsEnd.none_ (Same.trans Hst.out.same Hs3.out)
                    · as_aux_lemma =>
                        have Hl1 : Hid (last ≤ x.st) := hide (by rw [Hxs.out]; exact h1)
                        have h1b : ¬ xs < last := by omega
                        rw [h0] at c3
                        have H0 := hide h0
                        have h5' : (k == 5) = false := by simpa using h5
                        have Hh := hide h5
                        go_wp2_with (first
                          | ((with_reducible refine ldR 45 b (off + i * 27) 27 L rowEvt HLc.out.len Hra.out ?_ ?_ ?_); rfl; rfl)
                          | ((with_reducible refine stNg 45 27 L 45 _ rowEvt HLc.out.len ?_ HLc.out.one ?_ ?_ ?_); rfl; rfl; rfl; intro w3 hs3 hz3 hb3; have Hs3 := hide hs3; have Hb3 := hide hb3; have hkb3 := hb3.cell; clear hs3 hz3 hb3)
                          | fail)
                        go_ret2
                        have hn : G = none := by
                          have h := Hstep.out
                          rw [tk_d Hl1.out (Hop.out.trans H0.out), if_neg (fun h => Hh.out (Hkx.out.symm.trans h.1))] at h
                          exact h.symm
                        rw [hn]
                        exact OpsEnd.none_ (Same.trans Hst.out.same Hs3.out)
                  · by_cases hnew : op = (n : Int)
                    · by_cases k1 : k = 1
                      · revert N C all w HN HN4 hN' G HG0 HS0 xK xA gk wr u2 u3 u7 u8 u9 u12 u13 u14 u15 u16 u17 u18 u19 u20 u21 u22 u23 u24 u25 u26 u27 u28 u29 u30 u31 u32 u33 u34 u35 u36 u37 u38 u39 u40 u41 u42 u43 u44 u45 u46 u47 u48 u49 u50 u51 u52 u53 u54 u55 u56 u57 u58 u59 u60 u61 u62 u63 u64 u65 u66 u67 u68 u69 u70 u71 u72 u73 u74 u75 u76 u77 u78 u79 u80 u81 u82 u83 u84 u85 u86 u87 u88 u89 u90 u91 u92 u93 u94 u95 u96 u97 u98 u99 u100 u101 u102 u103 u104 u105 u106 u107 u108 u109 u110 u111 u112 u113 u114 u115 u116 u117 u118 u119 u120 u121 u122 u123 u124 u125 u126 u127 u128 u129 u130 u131 u132 u133 u134 u135 u136 u137 u138 u139 u140 u141 u142 u143 u144 u145 u146 u147 u148 u149 u150 u151 u152 u153 u154 u155 u156 u157 u158 u159 u160 u161 u162 u163 u164 u165 u166 u167 u168 u169 u170 u171 u172 u173 u174 u175 u176 u177 u178 u179 u180 u181 u182 u183 u184 u185 u186 u187 u188 u189 gJ gK gHK i last A n c ds hi hli Hk Hli Hst Hinv Hgo hnl hlt hil b off Ha gHJ hbl x Hrx0 Hstep hiI k xs ss op te Hkx Hxs Hss Hop Hte R HRl HR0 L Hra HLc HrepF c0 c1 c2 c3 c22 HreqF h1 h2 h3 h0 hnew k1
                        exact hG1.out
                      · by_cases k5 : k = 5
                        · revert N C all w HN HN4 hN' G HG0 HS0 xK xA gk wr u2 u3 u7 u8 u9 u12 u13 u14 u15 u16 u17 u18 u19 u20 u21 u22 u23 u24 u25 u26 u27 u28 u29 u30 u31 u32 u33 u34 u35 u36 u37 u38 u39 u40 u41 u42 u43 u44 u45 u46 u47 u48 u49 u50 u51 u52 u53 u54 u55 u56 u57 u58 u59 u60 u61 u62 u63 u64 u65 u66 u67 u68 u69 u70 u71 u72 u73 u74 u75 u76 u77 u78 u79 u80 u81 u82 u83 u84 u85 u86 u87 u88 u89 u90 u91 u92 u93 u94 u95 u96 u97 u98 u99 u100 u101 u102 u103 u104 u105 u106 u107 u108 u109 u110 u111 u112 u113 u114 u115 u116 u117 u118 u119 u120 u121 u122 u123 u124 u125 u126 u127 u128 u129 u130 u131 u132 u133 u134 u135 u136 u137 u138 u139 u140 u141 u142 u143 u144 u145 u146 u147 u148 u149 u150 u151 u152 u153 u154 u155 u156 u157 u158 u159 u160 u161 u162 u163 u164 u165 u166 u167 u168 u169 u170 u171 u172 u173 u174 u175 u176 u177 u178 u179 u180 u181 u182 u183 u184 u185 u186 u187 u188 u189 gJ gK gHK i last A n c ds hi hli Hk Hli Hst Hinv Hgo hnl hlt hil b off Ha gHJ hbl x Hrx0 Hstep hiI k xs ss op te Hkx Hxs Hss Hop Hte R HRl HR0 L Hra HLc HrepF c0 c1 c2 c3 c22 HreqF h1 h2 h3 h0 hnew k1 k5
                          exact hG2.out
                        · as_aux_lemma =>
                            have Hl1 : Hid (last ≤ x.st) := hide (by rw [Hxs.out]; exact h1)
                            have h1b : ¬ xs < last := by omega
                            have h2b : ¬ op < 0 := by omega
                            have h3b : ¬ (n : Int) < op := by omega
                            have HopE : Hid (x.op = (ds.length : Int) + 1) := hide (by rw [Hop.out, hnew]; omega)
                            have Hn64 : Hid (n ≤ 64) := hide (by have := HN4.out; omega)
                            have hn0 : ¬ (n : Int) = 0 := by omega
                            have hn1 : ((n : Int) == 0) = false := by simp; omega
                            have hn2 : ¬ n = 0 := by omega
                            have hn3 : ¬ (n : Int) < 0 := by omega
                            rw [hnew] at c3
                            have Hnew := hide hnew
                            clear hnew
                            have k1' : (k == 1) = false := by simpa using k1
                            have k5' : (k == 5) = false := by simpa using k5
                            have Hk1 := hide k1
                            have Hk5 := hide k5
                            have k1n : (k != 1) = true := by simpa using k1
                            have k5n : (k != 5) = true := by simpa using k5
                            go_wp2_with (first
                              | ((with_reducible refine ldR 45 b (off + i * 27) 27 L rowEvt HLc.out.len Hra.out ?_ ?_ ?_); rfl; rfl)
                              | ((with_reducible refine stNg 45 27 L 45 _ rowEvt HLc.out.len ?_ HLc.out.one ?_ ?_ ?_); rfl; rfl; rfl; intro w3 hs3 hz3 hb3; have Hs3 := hide hs3; have Hb3 := hide hb3; have hkb3 := hb3.cell; clear hs3 hz3 hb3)
                              | fail)
                            go_ret2
                            have hn : G = none := by
                              have h := Hstep.out
                              rw [tk_e0 Hl1.out HopE.out (fun h => by rw [Hkx.out] at h; rcases h with h | h; exact Hk1.out h; exact Hk5.out h)] at h
                              exact h.symm
                            rw [hn]
                            exact OpsEnd.none_ (Same.trans Hst.out.same Hs3.out)
                    · revert N C all w HN HN4 hN' G HG0 HS0 xK xA gk wr u2 u3 u7 u8 u9 u12 u13 u14 u15 u16 u17 u18 u19 u20 u21 u22 u23 u24 u25 u26 u27 u28 u29 u30 u31 u32 u33 u34 u35 u36 u37 u38 u39 u40 u41 u42 u43 u44 u45 u46 u47 u48 u49 u50 u51 u52 u53 u54 u55 u56 u57 u58 u59 u60 u61 u62 u63 u64 u65 u66 u67 u68 u69 u70 u71 u72 u73 u74 u75 u76 u77 u78 u79 u80 u81 u82 u83 u84 u85 u86 u87 u88 u89 u90 u91 u92 u93 u94 u95 u96 u97 u98 u99 u100 u101 u102 u103 u104 u105 u106 u107 u108 u109 u110 u111 u112 u113 u114 u115 u116 u117 u118 u119 u120 u121 u122 u123 u124 u125 u126 u127 u128 u129 u130 u131 u132 u133 u134 u135 u136 u137 u138 u139 u140 u141 u142 u143 u144 u145 u146 u147 u148 u149 u150 u151 u152 u153 u154 u155 u156 u157 u158 u159 u160 u161 u162 u163 u164 u165 u166 u167 u168 u169 u170 u171 u172 u173 u174 u175 u176 u177 u178 u179 u180 u181 u182 u183 u184 u185 u186 u187 u188 u189 gJ gK gHK i last A n c ds hi hli Hk Hli Hst Hinv Hgo hnl hlt hil b off Ha gHJ hbl x Hrx0 Hstep hiI k xs ss op te Hkx Hxs Hss Hop Hte R HRl HR0 L Hra HLc HrepF c0 c1 c2 c3 c22 HreqF h1 h2 h3 h0 hnew
                      exact hG3.out
                · as_aux_lemma =>
                    have Hl1 : Hid (last ≤ x.st) := hide (by rw [Hxs.out]; exact h1)
                    have h1b : ¬ xs < last := by omega
                    have h2b : ¬ op < 0 := by omega
                    have h3a : (n : Int) < op := by omega
                    have Hh : Hid ((ds.length : Int) + 1 < op) := hide (by omega)
                    go_wp2_with (first
                      | ((with_reducible refine ldR 45 b (off + i * 27) 27 L rowEvt HLc.out.len Hra.out ?_ ?_ ?_); rfl; rfl)
                      | ((with_reducible refine stNg 45 27 L 45 _ rowEvt HLc.out.len ?_ HLc.out.one ?_ ?_ ?_); rfl; rfl; rfl; intro w3 hs3 hz3 hb3; have Hs3 := hide hs3; have Hb3 := hide hb3; have hkb3 := hb3.cell; clear hs3 hz3 hb3)
                      | fail)
                    go_ret2
                    have hn : G = none := by
                      have h := Hstep.out
                      rw [tk_c (by rw [Hop.out]; exact Hh.out)] at h
                      exact h.symm
                    rw [hn]
                    exact OpsEnd.none_ (Same.trans Hst.out.same Hs3.out)
              · as_aux_lemma =>
                  have Hl1 : Hid (last ≤ x.st) := hide (by rw [Hxs.out]; exact h1)
                  have h1b : ¬ xs < last := by omega
                  have h2a : op < 0 := by omega
                  have Hh := hide h2a
                  go_wp2_with (first
                    | ((with_reducible refine ldR 45 b (off + i * 27) 27 L rowEvt HLc.out.len Hra.out ?_ ?_ ?_); rfl; rfl)
                    | ((with_reducible refine stNg 45 27 L 45 _ rowEvt HLc.out.len ?_ HLc.out.one ?_ ?_ ?_); rfl; rfl; rfl; intro w3 hs3 hz3 hb3; have Hs3 := hide hs3; have Hb3 := hide hb3; have hkb3 := hb3.cell; clear hs3 hz3 hb3)
                    | fail)
                  go_ret2
                  have hn : G = none := by
                    have h := Hstep.out
                    rw [tk_b (by rw [Hop.out]; exact Hh.out)] at h
                    exact h.symm
                  rw [hn]
                  exact OpsEnd.none_ (Same.trans Hst.out.same Hs3.out)
            · as_aux_lemma =>
                have h1a : xs < last := by omega
                have Hh := hide h1a
                go_wp2_with (first
                  | ((with_reducible refine ldR 45 b (off + i * 27) 27 L rowEvt HLc.out.len Hra.out ?_ ?_ ?_); rfl; rfl)
                  | ((with_reducible refine stNg 45 27 L 45 _ rowEvt HLc.out.len ?_ HLc.out.one ?_ ?_ ?_); rfl; rfl; rfl; intro w3 hs3 hz3 hb3; have Hs3 := hide hs3; have Hb3 := hide hb3; have hkb3 := hb3.cell; clear hs3 hz3 hb3)
                  | fail)
                go_ret2
                have hn : G = none := by
                  have h := Hstep.out
                  rw [tk_a (by rw [Hxs.out]; exact Hh.out)] at h
                  exact h.symm
                rw [hn]
                exact OpsEnd.none_ (Same.trans Hst.out.same Hs3.out)
          · have hie : i = N := by omega
            subst hie
            go_wp2_with fail
            go_ret2
            have hfin := Hgo.out
            rw [goP_end (by rw [HN.out]; exact Nat.le_refl _)] at hfin
            rw [← hfin]
            exact ⟨_, _, _, rfl, Hst.out.same, fun d e => by cases e; exact Hst.out⟩
end Go.Proofs.YtlimpepdelpogaaGreatDoor
