/-
  history.replay, history.Replay: what took, done again. Conditions: at most 1048576 entries; numbers that an int holds.
  history.sound. No conditions.
  history.deeds, history.Right, history.Replay. Conditions: 64 events at most; numbers that an int holds.
  The document's operations in a row of memory; one event taken, case by case. No conditions.
-/
import Derived.Test.YtlimpepdelpogaaGreatDoorHwB
import Derived.Test.YtlimpepdelpogaaGreatDoorHsD
import Derived.Test.YtlimpepdelpogaaGreatDoorHwC
import Derived.Test.YtlimpepdelpogaaGreatDoorHwV
import Derived.Shelf.Abstract
import Derived.Test.YtlimpepdelpogaaGreatDoorHwH

/-! HwX -/
namespace Go.Proofs.YtlimpepdelpogaaGreatDoor
open Go.RowKit Go.Al
set_option linter.unusedVariables false
set_option maxHeartbeats 8000000
set_option maxRecDepth 100000
theorem replP_step {n : Int} {all : List Ev} {i : Nat} {p s : List P3} (h : i < all.length) : replP n (all.drop i) p s = if all[i].k = 2 then (if goodR all[i].r && sameA (doesA all[i].r p s n) all[i].t.ans then replP n (all.drop (i + 1)) (doesP all[i].r p s n) (doesS all[i].r p s n) else none) else replP n (all.drop (i + 1)) p s := by
  rw [List.drop_eq_getElem_cons h]
  rfl
theorem replP_end {n : Int} {all : List Ev} {i : Nat} {p s : List P3} (h : all.length ≤ i) : replP n (all.drop i) p s = some (p, s) := by
  rw [List.drop_eq_nil_of_le h]
  rfl
/-- how replay ends -/
def ReplEnd (w : World) (most : Int) (r : Option (List P3 × List P3)) (e : Ending) (w' : World) : Prop :=
  ∃ g pm sm p s, e = .returned (.tuple #[.pointer (some ⟨g, 0, none⟩), .bool r.isSome]) ∧ Tab w' g pm sm most p s ∧ Same w w' ∧ w.heap.size ≤ g ∧ w.heap.size ≤ pm ∧ w.heap.size ≤ sm ∧ ∀ q, r = some q → q = (p, s)
theorem Tab.lts {w : World} {g pm sm : Nat} {most : Int} {p s : List P3} (h : Tab w g pm sm most p s) : g < w.heap.size ∧ pm < w.heap.size ∧ sm < w.heap.size := ⟨h.blk.lt, h.mp.lt, h.ms.lt⟩
theorem ans_at' (a : Ans) (A : Option Addr) (c : Nat) : (a.at_ A c).ans = a := rfl
theorem one_rpL0 (t : Rp) : ∀ u ∈ rpL t, u.oneCell' = true := by
  intro u hu
  simp only [rpL, List.mem_cons, List.not_mem_nil, or_false] at hu
  rcases hu with h | h | h | h | h <;> (subst h; rfl)
theorem replay_any {A0 : Option Addr} {N C : Nat} {all : List Ev} (most : Int) (w : World) (hN : all.length = N) (hN4 : N ≤ 64) (h1 : 1 ≤ most) (h2 : most ≤ 1048576) (ha : Evs w A0 all) (hx : ∀ x ∈ all, WfC x.r.c) :
    Calls Tryz.prog 19 #[.slice A0 N C, .int .i64 most] w (ReplEnd w most (replP most all [] [])) := by
  have HN := hide hN
  have Ha := hide ha
  have Hx := hide hx
  have HTn := hide (fun w' => tnew_any most w' h1 h2)
  have hN' : N ≤ 9223372036854775807 := by omega
  clear hN ha hx h1 h2 hN4
  go_enter Tryz.func19, Tryz.ntmps19
  go_wp2_with (go_at_call 12; (refine (HTn.out _).mono ?_); rintro e wt ⟨g, pm, sm, rfl, hst, htb, hg, hpm, hsm⟩; have Hst := hide hst; have Htb := hide htb; have Hg := hide hg; have Hpm := hide hpm; have Hsm := hide hsm; clear hst htb hg hpm hsm)
  go_loopg [9, 10, 11, 21] N (fun kk v9 v10 v11 vi wr => ∃ (i : Nat) (p s : List P3), i ≤ N ∧ kk = N - i ∧ vi = .int .i64 i ∧ Tab wr g pm sm most p s ∧ Same w wr ∧ replP most (all.drop i) p s = replP most all [] [])
  case atStart => exact ⟨0, [], [], Nat.zero_le _, rfl, rfl, Htb.out, Hst.out, rfl⟩
  case round =>
    obtain ⟨i, p, s, hi, hk, rfl, htb, hsw, hrp⟩ := hrel
    have Hk := hide hk
    have Ht := hide htb
    have Hsw := hide hsw
    have Hrp := hide hrp
    clear hk htb hsw hrp
    by_cases hlt : i < N
    · have hil : i < all.length := by rw [HN.out]; exact hlt
      obtain ⟨b, off, rfl, hbl, hra, hrx⟩ := (Ha.out.same Hsw.out).at_ hil
      have Hra := hide hra
      have hwf := Hx.out _ (List.getElem_mem hil)
      obtain ⟨x, hxx⟩ : ∃ x, all[i] = x := ⟨_, rfl⟩
      have hstep := Hrp.out
      rw [replP_step hil] at hstep
      rw [hxx] at Hra hstep hwf hrx
      have Hwf := hide hwf
      have Hrx := hide hrx
      have Hstep := hide hstep
      have HLc := hide (RowL.mk (evL_length x) (one_evL x))
      have HreqF := hide (fun (w' : World) (h : Blk w' wr.heap.size 45 (evL x).toArray) => ev_req h)
      have HrepF := hide (fun (w' : World) (h : Blk w' wr.heap.size 45 (evL x).toArray) => ev_rep h)
      have c0 : (evL x)[0]? = some (.int .i64 x.k) := rfl
      have HRl := hide (rqL_length x.r)
      have HT2 := hide (rpL_length x.t)
      have hlts := Ht.out.lts
      have hiI : (i : Int) < (N : Int) := by omega
      have Hlts := hide hlts
      have HD := hide (fun (w' : World) (hs : Same wr w') => does_any x.r w' (Ht.out.same hs) Hwf.out)
      obtain ⟨k, hk⟩ : ∃ k, x.k = k := ⟨_, rfl⟩
      rw [hk] at c0
      have Hkx := hide hk
      unfold DoesEnd rqV at HD
      clear hra hxx hstep hwf hk hrx hlts
      generalize evL x = L at *
      generalize rqL x.r = R at *
      by_cases hk2 : k = 2
      · cases hgd : goodR x.r
        · have hE : doesE x.r = 8 := by unfold doesE; rw [hgd]; rfl
          rw [hE] at HD
          have Hgd := hide hgd
          clear hE hgd
          go_wp2_with (first
            | ((with_reducible refine ldR 45 b (off + i * 27) 27 L rowEvt HLc.out.len Hra.out ?_ ?_ ?_); rfl; rfl)
            | ((with_reducible refine stNg 45 27 L 45 _ rowEvt HLc.out.len ?_ HLc.out.one ?_ ?_ ?_); rfl; rfl; rfl; intro w3 hs3 hz3 hb3; have Hs3 := hide hs3; have Hb3 := hide hb3; have hkb3 := hb3.cell; have Hrq := hide (HreqF.out w3 hb3); clear hs3 hz3)
            | ((with_reducible refine ldR 37 wr.heap.size 4 18 R rowReqH HRl.out Hrq.out ?_ ?_ ?_); rfl; rfl)
            | fail)
          go_at_call 29
          (refine (HD.out w3 Hs3.out).mono ?_)
          rintro e w4 ⟨A, c, rfl, hrp4, ht4, hc4, hfr4⟩
          have Hrp4 := hide hrp4
          have Ht4 := hide ht4
          have Hc4 : Hid (Chg (fun k => k = pm ∨ k = sm) w3 w4) := hide hc4
          have Hb4 := hide (Hb3.out.chg hc4 (fun e => by have := Hlts.out; omega))
          have hkb4 := Hb4.out.cell
          unfold rpV
          obtain ⟨T1, hT1⟩ : ∃ T, rpL ((doesA x.r p s most).at_ A c) = T := ⟨_, rfl⟩
          have HT1 := hide (RowL.mk (rpL_length ((doesA x.r p s most).at_ A c)) (one_rpL0 ((doesA x.r p s most).at_ A c)))
          rw [hT1] at HT1 ⊢
          have HTe := hide hT1
          clear hrp4 ht4 hc4 hfr4 hT1 hkb3
          go_wp2_with (first
            | ((with_reducible refine stNg 43 5 T1 43 _ rowRep HT1.out.len ?_ HT1.out.one ?_ ?_ ?_); rfl; rfl; rfl; intro w5 hs5 hz5 hb5; have Hs5 := hide hs5; have Hb5 := hide hb5; have Hr5 := hide (blk_range hb5); have Hx5 := hide (HrepF.out w5 (Hb4.out.same hs5)); clear hs5 hz5 hb5)
            | fail)
          go_ret2
          have hl := Hlts.out
          have hnone : replP most all [] [] = none := by rw [← Hstep.out, if_pos (Hkx.out.trans hk2), Hgd.out]; rfl
          rw [hnone]
          have hc : Chg (fun k => k = pm ∨ k = sm) wr w5 := (Chg.of_same Hs3.out Hc4.out).same Hs5.out
          refine ⟨g, pm, sm, _, _, rfl, Ht4.out.same Hs5.out, Chg.fresh (S := fun k => k = pm ∨ k = sm) (Hsw.out.to.trans hc fun _ _ e => e) (fun k e => by have := Hpm.out; have := Hsm.out; omega), Hg.out, Hpm.out, Hsm.out, fun q e => by cases e⟩
        · have hE : doesE x.r = 0 := by unfold doesE; rw [hgd]; rfl
          rw [hE] at HD
          have Hgd := hide hgd
          clear hE hgd
          go_wp2_with (first
            | ((with_reducible refine ldR 45 b (off + i * 27) 27 L rowEvt HLc.out.len Hra.out ?_ ?_ ?_); rfl; rfl)
            | ((with_reducible refine stNg 45 27 L 45 _ rowEvt HLc.out.len ?_ HLc.out.one ?_ ?_ ?_); rfl; rfl; rfl; intro w3 hs3 hz3 hb3; have Hs3 := hide hs3; have Hb3 := hide hb3; have hkb3 := hb3.cell; have Hrq := hide (HreqF.out w3 hb3); clear hs3 hz3)
            | ((with_reducible refine ldR 37 wr.heap.size 4 18 R rowReqH HRl.out Hrq.out ?_ ?_ ?_); rfl; rfl)
            | fail)
          go_at_call 29
          (refine (HD.out w3 Hs3.out).mono ?_)
          rintro e w4 ⟨A, c, rfl, hrp4, ht4, hc4, hfr4⟩
          have Hrp4 := hide hrp4
          have Ht4 := hide ht4
          have Hc4 : Hid (Chg (fun k => k = pm ∨ k = sm) w3 w4) := hide hc4
          have Hb4 := hide (Hb3.out.chg hc4 (fun e => by have := Hlts.out; omega))
          have hkb4 := Hb4.out.cell
          unfold rpV
          obtain ⟨T1, hT1⟩ : ∃ T, rpL ((doesA x.r p s most).at_ A c) = T := ⟨_, rfl⟩
          have HT1 := hide (RowL.mk (rpL_length ((doesA x.r p s most).at_ A c)) (one_rpL0 ((doesA x.r p s most).at_ A c)))
          rw [hT1] at HT1 ⊢
          have HTe := hide hT1
          clear hrp4 ht4 hc4 hfr4 hT1 hkb3
          obtain ⟨v, hv⟩ : ∃ v, sameA (doesA x.r p s most) x.t.ans = v := ⟨_, rfl⟩
          have HSm := hide (fun (w' : World) (hs : Same w4 w') => rsame_any ((doesA x.r p s most).at_ A c) x.t w' (Hrp4.out.same hs) ((Hrx.out.keep (Rd.past_maps Hrx.out.rd Ht.out.mp Ht.out.ms (Chg.of_same Hs3.out Hc4.out))).same hs))
          unfold rpV at HSm
          rw [HTe.out, ans_at', hv] at HSm
          have Hv := hide hv
          clear hv
          generalize rpL x.t = T2 at *
          have hst2 := Hstep.out
          rw [if_pos (Hkx.out.trans hk2), Hgd.out, Hv.out] at hst2
          have Hst2 := hide hst2
          clear hst2
          cases v
          · go_wp2_with (first
              | ((with_reducible refine stNg 43 5 T1 43 _ rowRep HT1.out.len ?_ HT1.out.one ?_ ?_ ?_); rfl; rfl; rfl; intro w5 hs5 hz5 hb5; have Hs5 := hide hs5; have Hb5 := hide hb5; have Hr5 := hide (blk_range hb5); have Hx5 := hide (HrepF.out w5 (Hb4.out.same hs5)); clear hs5 hz5 hb5)
              | ((with_reducible refine ldR 43 w4.heap.size 0 5 T1 rowRep HT1.out.len Hr5.out ?_ ?_ ?_); rfl; rfl)
              | ((with_reducible refine ldR 43 wr.heap.size 22 5 T2 rowRep HT2.out Hx5.out ?_ ?_ ?_); rfl; rfl)
              | (go_at_call 38; (with_reducible refine (HSm.out w5 Hs5.out).mono ?_); rintro e w6 ⟨rfl, hs6⟩; have Hs6 := hide hs6; clear hs6)
              | fail)
            go_ret2
            have hnone : replP most all [] [] = none := by rw [← Hst2.out]; rfl
            rw [hnone]
            have hc : Chg (fun k => k = pm ∨ k = sm) wr w6 := ((Chg.of_same Hs3.out Hc4.out).same Hs5.out).same Hs6.out
            exact ⟨g, pm, sm, _, _, rfl, (Ht4.out.same Hs5.out).same Hs6.out, Chg.fresh (S := fun k => k = pm ∨ k = sm) (Hsw.out.to.trans hc fun _ _ e => e) (fun k e => by have := Hpm.out; have := Hsm.out; omega), Hg.out, Hpm.out, Hsm.out, fun q e => by cases e⟩
          · go_wp2_with (first
              | ((with_reducible refine stNg 43 5 T1 43 _ rowRep HT1.out.len ?_ HT1.out.one ?_ ?_ ?_); rfl; rfl; rfl; intro w5 hs5 hz5 hb5; have Hs5 := hide hs5; have Hb5 := hide hb5; have Hr5 := hide (blk_range hb5); have Hx5 := hide (HrepF.out w5 (Hb4.out.same hs5)); clear hs5 hz5 hb5)
              | ((with_reducible refine ldR 43 w4.heap.size 0 5 T1 rowRep HT1.out.len Hr5.out ?_ ?_ ?_); rfl; rfl)
              | ((with_reducible refine ldR 43 wr.heap.size 22 5 T2 rowRep HT2.out Hx5.out ?_ ?_ ?_); rfl; rfl)
              | (go_at_call 38; (with_reducible refine (HSm.out w5 Hs5.out).mono ?_); rintro e w6 ⟨rfl, hs6⟩; have Hs6 := hide hs6; clear hs6)
              | fail)
            go_roundg (N - (i + 1))
            case measure => have := Hk.out; omega
            case rel =>
              have hc : Chg (fun k => k = pm ∨ k = sm) wr w6 := ((Chg.of_same Hs3.out Hc4.out).same Hs5.out).same Hs6.out
              exact ⟨i + 1, _, _, by omega, rfl, by go_num, (Ht4.out.same Hs5.out).same Hs6.out, Chg.fresh (S := fun k => k = pm ∨ k = sm) (Hsw.out.to.trans hc fun _ _ e => e) (fun k e => by have := Hpm.out; have := Hsm.out; omega), Hst2.out⟩
      · have hk2' : (k == 2) = false := by simpa using hk2
        go_wp2_with (first
          | ((with_reducible refine ldR 45 b (off + i * 27) 27 L rowEvt HLc.out.len Hra.out ?_ ?_ ?_); rfl; rfl)
          | ((with_reducible refine stNg 45 27 L 45 _ rowEvt HLc.out.len ?_ HLc.out.one ?_ ?_ ?_); rfl; rfl; rfl; intro w3 hs3 hz3 hb3; have Hs3 := hide hs3; have Hb3 := hide hb3; have hkb3 := hb3.cell; have Hrq := hide (HreqF.out w3 hb3); clear hs3 hz3)
          | fail)
        go_roundg (N - (i + 1))
        case measure => have := Hk.out; omega
        case rel => exact ⟨i + 1, p, s, by omega, rfl, by go_num, Ht.out.same Hs3.out, Same.trans Hsw.out Hs3.out, by rw [← Hstep.out, if_neg (fun e => hk2 (Hkx.out.symm.trans e))]⟩
    · have hie : i = N := by omega
      subst hie
      go_wp2_with fail
      go_ret2
      have hend : replP most all [] [] = some (p, s) := by rw [← Hrp.out, replP_end (by rw [HN.out]; exact Nat.le_refl _)]
      rw [hend]
      exact ⟨g, pm, sm, p, s, rfl, Ht.out, Hsw.out, Hg.out, Hpm.out, Hsm.out, fun q e => (Option.some.inj e).symm⟩
end Go.Proofs.YtlimpepdelpogaaGreatDoor
/-! HwY -/
namespace Go.Proofs.YtlimpepdelpogaaGreatDoor
open Go.RowKit Go.Al
set_option linter.unusedVariables false
set_option maxHeartbeats 8000000
set_option maxRecDepth 100000
theorem sound_any (d : Dd) (w : World) :
    Calls Tryz.prog 21 #[ddV d] w fun e w' => e = .returned (.bool (soundP d)) ∧ Same w w' := by
  have Hs := hide ((Chg.refl (fun _ => False) w).alloc (.cells (ddL d).toArray 79))
  have Hb := hide (Blk.new w 79 (ddL d).toArray)
  have c0 : (ddL d)[0]? = some (.int .i64 d.iv) := rfl
  have c1 : (ddL d)[1]? = some (.int .i64 d.tk) := rfl
  have c2 : (ddL d)[2]? = some (.int .i64 d.rp) := rfl
  have c3 : (ddL d)[3]? = some (.int .i64 d.ab) := rfl
  have c4 : (ddL d)[4]? = some (.int .i64 d.rf) := rfl
  have c6 : (ddL d)[6]? = some (.int .i64 d.r.k) := rfl
  have c24 : (ddL d)[24]? = some (.int .i64 d.t.e) := rfl
  obtain ⟨v, hv⟩ : ∃ v, soundP d = v := ⟨_, rfl⟩
  rw [hv]
  unfold soundP at hv
  obtain ⟨iv, hiv⟩ : ∃ k, d.iv = k := ⟨_, rfl⟩
  rw [hiv] at c0 hv
  clear hiv
  obtain ⟨tk, htk⟩ : ∃ k, d.tk = k := ⟨_, rfl⟩
  rw [htk] at c1 hv
  clear htk
  obtain ⟨rp, hrp⟩ : ∃ k, d.rp = k := ⟨_, rfl⟩
  rw [hrp] at c2 hv
  clear hrp
  obtain ⟨ab, hab⟩ : ∃ k, d.ab = k := ⟨_, rfl⟩
  rw [hab] at c3 hv
  clear hab
  obtain ⟨rf, hrf⟩ : ∃ k, d.rf = k := ⟨_, rfl⟩
  rw [hrf] at c4 hv
  clear hrf
  obtain ⟨rk, hrk⟩ : ∃ k, d.r.k = k := ⟨_, rfl⟩
  rw [hrk] at c6 hv
  clear hrk
  obtain ⟨te, hte⟩ : ∃ k, d.t.e = k := ⟨_, rfl⟩
  rw [hte] at c24 hv
  clear hte
  have HV := hide hv
  clear hv
  unfold ddV
  generalize ddL d = L at *
  go_enter Tryz.func21, Tryz.ntmps21
  go_wp2_with fail
  refine wp_region_mixS 12 (by kernel_rfl) (by kernel_rfl) fun Fin hFin => ?_
  simp only [List.take_succ_cons, List.take_zero]
  iterate 12 (
      (refine mix_lit ?_ ?_ (Chg.refl _) ?_ ?_ ?_ ?_; rotate_left 2
       · intro e w1 hR hF K hK; (have hcb := (Hb.out.same hR).cell); go_simp; (refine hK _ _ (Chg.refl _ _) ?_; rfl)
       · intro e; simp only [puts]; rfl
       · exact Loc.const _ _))
  refine mix_nil fun e w1 hR hF => hFin _ _ ?_
  simp only [List.drop_succ_cons, List.drop_zero]
  have hcb := (Hb.out.same hR).cell
  have Hs2 := hide (Same.trans Hs.out hR)
  clear hF hFin hR
  go_wp2_with fail
  all_goals
    go_ret
    refine ⟨?_, Hs2.out⟩
    rw [← HV.out]
    clear HV hcb c0 c1 c2 c3 c4 c6 c24 Hb Hs
    (repeat (first | rw [if_pos (by omega)] | rw [if_neg (by omega)]))
    first | rfl | (simp [*]; done) | (simp; omega) | (simp [*]; omega) | (simp; rw [Bool.eq_iff_iff]; simp; done) | (simp; rw [Bool.eq_iff_iff]; simp; omega) | (simp; rw [Bool.eq_iff_iff]; simp [*]; done) | (simp; rw [Bool.eq_iff_iff]; simp [*]; omega) | (simp [*]; rw [Bool.eq_iff_iff]; simp; done) | (simp [*]; rw [Bool.eq_iff_iff]; simp [*]; omega)
end Go.Proofs.YtlimpepdelpogaaGreatDoor
/-! HwZ -/
namespace Go.Proofs.YtlimpepdelpogaaGreatDoor
open Go.RowKit Go.Al Go.Shelf
set_option linter.unusedVariables false
set_option maxHeartbeats 8000000
set_option maxRecDepth 100000
theorem eDeeds : ∀ args w, (callFunc 40 args).run Tryz.prog w = .ok (.enter 40 args) w := enters_of Tryz.func40 (by kernel_rfl) rfl
/-- how deeds ends -/
def DeedsOk (w : World) (ds : List Dd) (e : Ending) (w' : World) : Prop :=
  ∃ Ad n c, e = .returned (.tuple #[.slice Ad n c, .bool true]) ∧ w'.ownsRow w.heap.size 79 29 (.slice Ad n c) n (flatD ds) ∧ ds.length = n ∧ Same w w' ∧ ∀ d ∈ ds, RpAt w d.t
def DeedsBad (w : World) (e : Ending) (w' : World) : Prop := e = .returned (.tuple #[.slice none 0 0, .bool false]) ∧ Same w w'
theorem deeds_ok {A0 : Option Addr} {N C : Nat} {all : List Ev} {ds : List Dd} (w : World) (hN : all.length = N) (hN4 : N ≤ 64) (ha : Evs w A0 all) (hx : ∀ x ∈ all, WfX x) (hG : goP all 0 (st0 all 0 0) [] all = some ds) :
    Calls Tryz.prog 20 #[.slice A0 N C] w (DeedsOk w ds) := by
  have hmf : ∀ (fn : Fn) (first cap : Array Value) (w : World), (Instr.makeFunc fn first cap).run Tryz.prog w = .ok (.func fn first cap) w := fun _ _ _ _ => rfl
  have hs3 : Same w (((w.alloc (.cells #[.slice A0 N C] 22)).alloc (.cells #[.slice A0 N C, .slice none 0 0, .int .i64 0] 108)).alloc (.cells #[.pointer (some ⟨w.heap.size + 1, 0, none⟩)] 106)) := (((Chg.refl _ w).alloc _).alloc _).alloc _
  have hb1 := ((Blk.new w 22 #[.slice A0 N C]).alloc (.cells #[.slice A0 N C, .slice none 0 0, .int .i64 0] 108)).alloc (.cells #[.pointer (some ⟨w.heap.size + 1, 0, none⟩)] 106)
  have hb2 := (Blk.new (w.alloc (.cells #[.slice A0 N C] 22)) 108 #[.slice A0 N C, .slice none 0 0, .int .i64 0]).alloc (.cells #[.pointer (some ⟨w.heap.size + 1, 0, none⟩)] 106)
  have hb3 := Blk.new ((w.alloc (.cells #[.slice A0 N C] 22)).alloc (.cells #[.slice A0 N C, .slice none 0 0, .int .i64 0] 108)) 106 #[.pointer (some ⟨w.heap.size + 1, 0, none⟩)]
  simp only [World.size_alloc] at hb2 hb3
  have hz : (((w.alloc (.cells #[.slice A0 N C] 22)).alloc (.cells #[.slice A0 N C, .slice none 0 0, .int .i64 0] 108)).alloc (.cells #[.pointer (some ⟨w.heap.size + 1, 0, none⟩)] 106)).heap.size = w.heap.size + 3 := by simp
  have hst : ∀ w1, Same (((w.alloc (.cells #[.slice A0 N C] 22)).alloc (.cells #[.slice A0 N C, .slice none 0 0, .int .i64 0] 108)).alloc (.cells #[.pointer (some ⟨w.heap.size + 1, 0, none⟩)] 106)) w1 → RSt w w1 w1 (w.heap.size + 1) A0 N C 0 none 0 0 [] := fun w1 h => ⟨hb2.same h, World.ownsRow_nil _ _ _ _, rfl, Same.trans hs3 h, Chg.refl _ _, fun d hd => by cases hd⟩
  have HC := hide (Catch_ok (K := 40) (caps := #[.pointer (some ⟨w.heap.size, 0, none⟩), .pointer (some ⟨w.heap.size + 2, 0, none⟩)]) eDeeds (S := fun k => k = w.heap.size + 1) (fun w1 w2 => Same (((w.alloc (.cells #[.slice A0 N C] 22)).alloc (.cells #[.slice A0 N C, .slice none 0 0, .int .i64 0] 108)).alloc (.cells #[.pointer (some ⟨w.heap.size + 1, 0, none⟩)] 106)) w1 ∧ ∃ st Ad n c, RSt w w1 w2 (w.heap.size + 1) A0 N C st Ad n c ds) (((w.alloc (.cells #[.slice A0 N C] 22)).alloc (.cells #[.slice A0 N C, .slice none 0 0, .int .i64 0] 108)).alloc (.cells #[.pointer (some ⟨w.heap.size + 1, 0, none⟩)] 106)) (fun k hk => by omega)
    (fun w1 h1 => (deeds1_ok hN hN4 (Nat.le_succ _) (by have := h1.size; omega) (hb1.same h1) (hb3.same h1) (hst w1 h1) ha hx hG).mono fun e w2 ⟨he, st, Ad, n, c, hr⟩ => ⟨he, hr.frm, h1, st, Ad, n, c, hr⟩))
  have Hs3 := hide hs3
  have Hb3 := hide hb3
  have Hz := hide hz
  clear hs3 hb1 hb2 hb3 hz hst ha hx hN hN4 hG
  go_enter Tryz.func20, Tryz.ntmps20
  go_wp2_with fail
  go_at_call 39
  refine HC.out.mono ?_
  rintro e w4 ⟨rfl, w1, w2, h1, h2, ⟨h3, st, Ad, n, c, hr⟩, h4⟩
  have hz := Hz.out
  have hbp := ((Hb3.out.same h1).chg h2 (fun e => by omega))
  have Hbp : Hid (Blk w4 (w.heap.size + 2) 106 #[.pointer (some ⟨w.heap.size + 1, 0, none⟩)]) := hide (hbp.chg h4 (fun e => by omega))
  have hrb := hr.blk.chg h4 (fun e => by omega)
  have Hown := hide (own_chg hr.own h4 (fun b hb e => by have := (hr.own.lt b hb).1; omega))
  have Hlen := hide hr.len
  have Hrp := hide hr.rep
  have Hsw : Hid (Same w w4) := hide (Chg.fresh (S := fun k => w.heap.size ≤ k) (hr.same.to.trans h4 fun k _ e => by omega) fun _ e => e)
  have hkb := Hbp.out.cell
  have hkr := hrb.cell
  have hlt := hrb.lt
  have hlt2 := Hbp.out.lt
  have hown1 := hide (show w.heap.size ≤ w1.heap.size by have := h1.size; omega)
  clear h1 h2 h3 h4 hr hbp hrb hz
  go_wp2_with fail
  go_ret2
  refine ⟨Ad, n, c, rfl, own_mono (own_chg Hown.out ((Chg.refl (fun _ => False) w4).alloc _) (fun _ _ f => f)) (fun b hb => Nat.le_trans hown1.out (Hown.out.lt b hb).1), Hlen.out, Hsw.out.alloc _, Hrp.out⟩
theorem deeds_bad {A0 : Option Addr} {N C : Nat} {all : List Ev} (w : World) (hN : all.length = N) (hN4 : N ≤ 64) (ha : Evs w A0 all) (hx : ∀ x ∈ all, WfX x) (hG : goP all 0 (st0 all 0 0) [] all = none) :
    Calls Tryz.prog 20 #[.slice A0 N C] w (DeedsBad w) := by
  have hmf : ∀ (fn : Fn) (first cap : Array Value) (w : World), (Instr.makeFunc fn first cap).run Tryz.prog w = .ok (.func fn first cap) w := fun _ _ _ _ => rfl
  have hs3 : Same w (((w.alloc (.cells #[.slice A0 N C] 22)).alloc (.cells #[.slice A0 N C, .slice none 0 0, .int .i64 0] 108)).alloc (.cells #[.pointer (some ⟨w.heap.size + 1, 0, none⟩)] 106)) := (((Chg.refl _ w).alloc _).alloc _).alloc _
  have hb1 := ((Blk.new w 22 #[.slice A0 N C]).alloc (.cells #[.slice A0 N C, .slice none 0 0, .int .i64 0] 108)).alloc (.cells #[.pointer (some ⟨w.heap.size + 1, 0, none⟩)] 106)
  have hb2 := (Blk.new (w.alloc (.cells #[.slice A0 N C] 22)) 108 #[.slice A0 N C, .slice none 0 0, .int .i64 0]).alloc (.cells #[.pointer (some ⟨w.heap.size + 1, 0, none⟩)] 106)
  have hb3 := Blk.new ((w.alloc (.cells #[.slice A0 N C] 22)).alloc (.cells #[.slice A0 N C, .slice none 0 0, .int .i64 0] 108)) 106 #[.pointer (some ⟨w.heap.size + 1, 0, none⟩)]
  simp only [World.size_alloc] at hb2 hb3
  have hz : (((w.alloc (.cells #[.slice A0 N C] 22)).alloc (.cells #[.slice A0 N C, .slice none 0 0, .int .i64 0] 108)).alloc (.cells #[.pointer (some ⟨w.heap.size + 1, 0, none⟩)] 106)).heap.size = w.heap.size + 3 := by simp
  have hst : ∀ w1, Same (((w.alloc (.cells #[.slice A0 N C] 22)).alloc (.cells #[.slice A0 N C, .slice none 0 0, .int .i64 0] 108)).alloc (.cells #[.pointer (some ⟨w.heap.size + 1, 0, none⟩)] 106)) w1 → RSt w w1 w1 (w.heap.size + 1) A0 N C 0 none 0 0 [] := fun w1 h => ⟨hb2.same h, World.ownsRow_nil _ _ _ _, rfl, Same.trans hs3 h, Chg.refl _ _, fun d hd => by cases hd⟩
  have HC := hide (Catch_bad (K := 40) (caps := #[.pointer (some ⟨w.heap.size, 0, none⟩), .pointer (some ⟨w.heap.size + 2, 0, none⟩)]) eDeeds (S := fun k => k = w.heap.size + 1) (fun w1 w2 => True) (((w.alloc (.cells #[.slice A0 N C] 22)).alloc (.cells #[.slice A0 N C, .slice none 0 0, .int .i64 0] 108)).alloc (.cells #[.pointer (some ⟨w.heap.size + 1, 0, none⟩)] 106)) (fun k hk => by omega)
    (fun w1 h1 => (deeds1_bad hN hN4 (Nat.le_succ _) (by have := h1.size; omega) (hb1.same h1) (hb3.same h1) (hst w1 h1) ha hx hG).mono fun e w2 ⟨he, hs, hc⟩ => ⟨he, hc, trivial⟩))
  have Hs3 := hide hs3
  have Hb3 := hide hb3
  have Hz := hide hz
  clear hs3 hb1 hb2 hb3 hz hst ha hx hN hN4 hG
  go_enter Tryz.func20, Tryz.ntmps20
  go_wp2_with fail
  go_at_call 39
  refine HC.out.mono ?_
  rintro e w4 ⟨⟨cc, rfl⟩, w1, w2, h1, h2, h3, h4⟩
  have hz := Hz.out
  have hbp := ((Hb3.out.same h1).chg h2 (fun e => by omega))
  have Hbp : Hid (Blk w4 (w.heap.size + 2) 106 #[.pointer (some ⟨w.heap.size + 1, 0, none⟩)]) := hide (hbp.chg h4 (fun e => by omega))
  have Hsw : Hid (Same w w4) := hide (Chg.fresh (S := fun k => w.heap.size ≤ k) (((Same.trans Hs3.out h1).to.trans h2 fun k _ e => by omega).trans h4 fun k _ e => by omega) fun _ e => e)
  clear h1 h2 h3 h4 hbp hz
  go_wp2_with fail
  go_ret2
  exact ⟨rfl, Hsw.out.alloc _⟩
theorem own_rng {w : World} {base n c : Nat} {e : TypeId} {A : Option Addr} {ds : List Dd} (h : w.ownsRow base e 29 (.slice A n c) n (flatD ds)) {j : Nat} (hj : j < ds.length) : ∃ g, A = some ⟨g, 0, none⟩ ∧ g < w.heap.size ∧ w.rangeAt g (j * 29) (ddL ds[j]) := by
  obtain ⟨g, h1, _, h3, _, _, h2⟩ := own_dd h hj
  exact ⟨g, h1, h3, fun i v hv => (h2 i (by have := (List.getElem?_eq_some_iff.1 hv).1; rwa [ddL_length] at this)).trans hv⟩
theorem all_take {ds : List Dd} {i : Nat} (h : i < ds.length) : (ds.take (i + 1)).all soundP = ((ds.take i).all soundP && soundP ds[i]) := by
  rw [List.take_succ_eq_append_getElem h, List.all_append]
  simp
theorem goP_len {all : List Ev} : ∀ (l : List Ev) {i : Nat} {st : Int} {ds ds' : List Dd}, goP all i st ds l = some ds' → ds'.length ≤ ds.length + l.length
  | [], i, st, ds, ds', h => by unfold goP at h; cases h; simp
  | x :: l, i, st, ds, ds', h => by
    unfold goP at h
    split at h
    · cases h
    · rename_i ds1 h1
      have h2 := goP_len l h
      have h3 := take_len h1
      rw [List.length_cons]
      omega
theorem right_none {A0 : Option Addr} {N C : Nat} {all : List Ev} (most : Int) (w : World) (hN : all.length = N) (hN4 : N ≤ 64) (h1 : 1 ≤ most) (h2 : most ≤ 1048576) (ha : Evs w A0 all) (hx : ∀ x ∈ all, WfX x) (hx2 : ∀ x ∈ all, WfC x.r.c) (hG : goP all 0 (st0 all 0 0) [] all = none) :
    Calls Tryz.prog 8 #[.slice A0 N C, .int .i64 most] w fun e w' => e = .returned (.bool false) ∧ Same w w' := by
  have HD := hide (deeds_bad (C := C) w hN hN4 ha hx hG)
  have HR := hide (fun (w' : World) (h : Same w w') => replay_any (C := C) most w' hN hN4 h1 h2 (ha.same h) hx2)
  have hN' : N ≤ 9223372036854775807 := by omega
  obtain ⟨r, hr⟩ : ∃ r, (replP most all [] []).isSome = r := ⟨_, rfl⟩
  unfold ReplEnd at HR
  unfold DeedsBad at HD
  rw [hr] at HR
  have Hr := hide hr
  clear hN hN4 ha hx hx2 h1 h2 hG hr
  go_enter Tryz.func8, Tryz.ntmps8
  go_wp2_with (first
    | (go_at_call 20; (with_reducible refine HD.out.mono ?_); rintro e w1 ⟨rfl, hs1⟩; have Hs1 := hide hs1; clear hs1)
    | (go_at_call 19; (refine (HR.out w1 Hs1.out).mono ?_); rintro e w2 ⟨g, pm, sm, p, s, rfl, _, hs2, _, _, _, _⟩; have Hs12 := hide hs2; have Hs2 := hide (Same.trans Hs1.out hs2); clear hs2)
    | fail)
  go_loopg [8, 10, 24] 0 (fun kk v8 v10 vi wr => ∃ b : Bool, v8 = .bool b ∧ vi = .int .i64 0 ∧ Same w wr)
  case atStart => exact ⟨r, rfl, rfl, Hs2.out⟩
  case round =>
    obtain ⟨b, rfl, rfl, hsw⟩ := hrel
    go_wp2_with fail
    go_ret
    exact ⟨rfl, hsw⟩
theorem right_some {A0 : Option Addr} {N C : Nat} {all : List Ev} {ds : List Dd} (most : Int) (w : World) (hN : all.length = N) (hN4 : N ≤ 64) (h1 : 1 ≤ most) (h2 : most ≤ 1048576) (ha : Evs w A0 all) (hx : ∀ x ∈ all, WfX x) (hx2 : ∀ x ∈ all, WfC x.r.c) (hG : goP all 0 (st0 all 0 0) [] all = some ds) :
    Calls Tryz.prog 8 #[.slice A0 N C, .int .i64 most] w fun e w' => e = .returned (.bool ((replP most all [] []).isSome && ds.all soundP)) ∧ Same w w' := by
  have HD := hide (deeds_ok (C := C) w hN hN4 ha hx hG)
  have HR := hide (fun (w' : World) (h : Same w w') => replay_any (C := C) most w' hN hN4 h1 h2 (ha.same h) hx2)
  have hN' : N ≤ 9223372036854775807 := by omega
  have HN64 := hide (show ds.length ≤ 64 by have := goP_len all hG; simp at this; omega)
  obtain ⟨r, hr⟩ : ∃ r, (replP most all [] []).isSome = r := ⟨_, rfl⟩
  unfold ReplEnd at HR
  unfold DeedsOk at HD
  rw [hr] at HR
  have Hr := hide hr
  clear hN hN4 ha hx hx2 h1 h2 hG hr
  go_enter Tryz.func8, Tryz.ntmps8
  go_wp2_with (first
    | (go_at_call 20; (with_reducible refine HD.out.mono ?_); rintro e w1 ⟨Ad, n, c, rfl, hown, hlen, hs1, hrp⟩; have Hown := hide hown; have Hlen := hide hlen; have Hs1 := hide hs1; clear hown hlen hs1 hrp)
    | (go_at_call 19; (refine (HR.out w1 Hs1.out).mono ?_); rintro e w2 ⟨g, pm, sm, p, s, rfl, _, hs2, _, _, _, _⟩; have Hs12 := hide hs2; have Hs2 := hide (Same.trans Hs1.out hs2); clear hs2)
    | fail)
  have Hown2 := hide (own_chg Hown.out (show Same w1 w2 from Hs12.out) fun _ _ f => f)
  have Hn64 := hide (show n ≤ 64 by rw [← Hlen.out]; exact HN64.out)
  have hnn : n ≤ 9223372036854775807 := by have := Hn64.out; omega
  go_loopg [8, 10, 24] n (fun kk v8 v10 vi wr => ∃ i : Nat, i ≤ n ∧ kk = n - i ∧ v8 = .bool (r && (ds.take i).all soundP) ∧ vi = .int .i64 i ∧ Same w2 wr)
  case atStart => exact ⟨0, Nat.zero_le _, rfl, by simp, rfl, Chg.refl _ _⟩
  case round =>
    obtain ⟨i, hi, hk, rfl, rfl, hsw⟩ := hrel
    have Hk := hide hk
    have Hsw := hide hsw
    clear hk hsw
    by_cases hlt : i < n
    · have hil : i < ds.length := by rw [Hlen.out]; exact hlt
      obtain ⟨gd, rfl, hgd, hra⟩ := own_rng (own_chg Hown2.out Hsw.out fun _ _ f => f) hil
      have Hra := hide hra
      have HLc := hide (RowL.mk (ddL_length ds[i]) (one_ddL ds[i]))
      have HSo := hide (fun w' => sound_any ds[i] w')
      have Hat := hide (all_take hil)
      obtain ⟨b, hb⟩ : ∃ b, (r && (ds.take i).all soundP) = b := ⟨_, rfl⟩
      obtain ⟨v, hv⟩ : ∃ v, soundP ds[i] = v := ⟨_, rfl⟩
      rw [hv] at HSo Hat
      rw [hb]
      have Hb := hide hb
      have hiI : (i : Int) < (n : Int) := by omega
      unfold ddV at HSo
      clear hra hb hv
      generalize ddL ds[i] = L at *
      cases b
      all_goals
        go_wp2_with (first
          | ((with_reducible refine ldR 79 gd (i * 29) 29 L rowDeed HLc.out.len Hra.out ?_ ?_ ?_); rfl; rfl)
          | ((with_reducible refine stNg 79 29 L 79 _ rowDeed HLc.out.len ?_ HLc.out.one ?_ ?_ ?_); rfl; rfl; rfl; intro w3 hs3 hz3 hb3; have Hs3 := hide (Same.trans Hsw.out hs3); have Hr3 := hide (blk_range hb3); clear hs3 hz3 hb3)
          | ((with_reducible refine ldR 79 wr.heap.size 0 29 L rowDeed HLc.out.len Hr3.out ?_ ?_ ?_); rfl; rfl)
          | (go_at_call 21; (with_reducible refine (HSo.out _).mono ?_); rintro e w4 ⟨rfl, hs4⟩; have Hs4 := hide (Same.trans Hs3.out hs4); clear hs4)
          | fail)
        go_roundg (n - (i + 1))
        case measure => have := Hk.out; omega
        case rel =>
          have h64 := Hn64.out
          exact ⟨i + 1, by omega, rfl, by rw [Hat.out, ← Bool.and_assoc, Hb.out]; cases v <;> rfl, (by first | go_num | exact congrArg (Value.int .i64) (wrapN (by omega))), by first | exact Hs4.out | exact Hs3.out⟩
    · have hie : i = n := by omega
      subst hie
      have htk : ds.take i = ds := List.take_of_length_le (by rw [Hlen.out]; exact Nat.le_refl _)
      rw [htk]
      obtain ⟨b, hb⟩ : ∃ b, (r && ds.all soundP) = b := ⟨_, rfl⟩
      rw [hb]
      have Hb := hide hb
      clear hb htk
      go_wp2_with fail
      go_ret
      exact ⟨by rw [Hr.out, Hb.out]; cases b <;> rfl, Same.trans Hs2.out Hsw.out⟩
theorem Right_any {A0 : Option Addr} {N C : Nat} {all : List Ev} (most : Int) (w : World) (hN : all.length = N) (hN4 : N ≤ 64) (h1 : 1 ≤ most) (h2 : most ≤ 1048576) (ha : Evs w A0 all) (hx : ∀ x ∈ all, WfX x) (hx2 : ∀ x ∈ all, WfC x.r.c) :
    Calls Tryz.prog 8 #[.slice A0 N C, .int .i64 most] w fun e w' => e = .returned (.bool (rightP all most)) ∧ Same w w' := by
  unfold rightP
  cases hG : goP all 0 (st0 all 0 0) [] all with
  | none =>
    have h : goP all 0 ((all.map (·.st)).headD 0) [] all = none := hG
    rw [h]
    exact right_none most w hN hN4 h1 h2 ha hx hx2 hG
  | some ds =>
    have h : goP all 0 ((all.map (·.st)).headD 0) [] all = some ds := hG
    rw [h]
    exact right_some most w hN hN4 h1 h2 ha hx hx2 hG
theorem Replay_any {A0 : Option Addr} {N C : Nat} {all : List Ev} (most : Int) (w : World) (hN : all.length = N) (hN4 : N ≤ 64) (h1 : 1 ≤ most) (h2 : most ≤ 1048576) (ha : Evs w A0 all) (hx : ∀ x ∈ all, WfC x.r.c) :
    Calls Tryz.prog 7 #[.slice A0 N C, .int .i64 most] w (ReplEnd w most (replP most all [] [])) := by
  have HR := hide (replay_any (C := C) most w hN hN4 h1 h2 ha hx)
  clear hN hN4 h1 h2 ha hx
  go_enter Tryz.func7, Tryz.ntmps7
  go_wp2_with (go_at_call 19; (refine HR.out.mono ?_); rintro e w2 ⟨g, pm, sm, p, s, rfl, ht, hs2, h3, h4, h5, h6⟩; have HE : Hid (ReplEnd w most (replP most all [] []) (.returned (.tuple #[.pointer (some ⟨g, 0, none⟩), .bool (replP most all [] []).isSome])) w2) := hide ⟨g, pm, sm, p, s, rfl, ht, hs2, h3, h4, h5, h6⟩; clear ht hs2 h3 h4 h5 h6)
  go_ret2
  exact HE.out
end Go.Proofs.YtlimpepdelpogaaGreatDoor
/-! HwO -/
namespace Go.Proofs.YtlimpepdelpogaaGreatDoor
open Go.RowKit Go.Al
set_option linter.unusedVariables false
/-- the document's own first operation, which stands for none -/
def zD : Dd := ⟨0, 0, 0, 0, 0, 0, ⟨0, ⟨0, (0, 0, 0), (0, 0, 0)⟩, ⟨0, 0, 0, 0, 0, 0, 0, 0, 0, 0⟩⟩, ⟨0, false, false, 0, none, 0, []⟩⟩
theorem infoOp3 : (Tryz.prog.info? 74).map (fun i => (i.zero, i.size, i.bytes)) = some (some (ddV zD), 29, 240) := by kernel_rfl
theorem slOp : SlTy Tryz.prog 68 74 29 240 := SlTy.of (z := ddV zD) Tryz.underlying68 (by kernel_rfl) rfl (by decide)
theorem rowOp : RowTy Tryz.prog 74 29 := ⟨⟨_, Tryz.underlying74, rfl⟩, by kernel_rfl⟩
theorem rowAt6 : RowTy Tryz.prog 99 6 := ⟨⟨_, Tryz.underlying99, rfl⟩, by kernel_rfl⟩
set_option maxRecDepth 100000 in
theorem built_op (x : Ev) : Tryz.prog.built 74 [(0, .int .i64 (-1)), (1, .int .i64 (-1)), (2, .int .i64 (-1)), (3, .int .i64 (-1)), (4, .int .i64 (-1)), (5, .int .i64 x.ss), (6, .agg (rqL x.r).toArray), (7, .agg #[.int .i64 0, .bool false, .bool false, .int .i64 0, .slice none 0 0])] = some (ddL (freshD x)).toArray := by
  obtain ⟨ek, est, ess, eop, ⟨k, ⟨ck, ⟨p1, p2, p3⟩, ⟨s1, s2, s3⟩⟩, ⟨q1, q2, q3, q4, q5, q6, q7, q8, q9, q10⟩⟩, et⟩ := x
  kernel_rfl
/-- the document's state -/
structure OSt (u w : World) (A : Option Addr) (n c : Nat) (ds : List Dd) : Prop where
  own : w.ownsRow u.heap.size 74 29 (.slice A n c) n (flatD (zD :: ds))
  len : ds.length + 1 = n
  same : Same u w
  rep : ∀ d ∈ ds, RpAt u d.t
theorem OSt.same2 {u w w' : World} {A : Option Addr} {n c : Nat} {ds : List Dd} (h : OSt u w A n c ds) (hs : Same w w') : OSt u w' A n c ds := ⟨own_chg h.own hs fun _ _ f => f, h.len, Same.trans h.same hs, h.rep⟩
theorem OSt.put {u w w' : World} {gd n c m M : Nat} {ds : List Dd} {d' : Dd} (h : OSt u w (some ⟨gd, 0, none⟩) n c ds) (hM : M = m + 1) (hc : Chg (· = gd) w w') (ho : w'.ownsRow u.heap.size 74 29 (.slice (some ⟨gd, 0, none⟩) n c) n (flatD ((zD :: ds).set M d'))) (hr : RpAt u d'.t) :
    OSt u w' (some ⟨gd, 0, none⟩) n c (ds.set m d') :=
  ⟨by rw [hM, List.set_cons_succ] at ho; exact ho, by rw [List.length_set]; exact h.len,
    Chg.fresh (S := fun k => k = gd) (h.same.to.trans hc fun _ _ e => e) (fun k e => by subst e; exact (h.own.lt k rfl).1),
    fun d hd => by rcases List.mem_or_eq_of_mem_set hd with hd | rfl; exact h.rep d hd; exact hr⟩
theorem OSt.push {u w w' : World} {A A' : Option Addr} {n c c' : Nat} {ds : List Dd} {d : Dd} (h : OSt u w A n c ds) (hc : Chg (fun k => blkOf A = some k) w w')
    (ho : w'.ownsRow u.heap.size 74 29 (.slice A' (n + 1) c') (n + 1) (flatD (zD :: ds) ++ ddL d)) (hr : RpAt u d.t) : OSt u w' A' (n + 1) c' (ds ++ [d]) :=
  ⟨by rw [← List.cons_append, flatD_snoc]; exact ho, by rw [List.length_append, ← h.len]; rfl,
    Chg.fresh (S := fun k => blkOf A = some k) (h.same.to.trans hc fun _ _ e => e) (fun k e => (h.own.lt k (by rw [ownBlock_slice]; exact e)).1),
    fun d' hd => by
      rcases List.mem_append.1 hd with hd | hd
      · exact h.rep d' hd
      · rw [List.mem_singleton.1 hd]; exact hr⟩
/-- how Ops ends -/
def OpsEnd (u : World) (r : Option (List Dd)) (e : Ending) (w' : World) : Prop :=
  ∃ A n c, e = .returned (.tuple #[.slice A n c, .bool r.isSome]) ∧ Same u w' ∧ ∀ ds, r = some ds → OSt u w' A n c ds
theorem OpsEnd.none_ {u w' : World} {A : Option Addr} {n c : Nat} (h : Same u w') : OpsEnd u none (.returned (.tuple #[.slice A n c, .bool false])) w' := ⟨A, n, c, rfl, h, fun _ e => by cases e⟩
theorem placeP_n {all : List Ev} {i : Nat} {x : Ev} {d : Dd} (h : ¬ (d.ss = x.ss ∧ eqR d.r x.r = true ∧ goodR x.r = true)) : placeP all i x d = none := by
  by_cases hk : x.k < 1 ∨ 5 < x.k
  · exact placeP_k hk
  · exact placeP_c (by omega) fun h' => h h'.2
theorem get_cons {ds : List Dd} {m M : Nat} {d : Dd} (hM : M = m + 1) (h : m < ds.length) (hd : ds[m] = d) (h' : M < (zD :: ds).length) : (zD :: ds)[M] = d := by
  subst hM
  exact hd
/-! one event, case by case -/
section
variable {all : List Ev} {i : Nat} {x : Ev} {st : Int} {ds : List Dd}
theorem tk_a (h : x.st < st) : takeP all i x st ds = none := by unfold takeP; rw [if_pos (.inl h)]
theorem tk_b (h : x.op < 0) : takeP all i x st ds = none := by unfold takeP; rw [if_pos (.inr (.inl h))]
theorem tk_c (h : (ds.length : Int) + 1 < x.op) : takeP all i x st ds = none := by unfold takeP; rw [if_pos (.inr (.inr h))]
theorem tk_d {st : Int} (h1 : st ≤ x.st) (h2 : x.op = 0) : takeP all i x st ds = if x.k = 5 ∧ x.t.e = 8 then some ds else none := by unfold takeP; rw [if_neg (by omega), if_pos h2]
theorem tk_e0 (h1 : st ≤ x.st) (h2 : x.op = (ds.length : Int) + 1) (h3 : ¬ (x.k = 1 ∨ x.k = 5)) : takeP all i x st ds = none := by unfold takeP; rw [if_neg (by omega), if_neg (by omega), if_pos h2, if_neg h3]
theorem tk_e (h1 : st ≤ x.st) (h2 : x.op = (ds.length : Int) + 1) (h3 : x.k = 1 ∨ x.k = 5) : takeP all i x st ds = (placeP all i x (freshD x)).map fun d => ds ++ [d] := by unfold takeP; rw [if_neg (by omega), if_neg (by omega), if_pos h2, if_pos h3]
theorem tk_f {m : Nat} (h1 : st ≤ x.st) (h2 : x.op = (m : Int) + 1) (h3 : m < ds.length) : takeP all i x st ds = (placeP all i x ds[m]).map fun d => ds.set m d := by
  unfold takeP
  rw [if_neg (by omega), if_neg (by omega), if_neg (by omega), show (x.op - 1).toNat = m by omega, show ds.getD m (freshD x) = ds[m] by rw [List.getD_eq_getElem?_getD, List.getElem?_eq_getElem h3]; rfl]
end
end Go.Proofs.YtlimpepdelpogaaGreatDoor
