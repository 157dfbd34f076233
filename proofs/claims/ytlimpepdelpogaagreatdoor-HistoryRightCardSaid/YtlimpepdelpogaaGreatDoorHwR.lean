/-
  The document's Ops: all events gone over. Conditions: 64 events at most; numbers that an int holds. No conditions.
  The document's Right: which events are right. Conditions: 64 events at most; numbers that an int holds.
-/
import Derived.Test.YtlimpepdelpogaaGreatDoorHwOe1
import Derived.Test.YtlimpepdelpogaaGreatDoorHwOe5
import Derived.Test.YtlimpepdelpogaaGreatDoorHwOk4
import Derived.Test.YtlimpepdelpogaaGreatDoorHwOk2
import Derived.Test.YtlimpepdelpogaaGreatDoorHwOk3

import Derived.Test.YtlimpepdelpogaaGreatDoorHwOk5
import Derived.Test.YtlimpepdelpogaaGreatDoorRfG
import Derived.Test.YtlimpepdelpogaaGreatDoorHyA
/-! HwOp -/
namespace Go.Proofs.YtlimpepdelpogaaGreatDoor
open Go.RowKit Go.Al
set_option linter.unusedVariables false
theorem ops_any {A0 : Option Addr} {N C : Nat} {all : List Ev} (w : World) (hN : all.length = N) (hN4 : N ≤ 64) (ha : Evs w A0 all) :
    Calls Tryz.prog 16 #[.slice A0 N C] w (OpsEnd w (goP all 0 0 [] all)) :=
  opsSkel.2.2.2 (hide opsE1) (hide opsE5) (hide (opsSkelF.2.2.2.2.2 (hide opsK1) (hide opsK2) (hide opsK3) (hide opsK4) (hide opsK5))) A0 N C all w hN hN4 ha
end Go.Proofs.YtlimpepdelpogaaGreatDoor
/-! HwR -/
namespace Go.Proofs.YtlimpepdelpogaaGreatDoor
open Go.RowKit Go.Al
set_option linter.unusedVariables false
set_option maxHeartbeats 16000000
set_option maxRecDepth 100000
/-- how the document's Right ends -/
def RefEnd (w : World) (most : Int) (b : Bool) (r : Option (List P3 × List P3)) (e : Ending) (w' : World) : Prop :=
  ∃ g AP cp AS cs p s, e = .returned (.tuple #[.pointer (some ⟨g, 0, none⟩), .bool b]) ∧ SetR w' g AP cp AS cs most p s ∧ Same w w' ∧ w.heap.size ≤ g ∧ (b = true → r = some (p, s))
theorem all_takeR {ds : List Dd} {i : Nat} (h : i < ds.length) : (ds.take (i + 1)).all soundR = ((ds.take i).all soundR && soundR ds[i]) := by
  rw [List.take_succ_eq_append_getElem h, List.all_append]
  simp
theorem rright_none {A0 : Option Addr} {N C : Nat} {all : List Ev} (most : Int) (w : World) (hN : all.length = N) (hN4 : N ≤ 64) (ha : Evs w A0 all) (hG : goP all 0 0 [] all = none) :
    Calls Tryz.prog 6 #[.slice A0 N C, .int .i64 most] w (RefEnd w most false (replP most all [] [])) := by
  have hN' : N ≤ 9223372036854775807 := by omega
  have HN := hide hN
  have HN4 := hide hN4
  have Ha := hide ha
  have hs1 : Same w (w.alloc (.cells #[.slice none 0 0, .slice none 0 0, .int .i64 most] 67)) := (Chg.refl _ w).alloc _
  have hset : SetR (w.alloc (.cells #[.slice none 0 0, .slice none 0 0, .int .i64 most] 67)) w.heap.size none 0 none 0 most [] [] := ⟨Blk.new w _ _, ⟨Rd.nil _ _, rfl, by simp, by simp, fun b hb => by simp [blkOf] at hb⟩, ⟨Rd.nil _ _, rfl, by simp, by simp, fun b hb => by simp [blkOf] at hb⟩, by simp [blkOf], by simp [blkOf]⟩
  have HO := hide (ops_any (C := C) (w.alloc (.cells #[.slice none 0 0, .slice none 0 0, .int .i64 most] 67)) hN hN4 (ha.same hs1))
  have Hs1 := hide hs1
  have Hset := hide hset
  have Hz := hide (show (w.alloc (.cells #[.slice none 0 0, .slice none 0 0, .int .i64 most] 67)).heap.size = w.heap.size + 1 by simp)
  unfold OpsEnd at HO
  clear hN ha hN4 hs1 hset
  rw [hG] at HO
  clear hG
  go_enter Tryz.func6, Tryz.ntmps6
  go_wp2_with (first
    | (go_at_call 16; (refine HO.out.mono ?_); rintro e w2 ⟨A, n, c, rfl, hs2, hds⟩; have Hs2 := hide (Same.trans Hs1.out hs2); have HSt := hide (Hset.out.same hs2); have Hds := hide hds; clear hs2 hds)
    | fail)
  go_ret2
  exact ⟨w.heap.size, none, 0, none, 0, [], [], rfl, HSt.out, Hs2.out, Nat.le_refl _, fun h => by cases h⟩
/-- an event's kind, and request, in a row of events -/
theorem evs_req {w : World} {A : Option Addr} {l : List Ev} (h : Evs w A l) {i : Nat} (hi : i < l.length) : ∃ b o, A = some ⟨b, o, none⟩ ∧ b < w.heap.size ∧ w.cell? ⟨b, o + i * 27, none⟩ = some (.int .i64 l[i].k) ∧ w.rangeAt b (o + i * 27 + 4) (rqL l[i].r) := by
  obtain ⟨b, o, e, hb, hr, hp⟩ := h.at_ hi
  refine ⟨b, o, e, hb, hr 0 _ rfl, fun j v hv => ?_⟩
  have := hr (4 + j) v (by
    have e : evL l[i] = [.int .i64 l[i].k, .int .i64 l[i].st, .int .i64 l[i].ss, .int .i64 l[i].op] ++ (rqL l[i].r ++ rpL l[i].t) := rfl
    rw [e, List.getElem?_append_right (by simp), List.getElem?_append_left (by simp; exact (List.getElem?_eq_some_iff.1 hv).1)]
    rw [show 4 + j - [Value.int .i64 l[i].k, .int .i64 l[i].st, .int .i64 l[i].ss, .int .i64 l[i].op].length = j by simp]
    exact hv)
  rw [← Nat.add_assoc] at this
  exact this
theorem rright_some {A0 : Option Addr} {N C : Nat} {all : List Ev} {ds : List Dd} (most : Int) (w : World) (hN : all.length = N) (hN4 : N ≤ 64) (ha : Evs w A0 all) (hx : True) (hG : goP all 0 0 [] all = some ds) :
    Calls Tryz.prog 6 #[.slice A0 N C, .int .i64 most] w (RefEnd w most ((replP most all [] []).isSome && ds.all soundR) (replP most all [] [])) := by
  have hN' : N ≤ 9223372036854775807 := by omega
  have HN := hide hN
  have HN4 := hide hN4
  have Ha := hide ha
  have hs1 : Same w (w.alloc (.cells #[.slice none 0 0, .slice none 0 0, .int .i64 most] 67)) := (Chg.refl _ w).alloc _
  have hset : SetR (w.alloc (.cells #[.slice none 0 0, .slice none 0 0, .int .i64 most] 67)) w.heap.size none 0 none 0 most [] [] := ⟨Blk.new w _ _, ⟨Rd.nil _ _, rfl, by simp, by simp, fun b hb => by simp [blkOf] at hb⟩, ⟨Rd.nil _ _, rfl, by simp, by simp, fun b hb => by simp [blkOf] at hb⟩, by simp [blkOf], by simp [blkOf]⟩
  have HO := hide (ops_any (C := C) (w.alloc (.cells #[.slice none 0 0, .slice none 0 0, .int .i64 most] 67)) hN hN4 (ha.same hs1))
  have Hs1 := hide hs1
  have Hset := hide hset
  have Hz := hide (show (w.alloc (.cells #[.slice none 0 0, .slice none 0 0, .int .i64 most] 67)).heap.size = w.heap.size + 1 by simp)
  unfold OpsEnd at HO
  clear hN ha hN4 hs1 hset
  rw [hG] at HO
  have Hgood := hide (go_good all hG)
  have Hdl := hide (show ds.length ≤ 64 by have := goP_len all hG; have := HN.out; have := HN4.out; simp at *; omega)
  have HC := hide hx
  clear hG hx
  go_enter Tryz.func6, Tryz.ntmps6
  go_wp2_with (first
    | (go_at_call 16; (refine HO.out.mono ?_); rintro e w2 ⟨A, n, c, rfl, hs2, hds⟩; have Hs2 := hide (Same.trans Hs1.out hs2); have HSt := hide (Hset.out.same hs2); have Hds := hide hds; clear hs2 hds)
    | fail)
  have HOs := hide (Hds.out ds rfl)
  clear Hds
  go_loopg [9] N (fun kk v9 wr => ∃ (i : Nat) (p s : List P3) (AP : Option Addr) (cp : Nat) (AS : Option Addr) (cs : Nat), i ≤ N ∧ kk = N - i ∧ v9 = .int .i64 i ∧ SetR wr w.heap.size AP cp AS cs most p s ∧ Chg (fun b => b = w.heap.size) w2 wr ∧ Srt p ∧ Srt s ∧ p.length ≤ i ∧ s.length ≤ i ∧ replP most (all.drop i) p s = replP most all [] [])
  case atStart => exact ⟨0, [], [], none, 0, none, 0, Nat.zero_le _, rfl, rfl, HSt.out, Chg.refl _ _, List.Pairwise.nil, List.Pairwise.nil, Nat.le_refl _, Nat.le_refl _, rfl⟩
  case round =>
    obtain ⟨i, p, s, AP, cp, AS, cs, hi, hk, rfl, hset, hcw, hsp, hss, hpl, hsl, hrep⟩ := hrel
    have Hk := hide hk
    have Hrep := hide hrep
    clear hk hrep
    by_cases hlt : i < N
    · have hil : i < all.length := by rw [HN.out]; exact hlt
      have HSame : Hid (∀ w', Chg (fun b => b = w.heap.size) wr w' → Same w w') := hide fun w' h => Chg.fresh (S := fun b => b = w.heap.size) ((Hs2.out.to.trans hcw fun _ _ e => e).trans h fun _ _ e => e) (fun k e => by omega)
      obtain ⟨b, off, hA, hbl, hk0, hrq⟩ := evs_req Ha.out hil
      subst hA
      obtain ⟨b2, off2, hA2, _, hrp, hpt⟩ := evs_rep Ha.out hil
      obtain ⟨e1, e2⟩ : b = b2 ∧ off = off2 := by cases hA2; exact ⟨rfl, rfl⟩
      subst e1
      subst e2
      clear hA2
      obtain ⟨x, hxx⟩ : ∃ x, all[i] = x := ⟨_, rfl⟩
      have hstep := Hrep.out
      rw [replP_step hil] at hstep
      have hgood := Hgood.out _ (List.getElem_mem hil)
      rw [hxx] at hk0 hrq hrp hpt hstep hgood
      have HK0 := hide (fun (w' : World) (h : Chg (fun b => b = w.heap.size) wr w') => ((HSame.out w' h).cell (p := ⟨b, off + i * 27, none⟩) hbl (fun f => f)).trans hk0)
      have HRow := hide (fun (w' : World) (h : Chg (fun b => b = w.heap.size) wr w') => rangeAt_same hrq (HSame.out w' h))
      have HRow2 := hide (fun (w' : World) (h : Chg (fun b => b = w.heap.size) wr w') => rangeAt_same hrp (HSame.out w' h))
      have HXt := hide (fun (w' : World) (h : Chg (fun b => b = w.heap.size) wr w') => hpt.same (HSame.out w' h))
      have HRl := hide (rqL_length x.r)
      have HTl := hide (rpL_length x.t)
      have Hstep := hide hstep
      have hiI : (i : Int) < (N : Int) := by omega
      obtain ⟨k, hkx⟩ : ∃ k, x.k = k := ⟨_, rfl⟩
      rw [hkx] at HK0 hgood
      have Hkx := hide hkx
      obtain ⟨sv, hsv⟩ : ∃ v, sameA (doesA x.r p s most) x.t.ans = v := ⟨_, rfl⟩
      obtain ⟨P', hP⟩ : ∃ P', doesP x.r p s most = P' := ⟨_, rfl⟩
      obtain ⟨S', hS⟩ : ∃ S', doesS x.r p s most = S' := ⟨_, rfl⟩
      have HDo0 := hide (fun (w' : World) (h : Same wr w') (hg : goodR x.r = true) => doesRf_any x.r w' (hset.same h) (by have := HN4.out; omega) (by have := HN4.out; omega) hsp hss hg)
      have HRS := hide (fun (w' : World) (A : Option Addr) (c : Nat) (v : Value) (hv : v = .agg (rpL ((doesA x.r p s most).at_ A c)).toArray) (hx : RpAt w' x.t) (h : RpAt w' ((doesA x.r p s most).at_ A c)) => (by
        subst hv
        have h5 := rsameRf_any ((doesA x.r p s most).at_ A c) x.t w' h hx
        unfold rpV at h5
        rw [ans_at', hsv] at h5
        exact h5 : Calls Tryz.prog 17 #[v, .agg (rpL x.t).toArray] w' fun e w'' => e = .returned (.bool sv) ∧ Same w' w''))
      have Hl1 := hide (does_len x.r p s most)
      have Hsr := hide (does_srt x.r most hsp hss)
      rw [hP, hS] at HDo0 Hl1 Hsr
      unfold DoesREnd rqV rpV at HDo0
      have HP := hide hP
      have HS' := hide hS
      have Hsv := hide hsv
      have Hset := hide hset
      have Hcw := hide hcw
      have Hsp := hide hsp
      have Hss := hide hss
      have HSame2 := HSame
      clear hk0 hrq hrp hpt hstep hxx hkx hsv hP hS hset hcw hsp hss
      generalize rqL x.r = R at *
      generalize rpL x.t = T at *
      by_cases hk2 : k = 2
      · have hgd : goodR x.r = true := hgood hk2
        have HDo := hide (fun (w' : World) (h : Same wr w') => HDo0.out w' h hgd)
        have Hgd := hide hgd
        have Hk2 := hide hk2
        clear HDo0 hgd hgood
        subst hk2
        cases sv
        · go_wp2_with fail
          refine My.wp_region_mixF (RelQ 13 (fun b => b = w.heap.size)) (EffQ 13 (fun b => b = w.heap.size)) 22 (fun k i a b hik he => RelQ.of hik he) (fun k w => Chg.refl _ w) (fun k a b c h1 h2 => RelQ.trans h1 h2) (fun k => RelQ.drew _) (by kernel_rfl) (by kernel_rfl) fun Fin hFin => ?_
          simp only [List.take_succ_cons, List.take_zero]
          iterate 12 (
              (refine My.mix_lit ?_ ?_ (Chg.refl _) ?_ ?_ ?_ ?_
               rotate_left; rotate_left
               · intro e w1 hR hF K hK; (have hk0 := HK0.out w1 (hR.mono fun _ _ h => h.2)); go_simp; (refine hK _ _ (Chg.refl _ _) ?_; rfl)
               · intro e; simp only [puts]; rfl
               · exact Loc.const _ _))
          refine My.mix_ld R ?_ (Chg.refl _) (fun _ => by rfl) 37 _ rfl b (off + i * 27 + 4) (fun _ => by rfl) _ (fun w1 hR => HRow.out w1 (hR.mono fun _ _ h => h.2)) Tryz.underlying37 rfl (by rw [HRl.out]; exact rowReqH.sz) ?_ ?_
          rotate_left
          · intro e; simp only [puts]; rfl
          refine My.mix_let (fun _ v w' => ∃ A c, v = .agg (rpL ((doesA x.r p s most).at_ A c)).toArray ∧ RpAt w' ((doesA x.r p s most).at_ A c) ∧ ∃ AP cp AS cs, SetR w' w.heap.size AP cp AS cs most P' S') ?_ (by exact Loc.const _ _) ?_ ?_ ?_ ?_ ?_
          rotate_left
          · rintro i' hi _ e u w1 w2 hs ⟨A, c, h1, h2, AP, cp, AS, cs, h3⟩; have hs' : Same w1 w2 := hs.mono fun _ _ h => hi h.1; exact ⟨A, c, h1, h2.same hs', AP, cp, AS, cs, h3.same hs'⟩
          · intro e; rfl
          · intro e w1 hR hF K hK
            go_simp
            go_at_call 18
            have hF2 := HDo.out w1 (hR.mono fun _ _ h => h.1 rfl)
            (with_reducible refine hF2.mono ?_)
            rintro _ w4 ⟨A, c, rfl, h1, h2, h3⟩
            exact hK _ _ _ (h3.mono fun _ _ h => ⟨rfl, h⟩) ⟨A, c, rfl, h1, h2⟩ rfl
          · intro e; simp only [puts]; rfl
          iterate 4 (
              (refine My.mix_lit ?_ ?_ (Chg.refl _) ?_ ?_ ?_ ?_
               rotate_left; rotate_left
               · intro e w1 hR hF K hK; (have hk0 := HK0.out w1 (hR.mono fun _ _ h => h.2)); go_simp; (refine hK _ _ (Chg.refl _ _) ?_; rfl)
               · intro e; simp only [puts]; rfl
               · exact Loc.const _ _))
          refine My.mix_ld T ?_ (Chg.refl _) (fun _ => by rfl) 43 _ rfl b (off + i * 27 + 22) (fun _ => by rfl) _ (fun w1 hR => HRow2.out w1 (hR.mono fun _ _ h => h.2)) Tryz.underlying43 rfl (by rw [HTl.out]; exact rowRep.sz) ?_ ?_
          rotate_left
          · intro e; simp only [puts]; rfl
          iterate 3 (
              (refine My.mix_lit ?_ ?_ (Chg.refl _) ?_ ?_ ?_ ?_
               rotate_left; rotate_left
               · intro e w1 hR hF K hK; (have hk0 := HK0.out w1 (hR.mono fun _ _ h => h.2)); go_simp; (first | (refine hK _ _ (Chg.refl _ _) ?_; rfl) | (go_at_call 17; obtain ⟨A9, c9, e9, hr9, hs9⟩ := (show ∃ A c, e 13 = .agg (rpL ((doesA x.r p s most).at_ A c)).toArray ∧ RpAt w1 ((doesA x.r p s most).at_ A c) ∧ ∃ AP cp AS cs, SetR w1 w.heap.size AP cp AS cs most P' S' from hF 13 (by kernel_rfl)); have hC := HRS.out w1 A9 c9 (e 13) e9 (HXt.out w1 (hR.mono fun _ _ h => h.2)) hr9; (with_reducible refine hC.mono ?_); rintro _ w2 ⟨rfl, hs⟩; refine hK _ _ (EffQ.of_same hs) ?_; rfl))
               · intro e; simp only [puts]; rfl
               · exact Loc.const _ _))
          refine My.mix_nil fun e wq hR hF => hFin _ _ ?_
          simp only [List.drop_succ_cons, List.drop_zero]
          obtain ⟨A9, c9, e9, hr9, hs9⟩ := (show ∃ A c, e 13 = .agg (rpL ((doesA x.r p s most).at_ A c)).toArray ∧ RpAt wq ((doesA x.r p s most).at_ A c) ∧ ∃ AP cp AS cs, SetR wq w.heap.size AP cp AS cs most P' S' from hF 13 (by decide))
          have HSet := hide hs9
          have HRq := hide (show Chg (fun b => b = w.heap.size) wr wq from hR.mono fun _ _ h => h.2)
          clear hF hFin hR e9 hr9 hs9
          go_wp2_with fail
          go_ret2
          have hnone : replP most all [] [] = none := by rw [← Hstep.out, if_pos Hkx.out, Hgd.out, Hsv.out]; rfl
          rw [hnone]
          obtain ⟨AP2, cp2, AS2, cs2, h9⟩ := HSet.out
          exact ⟨w.heap.size, _, _, _, _, _, _, rfl, h9, HSame.out _ HRq.out, Nat.le_refl _, fun h => by cases h⟩
        · go_wp2_with fail
          refine My.wp_region_mixF (RelQ 13 (fun b => b = w.heap.size)) (EffQ 13 (fun b => b = w.heap.size)) 22 (fun k i a b hik he => RelQ.of hik he) (fun k w => Chg.refl _ w) (fun k a b c h1 h2 => RelQ.trans h1 h2) (fun k => RelQ.drew _) (by kernel_rfl) (by kernel_rfl) fun Fin hFin => ?_
          simp only [List.take_succ_cons, List.take_zero]
          iterate 12 (
              (refine My.mix_lit ?_ ?_ (Chg.refl _) ?_ ?_ ?_ ?_
               rotate_left; rotate_left
               · intro e w1 hR hF K hK; (have hk0 := HK0.out w1 (hR.mono fun _ _ h => h.2)); go_simp; (refine hK _ _ (Chg.refl _ _) ?_; rfl)
               · intro e; simp only [puts]; rfl
               · exact Loc.const _ _))
          refine My.mix_ld R ?_ (Chg.refl _) (fun _ => by rfl) 37 _ rfl b (off + i * 27 + 4) (fun _ => by rfl) _ (fun w1 hR => HRow.out w1 (hR.mono fun _ _ h => h.2)) Tryz.underlying37 rfl (by rw [HRl.out]; exact rowReqH.sz) ?_ ?_
          rotate_left
          · intro e; simp only [puts]; rfl
          refine My.mix_let (fun _ v w' => ∃ A c, v = .agg (rpL ((doesA x.r p s most).at_ A c)).toArray ∧ RpAt w' ((doesA x.r p s most).at_ A c) ∧ ∃ AP cp AS cs, SetR w' w.heap.size AP cp AS cs most P' S') ?_ (by exact Loc.const _ _) ?_ ?_ ?_ ?_ ?_
          rotate_left
          · rintro i' hi _ e u w1 w2 hs ⟨A, c, h1, h2, AP, cp, AS, cs, h3⟩; have hs' : Same w1 w2 := hs.mono fun _ _ h => hi h.1; exact ⟨A, c, h1, h2.same hs', AP, cp, AS, cs, h3.same hs'⟩
          · intro e; rfl
          · intro e w1 hR hF K hK
            go_simp
            go_at_call 18
            have hF2 := HDo.out w1 (hR.mono fun _ _ h => h.1 rfl)
            (with_reducible refine hF2.mono ?_)
            rintro _ w4 ⟨A, c, rfl, h1, h2, h3⟩
            exact hK _ _ _ (h3.mono fun _ _ h => ⟨rfl, h⟩) ⟨A, c, rfl, h1, h2⟩ rfl
          · intro e; simp only [puts]; rfl
          iterate 4 (
              (refine My.mix_lit ?_ ?_ (Chg.refl _) ?_ ?_ ?_ ?_
               rotate_left; rotate_left
               · intro e w1 hR hF K hK; (have hk0 := HK0.out w1 (hR.mono fun _ _ h => h.2)); go_simp; (refine hK _ _ (Chg.refl _ _) ?_; rfl)
               · intro e; simp only [puts]; rfl
               · exact Loc.const _ _))
          refine My.mix_ld T ?_ (Chg.refl _) (fun _ => by rfl) 43 _ rfl b (off + i * 27 + 22) (fun _ => by rfl) _ (fun w1 hR => HRow2.out w1 (hR.mono fun _ _ h => h.2)) Tryz.underlying43 rfl (by rw [HTl.out]; exact rowRep.sz) ?_ ?_
          rotate_left
          · intro e; simp only [puts]; rfl
          iterate 3 (
              (refine My.mix_lit ?_ ?_ (Chg.refl _) ?_ ?_ ?_ ?_
               rotate_left; rotate_left
               · intro e w1 hR hF K hK; (have hk0 := HK0.out w1 (hR.mono fun _ _ h => h.2)); go_simp; (first | (refine hK _ _ (Chg.refl _ _) ?_; rfl) | (go_at_call 17; obtain ⟨A9, c9, e9, hr9, hs9⟩ := (show ∃ A c, e 13 = .agg (rpL ((doesA x.r p s most).at_ A c)).toArray ∧ RpAt w1 ((doesA x.r p s most).at_ A c) ∧ ∃ AP cp AS cs, SetR w1 w.heap.size AP cp AS cs most P' S' from hF 13 (by kernel_rfl)); have hC := HRS.out w1 A9 c9 (e 13) e9 (HXt.out w1 (hR.mono fun _ _ h => h.2)) hr9; (with_reducible refine hC.mono ?_); rintro _ w2 ⟨rfl, hs⟩; refine hK _ _ (EffQ.of_same hs) ?_; rfl))
               · intro e; simp only [puts]; rfl
               · exact Loc.const _ _))
          refine My.mix_nil fun e wq hR hF => hFin _ _ ?_
          simp only [List.drop_succ_cons, List.drop_zero]
          obtain ⟨A9, c9, e9, hr9, hs9⟩ := (show ∃ A c, e 13 = .agg (rpL ((doesA x.r p s most).at_ A c)).toArray ∧ RpAt wq ((doesA x.r p s most).at_ A c) ∧ ∃ AP cp AS cs, SetR wq w.heap.size AP cp AS cs most P' S' from hF 13 (by decide))
          have HSet := hide hs9
          have HRq := hide (show Chg (fun b => b = w.heap.size) wr wq from hR.mono fun _ _ h => h.2)
          clear hF hFin hR e9 hr9 hs9
          go_wp2_with fail
          go_roundg (N - (i + 1))
          case measure => have := Hk.out; omega
          case rel =>
            obtain ⟨AP2, cp2, AS2, cs2, h9⟩ := HSet.out
            have hN44 := HN4.out
            have hl1 := Hl1.out
            exact ⟨i + 1, _, _, AP2, cp2, AS2, cs2, by omega, rfl, (by first | go_num | exact congrArg (Value.int .i64) (wrapN (by omega))), h9, Hcw.out.trans HRq.out fun _ _ e => e, Hsr.out.1, Hsr.out.2, by omega, by omega, by rw [← Hstep.out, if_pos Hkx.out, Hgd.out, Hsv.out, HP.out, HS'.out]; rfl⟩
      · have hk2' : (k == 2) = false := by simpa using hk2
        have Hk2 := hide hk2
        clear HDo0 hgood
        go_wp2_with fail
        refine wp_region_mixS 22 (by kernel_rfl) (by kernel_rfl) fun Fin hFin => ?_
        simp only [List.take_succ_cons, List.take_zero]
        iterate 22 (
            (refine mix_lit ?_ ?_ (Chg.refl _) ?_ ?_ ?_ ?_; rotate_left 2
             · intro e w1 hR hF K hK; (have hk0 := HK0.out w1 hR.to); go_simp; (refine hK _ _ (Chg.refl _ _) ?_; rfl)
             · intro e; simp only [puts]; rfl
             · exact Loc.const _ _))
        refine mix_nil fun e wq hR hF => hFin _ _ ?_
        simp only [List.drop_succ_cons, List.drop_zero]
        have HRq0 := hide hR
        have HRq := hide (show Chg (fun b => b = w.heap.size) wr wq from hR.to)
        clear hF hFin hR
        go_wp2_with fail
        go_roundg (N - (i + 1))
        case measure => have := Hk.out; omega
        case rel =>
          have hN44 := HN4.out
          have hR9 : Same wr wq := HRq0.out
          exact ⟨i + 1, p, s, AP, cp, AS, cs, by omega, rfl, (by first | go_num | exact congrArg (Value.int .i64) (wrapN (by omega))), Hset.out.same hR9, Hcw.out.trans HRq.out fun _ _ e => e, Hsp.out, Hss.out, by omega, by omega, by rw [← Hstep.out, if_neg (fun e => Hk2.out (Hkx.out.symm.trans e))]⟩
    · have hie : i = N := by omega
      subst hie
      go_wp2_with fail
      have hN44 := HN4.out
      have hend : replP most all [] [] = some (p, s) := by rw [← Hrep.out, replP_end (by rw [HN.out]; exact Nat.le_refl _)]
      have Hend := hide hend
      have Hcw := hide hcw
      have HSx := hide hset
      clear hend hcw hset Hrep Hk hsp hss hpl hsl
      generalize wr = wo at *
      have hnl : n ≤ 9223372036854775807 := by have := HOs.out.len; have := Hdl.out; omega
      go_loopg [10, 11] (n - 1) (fun kk v10 v11 wr => ∃ i : Nat, 1 ≤ i ∧ i ≤ n ∧ kk = n - i ∧ v10 = .int .i64 i ∧ Same wo wr ∧ (ds.take (i - 1)).all soundR = true)
      case atStart => exact ⟨1, Nat.le_refl _, by have := HOs.out.len; omega, rfl, rfl, Chg.refl _ _, by simp⟩
      case round =>
        obtain ⟨i, hi1, hi, hk, rfl, hsw, hall⟩ := hrel
        have Hk := hide hk
        have Hsw := hide hsw
        have Hall := hide hall
        have Hi1 := hide hi1
        clear hk hsw hall
        by_cases hlt : i < n
        · have hil : i < (zD :: ds).length := by rw [List.length_cons]; have := HOs.out.len; omega
          obtain ⟨gd, hA, hgd, hra⟩ := own_rng (own_chg (own_chg HOs.out.own Hcw.out (fun k hk e => by have := (HOs.out.own.lt k hk).1; have := Hz.out; omega)) Hsw.out fun _ _ f => f) hil
          subst hA
          have hid : i - 1 < ds.length := by have := HOs.out.len; omega
          obtain ⟨d, hd⟩ : ∃ d, ds[i - 1] = d := ⟨_, rfl⟩
          have hd' : (zD :: ds)[i] = d := by rw [← hd]; exact get_cons (m := i - 1) (by omega) hid rfl hil
          rw [hd'] at hra
          have hat := all_takeR hid
          rw [Hall.out, hd, show i - 1 + 1 = i by omega] at hat
          have Hra := hide hra
          have HLc := hide (RowL.mk (ddL_length d) (one_ddL d))
          have hiI : (i : Int) < (n : Int) := by omega
          obtain ⟨v, hv⟩ : ∃ v, soundR d = v := ⟨_, rfl⟩
          rw [hv] at hat
          have Hat := hide hat
          have Hmem := hide (show d ∈ ds by rw [← hd]; exact List.getElem_mem hid)
          have Hsd := hide hv
          unfold soundR at hv
          have c0 : (ddL d)[0]? = some (.int .i64 d.iv) := rfl
          have c1 : (ddL d)[1]? = some (.int .i64 d.tk) := rfl
          have c2 : (ddL d)[2]? = some (.int .i64 d.rp) := rfl
          have c3 : (ddL d)[3]? = some (.int .i64 d.ab) := rfl
          have c4 : (ddL d)[4]? = some (.int .i64 d.rf) := rfl
          have c6 : (ddL d)[6]? = some (.int .i64 d.r.k) := rfl
          have c24 : (ddL d)[24]? = some (.int .i64 d.t.e) := rfl
          obtain ⟨iv, hiv⟩ : ∃ k, d.iv = k := ⟨_, rfl⟩
          rw [hiv] at c0 hv
          clear hiv
          obtain ⟨tk, htk⟩ : ∃ k, d.tk = k := ⟨_, rfl⟩
          rw [htk] at c1 hv
          clear htk
          obtain ⟨rp, hrp⟩ : ∃ k, d.rp = k := ⟨_, rfl⟩
          rw [hrp] at c2 hv
          clear hrp
          obtain ⟨ab, hab⟩ : ∃ k, d.ab = k := ⟨_, rfl⟩
          rw [hab] at c3 hv
          clear hab
          obtain ⟨rf, hrf⟩ : ∃ k, d.rf = k := ⟨_, rfl⟩
          rw [hrf] at c4 hv
          clear hrf
          obtain ⟨rk, hrk⟩ : ∃ k, d.r.k = k := ⟨_, rfl⟩
          rw [hrk] at c6 hv
          clear hrk
          obtain ⟨te, hte⟩ : ∃ k, d.t.e = k := ⟨_, rfl⟩
          rw [hte] at c24 hv
          clear hte
          have HV := hide hv
          clear hra hd hd' hat hv
          generalize ddL d = L at *
          by_cases q7 : te = 7
          · subst q7
            go_wp2_with (first
              | ((with_reducible refine ldR 74 gd (i * 29) 29 L rowOp HLc.out.len Hra.out ?_ ?_ ?_); rfl; rfl)
              | ((with_reducible refine stNg 74 29 L 74 _ rowOp HLc.out.len ?_ HLc.out.one ?_ ?_ ?_); rfl; rfl; rfl; intro w3 hs3 hz3 hb3; have Hs3 := hide hs3; have hkb3 := hb3.cell; clear hs3 hz3 hb3)
              | fail)
            all_goals
              first
                | (go_ret2
                   have hf : v = false := (by
                     rw [← HV.out]
                     (repeat (first | rw [if_pos (by omega)] | rw [if_neg (by omega)]))
                     all_goals first | rfl | (simp; omega) | (simp; rename_i h0; simp at h0; omega) | (have hte : te ≠ 7 := (by intro hq; subst hq; rename_i h0; rcases h0 with (((h1 | h1) | h1) | h1) | h1 <;> first | omega | (simp at h1)); simp [hte]; done) | (simp [*]; done))
                   have hall2 : ds.all soundR = false := List.all_eq_false.2 ⟨d, Hmem.out, by rw [Hsd.out, hf]; decide⟩
                   rw [Hend.out, hall2]
                   exact ⟨w.heap.size, _, _, _, _, p, s, rfl, HSx.out.same (Same.trans Hsw.out Hs3.out), Chg.fresh (S := fun b => b = w.heap.size) (((Hs2.out.to.trans Hcw.out fun _ _ e => e).same Hsw.out).same Hs3.out) (fun k e => by omega), Nat.le_refl _, fun h => by cases h⟩)
                | (go_roundg (n - (i + 1))
                   case measure => have := Hk.out; omega
                   case rel =>
                     have hf : v = true := (by
                       rw [← HV.out]
                       (repeat (first | rw [if_pos (by omega)] | rw [if_neg (by omega)]))
                       all_goals first | rfl | (simp; omega) | (simp; rename_i h0; simp at h0; omega) | (have hte : te ≠ 7 := (by intro hq; subst hq; rename_i h0; rcases h0 with (((h1 | h1) | h1) | h1) | h1 <;> first | omega | (simp at h1)); simp [hte]; done) | (simp [*]; done))
                     have hn44 := HOs.out.len
                     have hd44 := Hdl.out
                     exact ⟨i + 1, by omega, by omega, rfl, (by first | go_num | exact congrArg (Value.int .i64) (wrapN (by omega))), Same.trans Hsw.out Hs3.out, by rw [show i + 1 - 1 = i by omega, Hat.out, hf]; rfl⟩)
                | fail
          · have q7b : (te == 7) = false := by simpa using q7
            have q7c : (te != 7) = true := by simpa using q7
            by_cases q0 : te = 0
            · subst q0
              go_wp2_with (first
                | ((with_reducible refine ldR 74 gd (i * 29) 29 L rowOp HLc.out.len Hra.out ?_ ?_ ?_); rfl; rfl)
                | ((with_reducible refine stNg 74 29 L 74 _ rowOp HLc.out.len ?_ HLc.out.one ?_ ?_ ?_); rfl; rfl; rfl; intro w3 hs3 hz3 hb3; have Hs3 := hide hs3; have hkb3 := hb3.cell; clear hs3 hz3 hb3)
                | fail)
              all_goals
                first
                  | (go_ret2
                     have hf : v = false := (by
                       rw [← HV.out]
                       (repeat (first | rw [if_pos (by omega)] | rw [if_neg (by omega)]))
                       all_goals first | rfl | (simp; omega) | (simp; rename_i h0; simp at h0; omega) | (have hte : te ≠ 7 := (by intro hq; subst hq; rename_i h0; rcases h0 with (((h1 | h1) | h1) | h1) | h1 <;> first | omega | (simp at h1)); simp [hte]; done) | (simp [*]; done))
                     have hall2 : ds.all soundR = false := List.all_eq_false.2 ⟨d, Hmem.out, by rw [Hsd.out, hf]; decide⟩
                     rw [Hend.out, hall2]
                     exact ⟨w.heap.size, _, _, _, _, p, s, rfl, HSx.out.same (Same.trans Hsw.out Hs3.out), Chg.fresh (S := fun b => b = w.heap.size) (((Hs2.out.to.trans Hcw.out fun _ _ e => e).same Hsw.out).same Hs3.out) (fun k e => by omega), Nat.le_refl _, fun h => by cases h⟩)
                  | (go_roundg (n - (i + 1))
                     case measure => have := Hk.out; omega
                     case rel =>
                       have hf : v = true := (by
                         rw [← HV.out]
                         (repeat (first | rw [if_pos (by omega)] | rw [if_neg (by omega)]))
                         all_goals first | rfl | (simp; omega) | (simp; rename_i h0; simp at h0; omega) | (have hte : te ≠ 7 := (by intro hq; subst hq; rename_i h0; rcases h0 with (((h1 | h1) | h1) | h1) | h1 <;> first | omega | (simp at h1)); simp [hte]; done) | (simp [*]; done))
                       have hn44 := HOs.out.len
                       have hd44 := Hdl.out
                       exact ⟨i + 1, by omega, by omega, rfl, (by first | go_num | exact congrArg (Value.int .i64) (wrapN (by omega))), Same.trans Hsw.out Hs3.out, by rw [show i + 1 - 1 = i by omega, Hat.out, hf]; rfl⟩)
                  | fail
            · have q0b : (te == 0) = false := by simpa using q0
              have q0c : (te != 0) = true := by simpa using q0
              go_wp2_with (first
                | ((with_reducible refine ldR 74 gd (i * 29) 29 L rowOp HLc.out.len Hra.out ?_ ?_ ?_); rfl; rfl)
                | ((with_reducible refine stNg 74 29 L 74 _ rowOp HLc.out.len ?_ HLc.out.one ?_ ?_ ?_); rfl; rfl; rfl; intro w3 hs3 hz3 hb3; have Hs3 := hide hs3; have hkb3 := hb3.cell; clear hs3 hz3 hb3)
                | fail)
              all_goals
                first
                  | (go_ret2
                     have hf : v = false := (by
                       rw [← HV.out]
                       (repeat (first | rw [if_pos (by omega)] | rw [if_neg (by omega)]))
                       all_goals first | rfl | (simp; omega) | (simp; rename_i h0; simp at h0; omega) | (have hte : te ≠ 7 := (by intro hq; subst hq; rename_i h0; rcases h0 with (((h1 | h1) | h1) | h1) | h1 <;> first | omega | (simp at h1)); simp [hte]; done) | (simp [*]; done))
                     have hall2 : ds.all soundR = false := List.all_eq_false.2 ⟨d, Hmem.out, by rw [Hsd.out, hf]; decide⟩
                     rw [Hend.out, hall2]
                     exact ⟨w.heap.size, _, _, _, _, p, s, rfl, HSx.out.same (Same.trans Hsw.out Hs3.out), Chg.fresh (S := fun b => b = w.heap.size) (((Hs2.out.to.trans Hcw.out fun _ _ e => e).same Hsw.out).same Hs3.out) (fun k e => by omega), Nat.le_refl _, fun h => by cases h⟩)
                  | (go_roundg (n - (i + 1))
                     case measure => have := Hk.out; omega
                     case rel =>
                       have hf : v = true := (by
                         rw [← HV.out]
                         (repeat (first | rw [if_pos (by omega)] | rw [if_neg (by omega)]))
                         all_goals first | rfl | (simp; omega) | (simp; rename_i h0; simp at h0; omega) | (have hte : te ≠ 7 := (by intro hq; subst hq; rename_i h0; rcases h0 with (((h1 | h1) | h1) | h1) | h1 <;> first | omega | (simp at h1)); simp [hte]; done) | (simp [*]; done))
                       have hn44 := HOs.out.len
                       have hd44 := Hdl.out
                       exact ⟨i + 1, by omega, by omega, rfl, (by first | go_num | exact congrArg (Value.int .i64) (wrapN (by omega))), Same.trans Hsw.out Hs3.out, by rw [show i + 1 - 1 = i by omega, Hat.out, hf]; rfl⟩)
                  | fail
        · have hie : i = n := by omega
          subst hie
          go_wp2_with fail
          go_ret2
          have hl4 := HOs.out.len
          have hall2 : ds.all soundR = true := by
            have h := Hall.out
            rw [List.take_of_length_le (by omega)] at h
            exact h
          rw [Hend.out, hall2]
          exact ⟨w.heap.size, _, _, _, _, p, s, rfl, HSx.out.same Hsw.out, Chg.fresh (S := fun b => b = w.heap.size) ((Hs2.out.to.trans Hcw.out fun _ _ e => e).same Hsw.out) (fun k e => by omega), Nat.le_refl _, fun _ => rfl⟩
end Go.Proofs.YtlimpepdelpogaaGreatDoor
