/-
  history's reader: take: an event of an operation that is there, that is taken. Conditions: 64 events at most; numbers that an int holds.
-/
import Derived.Test.YtlimpepdelpogaaGreatDoorHwH
namespace Go.Proofs.YtlimpepdelpogaaGreatDoor
open Go.RowKit Go.Al
set_option linter.unusedVariables false
set_option maxHeartbeats 8000000
set_option maxRecDepth 100000
theorem take_f5_1 {u0 u1 : World} {g : Nat} {A0 Ad : Option Addr} {N C n c : Nat} {st : Int} {all : List Ev} {ds : List Dd} (i : Nat) (x : Ev) (w : World) (hN : all.length = N) (hN4 : N ≤ 64) (hn : n ≤ 64) (hi : i < N) (hg0 : u0.heap.size ≤ g) (hg1 : g < u1.heap.size) (hs : RSt u0 u1 w g A0 N C st Ad n c ds) (ha : Evs u0 A0 all) (he : RpAt u0 x.t) (hv : ∀ d ∈ ds, InvD all i d) (hx : WfX x) (j : Nat) (h1 : st ≤ x.st) (h2 : x.op = (j : Int) + 1) (hj : j < ds.length) (h3 : 1 ≤ x.k ∧ x.k ≤ 5) (h4 : timeD ds[j] x.k < 0) (h5 : ds[j].ss = x.ss) (h6 : eqR ds[j].r x.r = true) (h7 : goodR x.r = true) (h8 : x.k = 1) :
    Calls Tryz.prog 41 #[.pointer (some ⟨g, 0, none⟩), .int .i64 (i : Int), evV x] w (TakeOk u0 u1 g A0 N C x.st (ds.set j (setD ds[j] x.k i))) := by
  have HSt := hide hs
  obtain ⟨hblk, hown, hlen, hsame, hfrom, hrep⟩ := hs
  have hgw : g < w.heap.size := hblk.lt
  have hne : ¬ g = w.heap.size := by omega
  have hne' : ¬ w.heap.size = g := by omega
  have Hs1 := hide ((Chg.refl (fun _ => False) w).alloc (.cells (evL x).toArray 45))
  have Hb1 := hide (Blk.new w 45 (evL x).toArray)
  have Hk1 := hide (hblk.alloc (.cells (evL x).toArray 45))
  have Hsm := hide hsame
  have Hfr := hide hfrom
  have Hg0 := hide hg0
  have Hg1 := hide hg1
  have Hev := hide ha
  have Hxt := hide he
  have Hin := hide hv
  have HN := hide hN
  have HN4 := hide hN4
  have Hi := hide hi
  have Hreq := hide (fun (w' : World) (b : Nat) (t : TypeId) (h : Blk w' b t (evL x).toArray) => ev_req h)
  have Hrep := hide (fun (w' : World) (b : Nat) (t : TypeId) (h : Blk w' b t (evL x).toArray) => ev_rep h)
  have HLl := hide (evL_length x)
  have HLo := hide (one_evL x)
  have HRl := hide (rqL_length x.r)
  have c0 : (evL x)[0]? = some (.int .i64 x.k) := rfl
  have c1 : (evL x)[1]? = some (.int .i64 x.st) := rfl
  have c2 : (evL x)[2]? = some (.int .i64 x.ss) := rfl
  have c3 : (evL x)[3]? = some (.int .i64 x.op) := rfl
  have c22 : (evL x)[22]? = some (.int .i64 x.t.e) := rfl
  have HF := hide (fun w' => fresh_any x w')
  have hwn : IntKind.i64.wrap ((n : Int) + 1) = (n : Int) + 1 := IntWalk.i64_in _ (by omega)
  unfold evV at HF ⊢
  clear hown hsame hfrom hrep hlen hg0 hg1 ha he hv hblk hN hN4 hi
  have HK5 := hide h3
  obtain ⟨gd, hA, hgb, hgd, hty, hfz, hcl⟩ := own_dd HSt.out.own hj
  subst hA
  obtain ⟨d, hd⟩ : ∃ d, ds[j] = d := ⟨_, rfl⟩
  rw [hd] at hcl
  have Hd := hide hd
  have hjn : j < n := by rw [← HSt.out.len]; exact hj
  have Hj := hide hj
  have hggd : ¬ gd = g := by have := Hg1.out; omega
  obtain ⟨q, hq⟩ : ∃ q, (x.k - 1).toNat = q := ⟨_, rfl⟩
  obtain ⟨tv, htv⟩ : ∃ v, timeD d x.k = v := ⟨_, rfl⟩
  obtain ⟨ds5, hds5⟩ : ∃ v, d.ss = v := ⟨_, rfl⟩
  obtain ⟨er, her⟩ : ∃ v, eqR d.r x.r = v := ⟨_, rfl⟩
  obtain ⟨gr, hgr⟩ : ∃ v, goodR x.r = v := ⟨_, rfl⟩
  have heq := eql_req d.r x.r
  have HG := hide (fun w' => Good_req x.r w')
  rw [her] at heq
  rw [hgr] at HG
  unfold rqV at HG
  have Hfz := hide (fun (w' : World) (h : Chg (· = g) w w') (i : Nat) => (h.frozen (p := ⟨gd, i, none⟩) hgd hggd).trans (hfz i))
  have Hcl := hide (fun (w' : World) (h : Chg (· = g) w w') (i : Nat) (hi : i < 29) => (h.cell (p := ⟨gd, j * 29 + i, none⟩) hgd hggd).trans (hcl i hi))
  have HD : Hid (∀ w', Chg (· = g) w w' → w'.cell? ⟨gd, j * 29 + 5, none⟩ = some (.int .i64 ds5) ∧ w'.cell? ⟨gd, j * 29 + q, none⟩ = some (.int .i64 tv)) := hide fun w' h => ⟨by rw [Hcl.out w' h 5 (by omega), ← hds5]; rfl, by rw [Hcl.out w' h q (by omega), ← hq, ← htv]; exact ddL_time d HK5⟩
  have HDr : Hid (∀ w', Chg (· = g) w w' → w'.rangeAt gd (j * 29 + 6) (rqL d.r)) := hide fun w' h i v hv => by
    have hl : i < 18 := by have := (List.getElem?_eq_some_iff.1 hv).1; rwa [rqL_length] at this
    have e := rangeAt_part' [.int .i64 d.iv, .int .i64 d.tk, .int .i64 d.rp, .int .i64 d.ab, .int .i64 d.rf, .int .i64 d.ss] (rqL d.r) (rpL d.t) i v hv
    rw [show j * 29 + 6 + i = j * 29 + (6 + i) by omega, Hcl.out w' h (6 + i) (by omega)]
    exact e
  have HDl := hide (rqL_length d.r)
  clear hfz hcl hty
  have HSet : Hid (∀ v : Int, ddL (setD d x.k v) = (ddL d).set q (.int .i64 v)) := hide fun v => by rw [← hq]; exact ddL_setD d v HK5.out
  have hq29 : q < 29 := by have := HK5.out; omega
  obtain ⟨k, hk⟩ : ∃ k, x.k = k := ⟨_, rfl⟩
  obtain ⟨xs, hxs⟩ : ∃ k, x.st = k := ⟨_, rfl⟩
  obtain ⟨ss, hss⟩ : ∃ k, x.ss = k := ⟨_, rfl⟩
  obtain ⟨te, hte⟩ : ∃ k, x.t.e = k := ⟨_, rfl⟩
  rw [hk] at c0
  rw [hxs] at c1
  rw [hss] at c2
  rw [hte] at c22
  rw [hxs] at h1
  have HKk : Hid (1 ≤ k ∧ k ≤ 5) := hide (by rw [← hk]; exact HK5.out)
  rw [hk] at hq htv
  have Htv := hide htv
  clear htv
  rw [hd, hk, Htv.out] at h4
  rw [hd, hds5, hss] at h5
  subst h5
  rw [hd, her] at h6
  subst h6
  rw [hgr] at h7
  subst h7
  rw [hk] at h8
  have H8 := hide h8
  clear h8
  have Hk := hide hk
  have Hxs := hide hxs
  have Hss := hide hss
  have Hte := hide hte
  clear hk hxs hss hte
  generalize evL x = L at *
  have Hds5 := hide hds5
  have Her := hide her
  have Hgr := hide hgr
  clear hds5 her hgr h3
  generalize rqL x.r = R at *
  generalize rqL d.r = Rd at *
  rw [h2] at c3
  clear h2
  have hjI : (j : Int) < (n : Int) := by omega
  have hj0 : ¬ (j : Int) < 0 := by omega
  have hjn1 : ¬ j = n := by omega
  have hjn2 : ((j : Int) + 1 == (n : Int) + 1) = false := by simp; omega
  have hjn3 : ¬ (j : Int) + 1 = (n : Int) + 1 := by omega
  have hjn4 : ¬ (j : Int) = (n : Int) := by omega
  have hj5 : (j : Int) + 1 ≤ (n : Int) + 1 := by omega
  have hj6 : (0 : Int) ≤ (j : Int) + 1 := by omega
  have hj7 : ¬ (j : Int) + 1 = 0 := by omega
  have hj8 : ((j : Int) + 1 == 0) = false := by simp; omega
  have hwj : IntKind.i64.wrap ((j : Int) + 1 - 1) = (j : Int) := by rw [Int.add_sub_cancel]; exact IntWalk.i64_in _ (by omega)
  have hwj' : IntKind.i64.wrap (j : Int) = (j : Int) := IntWalk.i64_in _ (by omega)
  go_enter Tryz.func41, Tryz.ntmps41
  go_wp2_with fail
  refine wp_region_mixS 23 (by kernel_rfl) (by kernel_rfl) fun Fin hFin => ?_
  simp only [List.take_succ_cons, List.take_zero]
  iterate 23 (
      (refine mix_lit ?_ ?_ (Chg.refl _) ?_ ?_ ?_ ?_; rotate_left 2
       · intro e w1 hR hF K hK; (have hcb := (Hb1.out.same hR).cell; have hkb := (Hk1.out.same hR).cell); go_simp; (refine hK _ _ (Chg.refl _ _) ?_; rfl)
       · intro e; simp only [puts]; rfl
       · exact Loc.const _ _))
  refine mix_nil fun e wa hR hF => hFin _ _ ?_
  simp only [List.drop_succ_cons, List.drop_zero]
  have HSa := hide (Same.trans Hs1.out hR)
  have Hba := hide (Hb1.out.same hR)
  have Hka := hide (Hk1.out.same hR)
  clear hF hFin hR Hs1 Hb1 Hk1
  have hcb := Hba.out.cell
  have hkb := Hka.out.cell
  have hfk := Hka.out.frozen
  go_wp2_with (first
    | (go_at_call 71; (with_reducible refine (hmust_ok _).mono ?_); rintro e9 w9 ⟨rfl, rfl⟩)
    | fail)
  have Hb2 := hide (Hba.out.far (p := ⟨g, 2, none⟩) hne' (.int .i64 xs))
  have Hk2 : Hid (Blk (wa.setCell ⟨g, 2, none⟩ (.int .i64 xs)) g 108 #[.slice A0 N C, .slice (some ⟨gd, 0, none⟩) n c, .int .i64 xs]) := hide (by have := Hka.out.set_ 2 (.int .i64 xs); simpa using this)
  have HC2 := hide ((Same.to HSa.out : Chg (· = g) w wa).set1 2 (.int .i64 xs))
  clear hcb hkb hfk Hba Hka HSa
  refine wp_region_mixS 9 (by kernel_rfl) (by kernel_rfl) fun Fin hFin => ?_
  simp only [List.take_succ_cons, List.take_zero]
  iterate 9 (
      (refine mix_lit ?_ ?_ (Chg.refl _) ?_ ?_ ?_ ?_; rotate_left 2
       · intro e w1 hR hF K hK; (have hcb := (Hb2.out.same hR).cell; have hkb := (Hk2.out.same hR).cell); go_simp; (refine hK _ _ (Chg.refl _ _) ?_; rfl)
       · intro e; simp only [puts]; rfl
       · exact Loc.const _ _))
  refine mix_nil fun e wb hR hF => hFin _ _ ?_
  simp only [List.drop_succ_cons, List.drop_zero]
  have Hbb := hide (Hb2.out.same hR)
  have Hkb := hide (Hk2.out.same hR)
  have HCb := hide (HC2.out.same hR)
  clear hF hFin hR
  clear Hb2 Hk2 HC2
  go_wp2_with fail
  refine wp_region_mixS 9 (by kernel_rfl) (by kernel_rfl) fun Fin hFin => ?_
  simp only [List.take_succ_cons, List.take_zero]
  iterate 9 (
      (refine mix_lit ?_ ?_ (Chg.refl _) ?_ ?_ ?_ ?_; rotate_left 2
       · intro e w1 hR hF K hK; (have hcb := (Hbb.out.same hR).cell; have hkb := (Hkb.out.same hR).cell); go_simp; (refine hK _ _ (Chg.refl _ _) ?_; rfl)
       · intro e; simp only [puts]; rfl
       · exact Loc.const _ _))
  refine mix_nil fun e wc hR hF => hFin _ _ ?_
  simp only [List.drop_succ_cons, List.drop_zero]
  have Hbc := hide (Hbb.out.same hR)
  have Hkc := hide (Hkb.out.same hR)
  have HCc := hide (HCb.out.same hR)
  clear hF hFin hR
  clear Hbb Hkb HCb
  have hcb := Hbc.out.cell
  have hkb := Hkc.out.cell
  go_wp2_with (first
    | (go_at_call 73; (with_reducible refine (place_ok k _ HKk.out).mono ?_); rintro e9 wd ⟨rfl, hs⟩; have Hsd := hide hs; clear hs)
    | fail)
  have Hbd := hide (Hbc.out.same Hsd.out)
  have Hkd := hide (Hkc.out.same Hsd.out)
  have HCd := hide (HCc.out.same Hsd.out)
  clear Hbc Hkc HCc Hsd hcb hkb
  refine wp_region_mixS 27 (by kernel_rfl) (by kernel_rfl) fun Fin hFin => ?_
  simp only [List.take_succ_cons, List.take_zero]
  iterate 17 (
      (refine mix_lit ?_ ?_ (Chg.refl _) ?_ ?_ ?_ ?_; rotate_left 2
       · intro e w1 hR hF K hK; (have hcb := (Hbd.out.same hR).cell; have hkb := (Hkd.out.same hR).cell; obtain ⟨e5, eq⟩ := HD.out w1 (HCd.out.same hR)); go_simp; (refine hK _ _ (Chg.refl _ _) ?_; rfl)
       · intro e; simp only [puts]; rfl
       · exact Loc.const _ _))
  refine mix_ld Rd ?_ (Chg.refl _) (fun _ => by rfl) 37 _ rfl gd (j * 29 + 6) (fun _ => by rfl) _ (fun w1 hR => HDr.out w1 (HCd.out.same hR)) Tryz.underlying37 rfl (by rw [HDl.out]; exact rowReqH.sz) ?_ ?_
  rotate_left
  · intro e; simp only [puts]; rfl
  iterate 1 (
      (refine mix_lit ?_ ?_ (Chg.refl _) ?_ ?_ ?_ ?_; rotate_left 2
       · intro e w1 hR hF K hK; (have hcb := (Hbd.out.same hR).cell; have hkb := (Hkd.out.same hR).cell; obtain ⟨e5, eq⟩ := HD.out w1 (HCd.out.same hR)); go_simp; (refine hK _ _ (Chg.refl _ _) ?_; rfl)
       · intro e; simp only [puts]; rfl
       · exact Loc.const _ _))
  refine mix_ld R ?_ (Chg.refl _) (fun _ => by rfl) 37 _ rfl w.heap.size 4 (fun _ => by rfl) _ (fun w1 hR => Hreq.out _ _ _ (Hbd.out.same hR)) Tryz.underlying37 rfl (by rw [HRl.out]; exact rowReqH.sz) ?_ ?_
  rotate_left
  · intro e; simp only [puts]; rfl
  iterate 4 (
      (refine mix_lit ?_ ?_ (Chg.refl _) ?_ ?_ ?_ ?_; rotate_left 2
       · intro e w1 hR hF K hK; (have hcb := (Hbd.out.same hR).cell; have hkb := (Hkd.out.same hR).cell; obtain ⟨e5, eq⟩ := HD.out w1 (HCd.out.same hR)); go_simp; (refine hK _ _ (Chg.refl _ _) ?_; rfl)
       · intro e; simp only [puts]; rfl
       · exact Loc.const _ _))
  refine mix_ld R ?_ (Chg.refl _) (fun _ => by rfl) 37 _ rfl w.heap.size 4 (fun _ => by rfl) _ (fun w1 hR => Hreq.out _ _ _ (Hbd.out.same hR)) Tryz.underlying37 rfl (by rw [HRl.out]; exact rowReqH.sz) ?_ ?_
  rotate_left
  · intro e; simp only [puts]; rfl
  iterate 2 (
      (refine mix_lit ?_ ?_ (Chg.refl _) ?_ ?_ ?_ ?_; rotate_left 2
       · intro e w1 hR hF K hK; (have hcb := (Hbd.out.same hR).cell; have hkb := (Hkd.out.same hR).cell; obtain ⟨e5, eq⟩ := HD.out w1 (HCd.out.same hR)); go_simp; (first | (refine hK _ _ (Chg.refl _ _) ?_; rfl) | (go_at_call 49; (with_reducible refine (HG.out _).mono ?_); rintro _ w2 ⟨rfl, hs⟩; refine hK _ _ hs ?_; rfl))
       · intro e; simp only [puts]; rfl
       · exact Loc.const _ _))
  refine mix_nil fun e wr hR hF => hFin _ _ ?_
  simp only [List.drop_succ_cons, List.drop_zero]
  have Hbr := hide (Hbd.out.same hR)
  have Hkr := hide (Hkd.out.same hR)
  have HCr := hide (HCd.out.same hR)
  clear hF hFin hR
  clear Hbd Hkd HCd
  have h8 := H8.out
  have hcb := Hbr.out.cell
  have hkb := Hkr.out.cell
  have hgdw : ¬ gd = w.heap.size := by have := hgd; omega
  have hgdw' : ¬ w.heap.size = gd := by have := hgd; omega
  have hcq := (HD.out wr HCr.out).2
  have hfq := Hfz.out wr HCr.out (j * 29 + q)
  have HSr := hide (HSt.out.move Hg0.out Hg1.out HCr.out Hkr.out)
  have HSs : Hid (RSt u0 u1 (wr.setCell ⟨gd, j * 29 + q, none⟩ (.int .i64 i)) g A0 N C xs (some ⟨gd, 0, none⟩) n c (ds.set j (setD d x.k i))) := hide (HSr.out.put Hg0.out Hg1.out hgb ((Chg.refl _ wr).set1 _ _) (own_setd HSr.out.own Hj.out hq29 (.int .i64 i) (setD d x.k i) (by rw [Hd.out]; exact HSet.out i)) (by rw [setD_t]; exact Hd.out ▸ HSt.out.rep _ (List.getElem_mem Hj.out)))
  go_wp2_with (first
    | (go_at_call 71; (with_reducible refine (hmust_ok _).mono ?_); rintro e9 w9 ⟨rfl, rfl⟩)
    | (go_at_call 71; (with_reducible refine (hmust_bad _).mono ?_); rintro e9 w9 ⟨rfl, rfl⟩)
    | fail)
  refine bodyPost_ret (results_none rfl _ _ _) rfl ?_
  rw [Hxs.out, Hd.out]
  exact ⟨rfl, _, _, _, HSs.out⟩
theorem take_f5_4 {u0 u1 : World} {g : Nat} {A0 Ad : Option Addr} {N C n c : Nat} {st : Int} {all : List Ev} {ds : List Dd} (i : Nat) (x : Ev) (w : World) (hN : all.length = N) (hN4 : N ≤ 64) (hn : n ≤ 64) (hi : i < N) (hg0 : u0.heap.size ≤ g) (hg1 : g < u1.heap.size) (hs : RSt u0 u1 w g A0 N C st Ad n c ds) (ha : Evs u0 A0 all) (he : RpAt u0 x.t) (hv : ∀ d ∈ ds, InvD all i d) (hx : WfX x) (j : Nat) (h1 : st ≤ x.st) (h2 : x.op = (j : Int) + 1) (hj : j < ds.length) (h3 : 1 ≤ x.k ∧ x.k ≤ 5) (h4 : timeD ds[j] x.k < 0) (h5 : ds[j].ss = x.ss) (h6 : eqR ds[j].r x.r = true) (h7 : goodR x.r = true) (h8 : x.k = 4) :
    Calls Tryz.prog 41 #[.pointer (some ⟨g, 0, none⟩), .int .i64 (i : Int), evV x] w (TakeOk u0 u1 g A0 N C x.st (ds.set j (setD ds[j] x.k i))) := by
  have HSt := hide hs
  obtain ⟨hblk, hown, hlen, hsame, hfrom, hrep⟩ := hs
  have hgw : g < w.heap.size := hblk.lt
  have hne : ¬ g = w.heap.size := by omega
  have hne' : ¬ w.heap.size = g := by omega
  have Hs1 := hide ((Chg.refl (fun _ => False) w).alloc (.cells (evL x).toArray 45))
  have Hb1 := hide (Blk.new w 45 (evL x).toArray)
  have Hk1 := hide (hblk.alloc (.cells (evL x).toArray 45))
  have Hsm := hide hsame
  have Hfr := hide hfrom
  have Hg0 := hide hg0
  have Hg1 := hide hg1
  have Hev := hide ha
  have Hxt := hide he
  have Hin := hide hv
  have HN := hide hN
  have HN4 := hide hN4
  have Hi := hide hi
  have Hreq := hide (fun (w' : World) (b : Nat) (t : TypeId) (h : Blk w' b t (evL x).toArray) => ev_req h)
  have Hrep := hide (fun (w' : World) (b : Nat) (t : TypeId) (h : Blk w' b t (evL x).toArray) => ev_rep h)
  have HLl := hide (evL_length x)
  have HLo := hide (one_evL x)
  have HRl := hide (rqL_length x.r)
  have c0 : (evL x)[0]? = some (.int .i64 x.k) := rfl
  have c1 : (evL x)[1]? = some (.int .i64 x.st) := rfl
  have c2 : (evL x)[2]? = some (.int .i64 x.ss) := rfl
  have c3 : (evL x)[3]? = some (.int .i64 x.op) := rfl
  have c22 : (evL x)[22]? = some (.int .i64 x.t.e) := rfl
  have HF := hide (fun w' => fresh_any x w')
  have hwn : IntKind.i64.wrap ((n : Int) + 1) = (n : Int) + 1 := IntWalk.i64_in _ (by omega)
  unfold evV at HF ⊢
  clear hown hsame hfrom hrep hlen hg0 hg1 ha he hv hblk hN hN4 hi
  have HK5 := hide h3
  obtain ⟨gd, hA, hgb, hgd, hty, hfz, hcl⟩ := own_dd HSt.out.own hj
  subst hA
  obtain ⟨d, hd⟩ : ∃ d, ds[j] = d := ⟨_, rfl⟩
  rw [hd] at hcl
  have Hd := hide hd
  have hjn : j < n := by rw [← HSt.out.len]; exact hj
  have Hj := hide hj
  have hggd : ¬ gd = g := by have := Hg1.out; omega
  obtain ⟨q, hq⟩ : ∃ q, (x.k - 1).toNat = q := ⟨_, rfl⟩
  obtain ⟨tv, htv⟩ : ∃ v, timeD d x.k = v := ⟨_, rfl⟩
  obtain ⟨ds5, hds5⟩ : ∃ v, d.ss = v := ⟨_, rfl⟩
  obtain ⟨er, her⟩ : ∃ v, eqR d.r x.r = v := ⟨_, rfl⟩
  obtain ⟨gr, hgr⟩ : ∃ v, goodR x.r = v := ⟨_, rfl⟩
  have heq := eql_req d.r x.r
  have HG := hide (fun w' => Good_req x.r w')
  rw [her] at heq
  rw [hgr] at HG
  unfold rqV at HG
  have Hfz := hide (fun (w' : World) (h : Chg (· = g) w w') (i : Nat) => (h.frozen (p := ⟨gd, i, none⟩) hgd hggd).trans (hfz i))
  have Hcl := hide (fun (w' : World) (h : Chg (· = g) w w') (i : Nat) (hi : i < 29) => (h.cell (p := ⟨gd, j * 29 + i, none⟩) hgd hggd).trans (hcl i hi))
  have HD : Hid (∀ w', Chg (· = g) w w' → w'.cell? ⟨gd, j * 29 + 5, none⟩ = some (.int .i64 ds5) ∧ w'.cell? ⟨gd, j * 29 + q, none⟩ = some (.int .i64 tv)) := hide fun w' h => ⟨by rw [Hcl.out w' h 5 (by omega), ← hds5]; rfl, by rw [Hcl.out w' h q (by omega), ← hq, ← htv]; exact ddL_time d HK5⟩
  have HDr : Hid (∀ w', Chg (· = g) w w' → w'.rangeAt gd (j * 29 + 6) (rqL d.r)) := hide fun w' h i v hv => by
    have hl : i < 18 := by have := (List.getElem?_eq_some_iff.1 hv).1; rwa [rqL_length] at this
    have e := rangeAt_part' [.int .i64 d.iv, .int .i64 d.tk, .int .i64 d.rp, .int .i64 d.ab, .int .i64 d.rf, .int .i64 d.ss] (rqL d.r) (rpL d.t) i v hv
    rw [show j * 29 + 6 + i = j * 29 + (6 + i) by omega, Hcl.out w' h (6 + i) (by omega)]
    exact e
  have HDl := hide (rqL_length d.r)
  clear hfz hcl hty
  have HSet : Hid (∀ v : Int, ddL (setD d x.k v) = (ddL d).set q (.int .i64 v)) := hide fun v => by rw [← hq]; exact ddL_setD d v HK5.out
  have hq29 : q < 29 := by have := HK5.out; omega
  obtain ⟨k, hk⟩ : ∃ k, x.k = k := ⟨_, rfl⟩
  obtain ⟨xs, hxs⟩ : ∃ k, x.st = k := ⟨_, rfl⟩
  obtain ⟨ss, hss⟩ : ∃ k, x.ss = k := ⟨_, rfl⟩
  obtain ⟨te, hte⟩ : ∃ k, x.t.e = k := ⟨_, rfl⟩
  rw [hk] at c0
  rw [hxs] at c1
  rw [hss] at c2
  rw [hte] at c22
  rw [hxs] at h1
  have HKk : Hid (1 ≤ k ∧ k ≤ 5) := hide (by rw [← hk]; exact HK5.out)
  rw [hk] at hq htv
  have Htv := hide htv
  clear htv
  rw [hd, hk, Htv.out] at h4
  rw [hd, hds5, hss] at h5
  subst h5
  rw [hd, her] at h6
  subst h6
  rw [hgr] at h7
  subst h7
  rw [hk] at h8
  have H8 := hide h8
  clear h8
  have Hk := hide hk
  have Hxs := hide hxs
  have Hss := hide hss
  have Hte := hide hte
  clear hk hxs hss hte
  generalize evL x = L at *
  have Hds5 := hide hds5
  have Her := hide her
  have Hgr := hide hgr
  clear hds5 her hgr h3
  generalize rqL x.r = R at *
  generalize rqL d.r = Rd at *
  rw [h2] at c3
  clear h2
  have hjI : (j : Int) < (n : Int) := by omega
  have hj0 : ¬ (j : Int) < 0 := by omega
  have hjn1 : ¬ j = n := by omega
  have hjn2 : ((j : Int) + 1 == (n : Int) + 1) = false := by simp; omega
  have hjn3 : ¬ (j : Int) + 1 = (n : Int) + 1 := by omega
  have hjn4 : ¬ (j : Int) = (n : Int) := by omega
  have hj5 : (j : Int) + 1 ≤ (n : Int) + 1 := by omega
  have hj6 : (0 : Int) ≤ (j : Int) + 1 := by omega
  have hj7 : ¬ (j : Int) + 1 = 0 := by omega
  have hj8 : ((j : Int) + 1 == 0) = false := by simp; omega
  have hwj : IntKind.i64.wrap ((j : Int) + 1 - 1) = (j : Int) := by rw [Int.add_sub_cancel]; exact IntWalk.i64_in _ (by omega)
  have hwj' : IntKind.i64.wrap (j : Int) = (j : Int) := IntWalk.i64_in _ (by omega)
  go_enter Tryz.func41, Tryz.ntmps41
  go_wp2_with fail
  refine wp_region_mixS 23 (by kernel_rfl) (by kernel_rfl) fun Fin hFin => ?_
  simp only [List.take_succ_cons, List.take_zero]
  iterate 23 (
      (refine mix_lit ?_ ?_ (Chg.refl _) ?_ ?_ ?_ ?_; rotate_left 2
       · intro e w1 hR hF K hK; (have hcb := (Hb1.out.same hR).cell; have hkb := (Hk1.out.same hR).cell); go_simp; (refine hK _ _ (Chg.refl _ _) ?_; rfl)
       · intro e; simp only [puts]; rfl
       · exact Loc.const _ _))
  refine mix_nil fun e wa hR hF => hFin _ _ ?_
  simp only [List.drop_succ_cons, List.drop_zero]
  have HSa := hide (Same.trans Hs1.out hR)
  have Hba := hide (Hb1.out.same hR)
  have Hka := hide (Hk1.out.same hR)
  clear hF hFin hR Hs1 Hb1 Hk1
  have hcb := Hba.out.cell
  have hkb := Hka.out.cell
  have hfk := Hka.out.frozen
  go_wp2_with (first
    | (go_at_call 71; (with_reducible refine (hmust_ok _).mono ?_); rintro e9 w9 ⟨rfl, rfl⟩)
    | fail)
  have Hb2 := hide (Hba.out.far (p := ⟨g, 2, none⟩) hne' (.int .i64 xs))
  have Hk2 : Hid (Blk (wa.setCell ⟨g, 2, none⟩ (.int .i64 xs)) g 108 #[.slice A0 N C, .slice (some ⟨gd, 0, none⟩) n c, .int .i64 xs]) := hide (by have := Hka.out.set_ 2 (.int .i64 xs); simpa using this)
  have HC2 := hide ((Same.to HSa.out : Chg (· = g) w wa).set1 2 (.int .i64 xs))
  clear hcb hkb hfk Hba Hka HSa
  refine wp_region_mixS 9 (by kernel_rfl) (by kernel_rfl) fun Fin hFin => ?_
  simp only [List.take_succ_cons, List.take_zero]
  iterate 9 (
      (refine mix_lit ?_ ?_ (Chg.refl _) ?_ ?_ ?_ ?_; rotate_left 2
       · intro e w1 hR hF K hK; (have hcb := (Hb2.out.same hR).cell; have hkb := (Hk2.out.same hR).cell); go_simp; (refine hK _ _ (Chg.refl _ _) ?_; rfl)
       · intro e; simp only [puts]; rfl
       · exact Loc.const _ _))
  refine mix_nil fun e wb hR hF => hFin _ _ ?_
  simp only [List.drop_succ_cons, List.drop_zero]
  have Hbb := hide (Hb2.out.same hR)
  have Hkb := hide (Hk2.out.same hR)
  have HCb := hide (HC2.out.same hR)
  clear hF hFin hR
  clear Hb2 Hk2 HC2
  go_wp2_with fail
  refine wp_region_mixS 9 (by kernel_rfl) (by kernel_rfl) fun Fin hFin => ?_
  simp only [List.take_succ_cons, List.take_zero]
  iterate 9 (
      (refine mix_lit ?_ ?_ (Chg.refl _) ?_ ?_ ?_ ?_; rotate_left 2
       · intro e w1 hR hF K hK; (have hcb := (Hbb.out.same hR).cell; have hkb := (Hkb.out.same hR).cell); go_simp; (refine hK _ _ (Chg.refl _ _) ?_; rfl)
       · intro e; simp only [puts]; rfl
       · exact Loc.const _ _))
  refine mix_nil fun e wc hR hF => hFin _ _ ?_
  simp only [List.drop_succ_cons, List.drop_zero]
  have Hbc := hide (Hbb.out.same hR)
  have Hkc := hide (Hkb.out.same hR)
  have HCc := hide (HCb.out.same hR)
  clear hF hFin hR
  clear Hbb Hkb HCb
  have hcb := Hbc.out.cell
  have hkb := Hkc.out.cell
  go_wp2_with (first
    | (go_at_call 73; (with_reducible refine (place_ok k _ HKk.out).mono ?_); rintro e9 wd ⟨rfl, hs⟩; have Hsd := hide hs; clear hs)
    | fail)
  have Hbd := hide (Hbc.out.same Hsd.out)
  have Hkd := hide (Hkc.out.same Hsd.out)
  have HCd := hide (HCc.out.same Hsd.out)
  clear Hbc Hkc HCc Hsd hcb hkb
  refine wp_region_mixS 27 (by kernel_rfl) (by kernel_rfl) fun Fin hFin => ?_
  simp only [List.take_succ_cons, List.take_zero]
  iterate 17 (
      (refine mix_lit ?_ ?_ (Chg.refl _) ?_ ?_ ?_ ?_; rotate_left 2
       · intro e w1 hR hF K hK; (have hcb := (Hbd.out.same hR).cell; have hkb := (Hkd.out.same hR).cell; obtain ⟨e5, eq⟩ := HD.out w1 (HCd.out.same hR)); go_simp; (refine hK _ _ (Chg.refl _ _) ?_; rfl)
       · intro e; simp only [puts]; rfl
       · exact Loc.const _ _))
  refine mix_ld Rd ?_ (Chg.refl _) (fun _ => by rfl) 37 _ rfl gd (j * 29 + 6) (fun _ => by rfl) _ (fun w1 hR => HDr.out w1 (HCd.out.same hR)) Tryz.underlying37 rfl (by rw [HDl.out]; exact rowReqH.sz) ?_ ?_
  rotate_left
  · intro e; simp only [puts]; rfl
  iterate 1 (
      (refine mix_lit ?_ ?_ (Chg.refl _) ?_ ?_ ?_ ?_; rotate_left 2
       · intro e w1 hR hF K hK; (have hcb := (Hbd.out.same hR).cell; have hkb := (Hkd.out.same hR).cell; obtain ⟨e5, eq⟩ := HD.out w1 (HCd.out.same hR)); go_simp; (refine hK _ _ (Chg.refl _ _) ?_; rfl)
       · intro e; simp only [puts]; rfl
       · exact Loc.const _ _))
  refine mix_ld R ?_ (Chg.refl _) (fun _ => by rfl) 37 _ rfl w.heap.size 4 (fun _ => by rfl) _ (fun w1 hR => Hreq.out _ _ _ (Hbd.out.same hR)) Tryz.underlying37 rfl (by rw [HRl.out]; exact rowReqH.sz) ?_ ?_
  rotate_left
  · intro e; simp only [puts]; rfl
  iterate 4 (
      (refine mix_lit ?_ ?_ (Chg.refl _) ?_ ?_ ?_ ?_; rotate_left 2
       · intro e w1 hR hF K hK; (have hcb := (Hbd.out.same hR).cell; have hkb := (Hkd.out.same hR).cell; obtain ⟨e5, eq⟩ := HD.out w1 (HCd.out.same hR)); go_simp; (refine hK _ _ (Chg.refl _ _) ?_; rfl)
       · intro e; simp only [puts]; rfl
       · exact Loc.const _ _))
  refine mix_ld R ?_ (Chg.refl _) (fun _ => by rfl) 37 _ rfl w.heap.size 4 (fun _ => by rfl) _ (fun w1 hR => Hreq.out _ _ _ (Hbd.out.same hR)) Tryz.underlying37 rfl (by rw [HRl.out]; exact rowReqH.sz) ?_ ?_
  rotate_left
  · intro e; simp only [puts]; rfl
  iterate 2 (
      (refine mix_lit ?_ ?_ (Chg.refl _) ?_ ?_ ?_ ?_; rotate_left 2
       · intro e w1 hR hF K hK; (have hcb := (Hbd.out.same hR).cell; have hkb := (Hkd.out.same hR).cell; obtain ⟨e5, eq⟩ := HD.out w1 (HCd.out.same hR)); go_simp; (first | (refine hK _ _ (Chg.refl _ _) ?_; rfl) | (go_at_call 49; (with_reducible refine (HG.out _).mono ?_); rintro _ w2 ⟨rfl, hs⟩; refine hK _ _ hs ?_; rfl))
       · intro e; simp only [puts]; rfl
       · exact Loc.const _ _))
  refine mix_nil fun e wr hR hF => hFin _ _ ?_
  simp only [List.drop_succ_cons, List.drop_zero]
  have Hbr := hide (Hbd.out.same hR)
  have Hkr := hide (Hkd.out.same hR)
  have HCr := hide (HCd.out.same hR)
  clear hF hFin hR
  clear Hbd Hkd HCd
  have h8 := H8.out
  have hcb := Hbr.out.cell
  have hkb := Hkr.out.cell
  have hgdw : ¬ gd = w.heap.size := by have := hgd; omega
  have hgdw' : ¬ w.heap.size = gd := by have := hgd; omega
  have hcq := (HD.out wr HCr.out).2
  have hfq := Hfz.out wr HCr.out (j * 29 + q)
  have HSr := hide (HSt.out.move Hg0.out Hg1.out HCr.out Hkr.out)
  have HSs : Hid (RSt u0 u1 (wr.setCell ⟨gd, j * 29 + q, none⟩ (.int .i64 i)) g A0 N C xs (some ⟨gd, 0, none⟩) n c (ds.set j (setD d x.k i))) := hide (HSr.out.put Hg0.out Hg1.out hgb ((Chg.refl _ wr).set1 _ _) (own_setd HSr.out.own Hj.out hq29 (.int .i64 i) (setD d x.k i) (by rw [Hd.out]; exact HSet.out i)) (by rw [setD_t]; exact Hd.out ▸ HSt.out.rep _ (List.getElem_mem Hj.out)))
  go_wp2_with (first
    | (go_at_call 71; (with_reducible refine (hmust_ok _).mono ?_); rintro e9 w9 ⟨rfl, rfl⟩)
    | (go_at_call 71; (with_reducible refine (hmust_bad _).mono ?_); rintro e9 w9 ⟨rfl, rfl⟩)
    | fail)
  refine bodyPost_ret (results_none rfl _ _ _) rfl ?_
  rw [Hxs.out, Hd.out]
  exact ⟨rfl, _, _, _, HSs.out⟩
theorem take_f5_5 {u0 u1 : World} {g : Nat} {A0 Ad : Option Addr} {N C n c : Nat} {st : Int} {all : List Ev} {ds : List Dd} (i : Nat) (x : Ev) (w : World) (hN : all.length = N) (hN4 : N ≤ 64) (hn : n ≤ 64) (hi : i < N) (hg0 : u0.heap.size ≤ g) (hg1 : g < u1.heap.size) (hs : RSt u0 u1 w g A0 N C st Ad n c ds) (ha : Evs u0 A0 all) (he : RpAt u0 x.t) (hv : ∀ d ∈ ds, InvD all i d) (hx : WfX x) (j : Nat) (h1 : st ≤ x.st) (h2 : x.op = (j : Int) + 1) (hj : j < ds.length) (h3 : 1 ≤ x.k ∧ x.k ≤ 5) (h4 : timeD ds[j] x.k < 0) (h5 : ds[j].ss = x.ss) (h6 : eqR ds[j].r x.r = true) (h7 : goodR x.r = true) (h8 : x.k = 5) :
    Calls Tryz.prog 41 #[.pointer (some ⟨g, 0, none⟩), .int .i64 (i : Int), evV x] w (TakeOk u0 u1 g A0 N C x.st (ds.set j { setD ds[j] x.k i with t := x.t })) := by
  have HSt := hide hs
  obtain ⟨hblk, hown, hlen, hsame, hfrom, hrep⟩ := hs
  have hgw : g < w.heap.size := hblk.lt
  have hne : ¬ g = w.heap.size := by omega
  have hne' : ¬ w.heap.size = g := by omega
  have Hs1 := hide ((Chg.refl (fun _ => False) w).alloc (.cells (evL x).toArray 45))
  have Hb1 := hide (Blk.new w 45 (evL x).toArray)
  have Hk1 := hide (hblk.alloc (.cells (evL x).toArray 45))
  have Hsm := hide hsame
  have Hfr := hide hfrom
  have Hg0 := hide hg0
  have Hg1 := hide hg1
  have Hev := hide ha
  have Hxt := hide he
  have Hin := hide hv
  have HN := hide hN
  have HN4 := hide hN4
  have Hi := hide hi
  have Hreq := hide (fun (w' : World) (b : Nat) (t : TypeId) (h : Blk w' b t (evL x).toArray) => ev_req h)
  have Hrep := hide (fun (w' : World) (b : Nat) (t : TypeId) (h : Blk w' b t (evL x).toArray) => ev_rep h)
  have HLl := hide (evL_length x)
  have HLo := hide (one_evL x)
  have HRl := hide (rqL_length x.r)
  have c0 : (evL x)[0]? = some (.int .i64 x.k) := rfl
  have c1 : (evL x)[1]? = some (.int .i64 x.st) := rfl
  have c2 : (evL x)[2]? = some (.int .i64 x.ss) := rfl
  have c3 : (evL x)[3]? = some (.int .i64 x.op) := rfl
  have c22 : (evL x)[22]? = some (.int .i64 x.t.e) := rfl
  have HF := hide (fun w' => fresh_any x w')
  have hwn : IntKind.i64.wrap ((n : Int) + 1) = (n : Int) + 1 := IntWalk.i64_in _ (by omega)
  unfold evV at HF ⊢
  clear hown hsame hfrom hrep hlen hg0 hg1 ha he hv hblk hN hN4 hi
  have HK5 := hide h3
  obtain ⟨gd, hA, hgb, hgd, hty, hfz, hcl⟩ := own_dd HSt.out.own hj
  subst hA
  obtain ⟨d, hd⟩ : ∃ d, ds[j] = d := ⟨_, rfl⟩
  rw [hd] at hcl
  have Hd := hide hd
  have hjn : j < n := by rw [← HSt.out.len]; exact hj
  have Hj := hide hj
  have hggd : ¬ gd = g := by have := Hg1.out; omega
  obtain ⟨q, hq⟩ : ∃ q, (x.k - 1).toNat = q := ⟨_, rfl⟩
  obtain ⟨tv, htv⟩ : ∃ v, timeD d x.k = v := ⟨_, rfl⟩
  obtain ⟨ds5, hds5⟩ : ∃ v, d.ss = v := ⟨_, rfl⟩
  obtain ⟨er, her⟩ : ∃ v, eqR d.r x.r = v := ⟨_, rfl⟩
  obtain ⟨gr, hgr⟩ : ∃ v, goodR x.r = v := ⟨_, rfl⟩
  have heq := eql_req d.r x.r
  have HG := hide (fun w' => Good_req x.r w')
  rw [her] at heq
  rw [hgr] at HG
  unfold rqV at HG
  have Hfz := hide (fun (w' : World) (h : Chg (· = g) w w') (i : Nat) => (h.frozen (p := ⟨gd, i, none⟩) hgd hggd).trans (hfz i))
  have Hcl := hide (fun (w' : World) (h : Chg (· = g) w w') (i : Nat) (hi : i < 29) => (h.cell (p := ⟨gd, j * 29 + i, none⟩) hgd hggd).trans (hcl i hi))
  have HD : Hid (∀ w', Chg (· = g) w w' → w'.cell? ⟨gd, j * 29 + 5, none⟩ = some (.int .i64 ds5) ∧ w'.cell? ⟨gd, j * 29 + q, none⟩ = some (.int .i64 tv)) := hide fun w' h => ⟨by rw [Hcl.out w' h 5 (by omega), ← hds5]; rfl, by rw [Hcl.out w' h q (by omega), ← hq, ← htv]; exact ddL_time d HK5⟩
  have HDr : Hid (∀ w', Chg (· = g) w w' → w'.rangeAt gd (j * 29 + 6) (rqL d.r)) := hide fun w' h i v hv => by
    have hl : i < 18 := by have := (List.getElem?_eq_some_iff.1 hv).1; rwa [rqL_length] at this
    have e := rangeAt_part' [.int .i64 d.iv, .int .i64 d.tk, .int .i64 d.rp, .int .i64 d.ab, .int .i64 d.rf, .int .i64 d.ss] (rqL d.r) (rpL d.t) i v hv
    rw [show j * 29 + 6 + i = j * 29 + (6 + i) by omega, Hcl.out w' h (6 + i) (by omega)]
    exact e
  have HDl := hide (rqL_length d.r)
  clear hfz hcl hty
  have HSet : Hid (∀ v : Int, ddL (setD d x.k v) = (ddL d).set q (.int .i64 v)) := hide fun v => by rw [← hq]; exact ddL_setD d v HK5.out
  have hq29 : q < 29 := by have := HK5.out; omega
  obtain ⟨k, hk⟩ : ∃ k, x.k = k := ⟨_, rfl⟩
  obtain ⟨xs, hxs⟩ : ∃ k, x.st = k := ⟨_, rfl⟩
  obtain ⟨ss, hss⟩ : ∃ k, x.ss = k := ⟨_, rfl⟩
  obtain ⟨te, hte⟩ : ∃ k, x.t.e = k := ⟨_, rfl⟩
  rw [hk] at c0
  rw [hxs] at c1
  rw [hss] at c2
  rw [hte] at c22
  rw [hxs] at h1
  have HKk : Hid (1 ≤ k ∧ k ≤ 5) := hide (by rw [← hk]; exact HK5.out)
  rw [hk] at hq htv
  have Htv := hide htv
  clear htv
  rw [hd, hk, Htv.out] at h4
  rw [hd, hds5, hss] at h5
  subst h5
  rw [hd, her] at h6
  subst h6
  rw [hgr] at h7
  subst h7
  rw [hk] at h8
  have H8 := hide h8
  clear h8
  have Hk := hide hk
  have Hxs := hide hxs
  have Hss := hide hss
  have Hte := hide hte
  clear hk hxs hss hte
  generalize evL x = L at *
  have Hds5 := hide hds5
  have Her := hide her
  have Hgr := hide hgr
  clear hds5 her hgr h3
  generalize rqL x.r = R at *
  generalize rqL d.r = Rd at *
  rw [h2] at c3
  clear h2
  have hjI : (j : Int) < (n : Int) := by omega
  have hj0 : ¬ (j : Int) < 0 := by omega
  have hjn1 : ¬ j = n := by omega
  have hjn2 : ((j : Int) + 1 == (n : Int) + 1) = false := by simp; omega
  have hjn3 : ¬ (j : Int) + 1 = (n : Int) + 1 := by omega
  have hjn4 : ¬ (j : Int) = (n : Int) := by omega
  have hj5 : (j : Int) + 1 ≤ (n : Int) + 1 := by omega
  have hj6 : (0 : Int) ≤ (j : Int) + 1 := by omega
  have hj7 : ¬ (j : Int) + 1 = 0 := by omega
  have hj8 : ((j : Int) + 1 == 0) = false := by simp; omega
  have hwj : IntKind.i64.wrap ((j : Int) + 1 - 1) = (j : Int) := by rw [Int.add_sub_cancel]; exact IntWalk.i64_in _ (by omega)
  have hwj' : IntKind.i64.wrap (j : Int) = (j : Int) := IntWalk.i64_in _ (by omega)
  go_enter Tryz.func41, Tryz.ntmps41
  go_wp2_with fail
  refine wp_region_mixS 23 (by kernel_rfl) (by kernel_rfl) fun Fin hFin => ?_
  simp only [List.take_succ_cons, List.take_zero]
  iterate 23 (
      (refine mix_lit ?_ ?_ (Chg.refl _) ?_ ?_ ?_ ?_; rotate_left 2
       · intro e w1 hR hF K hK; (have hcb := (Hb1.out.same hR).cell; have hkb := (Hk1.out.same hR).cell); go_simp; (refine hK _ _ (Chg.refl _ _) ?_; rfl)
       · intro e; simp only [puts]; rfl
       · exact Loc.const _ _))
  refine mix_nil fun e wa hR hF => hFin _ _ ?_
  simp only [List.drop_succ_cons, List.drop_zero]
  have HSa := hide (Same.trans Hs1.out hR)
  have Hba := hide (Hb1.out.same hR)
  have Hka := hide (Hk1.out.same hR)
  clear hF hFin hR Hs1 Hb1 Hk1
  have hcb := Hba.out.cell
  have hkb := Hka.out.cell
  have hfk := Hka.out.frozen
  go_wp2_with (first
    | (go_at_call 71; (with_reducible refine (hmust_ok _).mono ?_); rintro e9 w9 ⟨rfl, rfl⟩)
    | fail)
  have Hb2 := hide (Hba.out.far (p := ⟨g, 2, none⟩) hne' (.int .i64 xs))
  have Hk2 : Hid (Blk (wa.setCell ⟨g, 2, none⟩ (.int .i64 xs)) g 108 #[.slice A0 N C, .slice (some ⟨gd, 0, none⟩) n c, .int .i64 xs]) := hide (by have := Hka.out.set_ 2 (.int .i64 xs); simpa using this)
  have HC2 := hide ((Same.to HSa.out : Chg (· = g) w wa).set1 2 (.int .i64 xs))
  clear hcb hkb hfk Hba Hka HSa
  refine wp_region_mixS 9 (by kernel_rfl) (by kernel_rfl) fun Fin hFin => ?_
  simp only [List.take_succ_cons, List.take_zero]
  iterate 9 (
      (refine mix_lit ?_ ?_ (Chg.refl _) ?_ ?_ ?_ ?_; rotate_left 2
       · intro e w1 hR hF K hK; (have hcb := (Hb2.out.same hR).cell; have hkb := (Hk2.out.same hR).cell); go_simp; (refine hK _ _ (Chg.refl _ _) ?_; rfl)
       · intro e; simp only [puts]; rfl
       · exact Loc.const _ _))
  refine mix_nil fun e wb hR hF => hFin _ _ ?_
  simp only [List.drop_succ_cons, List.drop_zero]
  have Hbb := hide (Hb2.out.same hR)
  have Hkb := hide (Hk2.out.same hR)
  have HCb := hide (HC2.out.same hR)
  clear hF hFin hR
  clear Hb2 Hk2 HC2
  go_wp2_with fail
  refine wp_region_mixS 9 (by kernel_rfl) (by kernel_rfl) fun Fin hFin => ?_
  simp only [List.take_succ_cons, List.take_zero]
  iterate 9 (
      (refine mix_lit ?_ ?_ (Chg.refl _) ?_ ?_ ?_ ?_; rotate_left 2
       · intro e w1 hR hF K hK; (have hcb := (Hbb.out.same hR).cell; have hkb := (Hkb.out.same hR).cell); go_simp; (refine hK _ _ (Chg.refl _ _) ?_; rfl)
       · intro e; simp only [puts]; rfl
       · exact Loc.const _ _))
  refine mix_nil fun e wc hR hF => hFin _ _ ?_
  simp only [List.drop_succ_cons, List.drop_zero]
  have Hbc := hide (Hbb.out.same hR)
  have Hkc := hide (Hkb.out.same hR)
  have HCc := hide (HCb.out.same hR)
  clear hF hFin hR
  clear Hbb Hkb HCb
  have hcb := Hbc.out.cell
  have hkb := Hkc.out.cell
  go_wp2_with (first
    | (go_at_call 73; (with_reducible refine (place_ok k _ HKk.out).mono ?_); rintro e9 wd ⟨rfl, hs⟩; have Hsd := hide hs; clear hs)
    | fail)
  have Hbd := hide (Hbc.out.same Hsd.out)
  have Hkd := hide (Hkc.out.same Hsd.out)
  have HCd := hide (HCc.out.same Hsd.out)
  clear Hbc Hkc HCc Hsd hcb hkb
  refine wp_region_mixS 27 (by kernel_rfl) (by kernel_rfl) fun Fin hFin => ?_
  simp only [List.take_succ_cons, List.take_zero]
  iterate 17 (
      (refine mix_lit ?_ ?_ (Chg.refl _) ?_ ?_ ?_ ?_; rotate_left 2
       · intro e w1 hR hF K hK; (have hcb := (Hbd.out.same hR).cell; have hkb := (Hkd.out.same hR).cell; obtain ⟨e5, eq⟩ := HD.out w1 (HCd.out.same hR)); go_simp; (refine hK _ _ (Chg.refl _ _) ?_; rfl)
       · intro e; simp only [puts]; rfl
       · exact Loc.const _ _))
  refine mix_ld Rd ?_ (Chg.refl _) (fun _ => by rfl) 37 _ rfl gd (j * 29 + 6) (fun _ => by rfl) _ (fun w1 hR => HDr.out w1 (HCd.out.same hR)) Tryz.underlying37 rfl (by rw [HDl.out]; exact rowReqH.sz) ?_ ?_
  rotate_left
  · intro e; simp only [puts]; rfl
  iterate 1 (
      (refine mix_lit ?_ ?_ (Chg.refl _) ?_ ?_ ?_ ?_; rotate_left 2
       · intro e w1 hR hF K hK; (have hcb := (Hbd.out.same hR).cell; have hkb := (Hkd.out.same hR).cell; obtain ⟨e5, eq⟩ := HD.out w1 (HCd.out.same hR)); go_simp; (refine hK _ _ (Chg.refl _ _) ?_; rfl)
       · intro e; simp only [puts]; rfl
       · exact Loc.const _ _))
  refine mix_ld R ?_ (Chg.refl _) (fun _ => by rfl) 37 _ rfl w.heap.size 4 (fun _ => by rfl) _ (fun w1 hR => Hreq.out _ _ _ (Hbd.out.same hR)) Tryz.underlying37 rfl (by rw [HRl.out]; exact rowReqH.sz) ?_ ?_
  rotate_left
  · intro e; simp only [puts]; rfl
  iterate 4 (
      (refine mix_lit ?_ ?_ (Chg.refl _) ?_ ?_ ?_ ?_; rotate_left 2
       · intro e w1 hR hF K hK; (have hcb := (Hbd.out.same hR).cell; have hkb := (Hkd.out.same hR).cell; obtain ⟨e5, eq⟩ := HD.out w1 (HCd.out.same hR)); go_simp; (refine hK _ _ (Chg.refl _ _) ?_; rfl)
       · intro e; simp only [puts]; rfl
       · exact Loc.const _ _))
  refine mix_ld R ?_ (Chg.refl _) (fun _ => by rfl) 37 _ rfl w.heap.size 4 (fun _ => by rfl) _ (fun w1 hR => Hreq.out _ _ _ (Hbd.out.same hR)) Tryz.underlying37 rfl (by rw [HRl.out]; exact rowReqH.sz) ?_ ?_
  rotate_left
  · intro e; simp only [puts]; rfl
  iterate 2 (
      (refine mix_lit ?_ ?_ (Chg.refl _) ?_ ?_ ?_ ?_; rotate_left 2
       · intro e w1 hR hF K hK; (have hcb := (Hbd.out.same hR).cell; have hkb := (Hkd.out.same hR).cell; obtain ⟨e5, eq⟩ := HD.out w1 (HCd.out.same hR)); go_simp; (first | (refine hK _ _ (Chg.refl _ _) ?_; rfl) | (go_at_call 49; (with_reducible refine (HG.out _).mono ?_); rintro _ w2 ⟨rfl, hs⟩; refine hK _ _ hs ?_; rfl))
       · intro e; simp only [puts]; rfl
       · exact Loc.const _ _))
  refine mix_nil fun e wr hR hF => hFin _ _ ?_
  simp only [List.drop_succ_cons, List.drop_zero]
  have Hbr := hide (Hbd.out.same hR)
  have Hkr := hide (Hkd.out.same hR)
  have HCr := hide (HCd.out.same hR)
  clear hF hFin hR
  clear Hbd Hkd HCd
  have h8 := H8.out
  have hcb := Hbr.out.cell
  have hkb := Hkr.out.cell
  have hgdw : ¬ gd = w.heap.size := by have := hgd; omega
  have hgdw' : ¬ w.heap.size = gd := by have := hgd; omega
  have hcq := (HD.out wr HCr.out).2
  have hfq := Hfz.out wr HCr.out (j * 29 + q)
  have HSr := hide (HSt.out.move Hg0.out Hg1.out HCr.out Hkr.out)
  have HSs : Hid (RSt u0 u1 (wr.setCell ⟨gd, j * 29 + q, none⟩ (.int .i64 i)) g A0 N C xs (some ⟨gd, 0, none⟩) n c (ds.set j (setD d x.k i))) := hide (HSr.out.put Hg0.out Hg1.out hgb ((Chg.refl _ wr).set1 _ _) (own_setd HSr.out.own Hj.out hq29 (.int .i64 i) (setD d x.k i) (by rw [Hd.out]; exact HSet.out i)) (by rw [setD_t]; exact Hd.out ▸ HSt.out.rep _ (List.getElem_mem Hj.out)))
  have HTl := hide (rpL_length x.t)
  have HTo := hide (one_rpL x.t)
  have HTr := hide (Hrep.out _ _ _ (Hbr.out.far (p := ⟨gd, j * 29 + q, none⟩) hgdw' (.int .i64 i)))
  have HTh := hide (own_there HSs.out.own (j := j) (by rw [List.length_set]; exact Hj.out))
  have HTe := hide (RSt.put (d' := { setD d x.k i with t := x.t }) HSs.out Hg0.out Hg1.out hgb (Chg.setCells (S := fun k => k = gd) (rpL x.t) (j * 29 + 24) (Chg.refl _ (wr.setCell ⟨gd, j * 29 + q, none⟩ (.int .i64 i))) (.inl rfl)) (by have := own_tellC HSs.out.own (j := j) (by rw [List.length_set]; exact Hj.out) x.t; rw [List.getElem_set_self] at this; exact this) Hxt.out)
  generalize rpL x.t = T at *
  go_wp2_with (first
    | (go_at_call 71; (with_reducible refine (hmust_ok _).mono ?_); rintro e9 w9 ⟨rfl, rfl⟩)
    | (go_at_call 71; (with_reducible refine (hmust_bad _).mono ?_); rintro e9 w9 ⟨rfl, rfl⟩)
    | ((with_reducible refine ldR 43 w.heap.size 22 5 T rowRep HTl.out HTr.out ?_ ?_ ?_); rfl; rfl)
    | ((with_reducible refine stM 43 gd (j * 29 + 24) 5 T rowRep HTl.out HTh.out HTo.out ?_ ?_ ?_); rfl; rfl)
    | fail)
  refine bodyPost_ret (results_none rfl _ _ _) rfl ?_
  rw [Hxs.out, Hd.out]
  have hfin := HTe.out
  rw [List.set_set] at hfin
  exact ⟨rfl, _, _, _, hfin⟩
end Go.Proofs.YtlimpepdelpogaaGreatDoor
