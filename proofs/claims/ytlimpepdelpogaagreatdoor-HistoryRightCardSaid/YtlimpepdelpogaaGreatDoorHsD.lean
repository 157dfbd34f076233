/-
  history.Does: the reply to any request, and what it leaves. Conditions: at most 1048576 entries; numbers that an int holds.
  history.does at queries; history.Does. Conditions: at most 1048576 entries; numbers that an int holds.
  history.does and history.Does in one contract each; linear.tells. Conditions: at most 1048576 entries; numbers that an int holds.
-/
import Derived.Test.YtlimpepdelpogaaGreatDoorHsA
import Derived.Test.YtlimpepdelpogaaGreatDoorQyF

import Derived.Test.YtlimpepdelpogaaGreatDoorTdE
import Derived.Test.YtlimpepdelpogaaGreatDoorMy
import Derived.Test.YtlimpepdelpogaaGreatDoorLnB
import Derived.Deep.Cut
/-! HsB -/
namespace Go.Proofs.YtlimpepdelpogaaGreatDoor
open Go.RowKit Go.Al
set_option linter.unusedVariables false
set_option maxHeartbeats 8000000
set_option maxRecDepth 100000
/-- how a request ends that is done to a table -/
def DoesEnd (w : World) (g pm sm : Nat) (most : Int) (p s : List P3) (r : Rq) (e : Ending) (w' : World) : Prop :=
  ∃ A c, e = .returned (.tuple #[rpV ((doesA r p s most).at_ A c), .int .i64 (doesE r)]) ∧ RpAt w' ((doesA r p s most).at_ A c) ∧ Tab w' g pm sm most (doesP r p s most) (doesS r p s most) ∧ Chg (fun k => k = pm ∨ k = sm) w w' ∧ ∀ b, blkOf A = some b → w.heap.size ≤ b
theorem lst_len (q : Qy) (p s : List P3) (hp : p.length ≤ 1048576) (hs : s.length ≤ 1048576) : (lstOf q p s).length ≤ 1048576 := by
  unfold lstOf idsOf
  split
  · exact Nat.zero_le _
  · split
    · rw [List.length_map]; exact Nat.le_trans (List.length_filter_le _ _) hp
    · rw [List.length_map]; exact Nat.le_trans (List.length_filter_le _ _) hs
theorem Tab.lens {w : World} {g pm sm : Nat} {most : Int} {p s : List P3} (h : Tab w g pm sm most p s) : p.length ≤ 1048576 ∧ s.length ≤ 1048576 := by
  have := h.room; have := h.bound; omega
theorem does_bad {g pm sm : Nat} {most : Int} {p s : List P3} (r : Rq) (w : World) (h : Tab w g pm sm most p s) (hg : goodR r = false) :
    Calls Tryz.prog 29 #[.pointer (some ⟨g, 0, none⟩), rqV r] w (DoesEnd w g pm sm most p s r) := by
  have hs1 := ((Chg.refl (fun _ => False) w).alloc (.cells (rqL r).toArray 37)).alloc (.cells #[.int .i64 0, .bool false, .bool false, .int .i64 0, .slice none 0 0] 43)
  have hb := Blk.new (w.alloc (.cells (rqL r).toArray 37)) 43 #[.int .i64 0, .bool false, .bool false, .int .i64 0, .slice none 0 0]
  simp only [World.size_alloc] at hb
  have Hs1 := hide hs1
  have Hb := hide hb
  have HT := hide h
  have HG := hide (Good_req r)
  rw [hg] at HG
  have HR : Hid (∀ w', Same w w' → DoesEnd w g pm sm most p s r (.returned (.tuple #[.agg #[.int .i64 0, .bool false, .bool false, .int .i64 0, .slice none 0 0], .int .i64 8])) w') := hide fun w' hs => by
    have e1 : doesA r p s most = code 0 := by unfold doesA; rw [hg]; rfl
    have e2 : doesE r = 8 := by unfold doesE; rw [hg]; rfl
    have e3 : doesP r p s most = p := by unfold doesP; rw [hg]; rfl
    have e4 : doesS r p s most = s := by unfold doesS; rw [hg]; rfl
    unfold DoesEnd
    rw [e1, e2, e3, e4]
    exact ⟨none, 0, rfl, ⟨Rd.nil _ _, Nat.le_refl _, Nat.zero_le _⟩, h.same hs, hs.to, fun b hb => by simp [blkOf] at hb⟩
  clear hs1 hb hg h
  obtain ⟨k, ⟨ck, ⟨p1, p2, p3⟩, ⟨s1, s2, s3⟩⟩, ⟨qk, a, b, c, d, e, f, q7, x, y⟩⟩ := r
  unfold rqV at HG ⊢
  simp only [rqL, cgL, qL, List.cons_append, List.nil_append] at Hs1 Hb HG HR ⊢
  go_enter Tryz.func29, Tryz.ntmps29
  go_wp2_with (go_at_call 49; have hF := HG.out; refine (hF _).mono ?_; rintro e' w2 ⟨rfl, hs⟩; have Hs2 := hide hs; have Hb2 := hide (Hb.out.same hs); have hkb := (Hb.out.same hs).cell; have hfb := (Hb.out.same hs).frozen; clear hs hF)
  have hb3 := Blk.put5 Hb2.out (.int .i64 0) (.bool false) (.bool false) (.int .i64 0) (.slice none 0 0)
  refine bodyPost_ret (results_cell2 rfl rfl hb3 Tryz.underlying43 rfl (by kernel_rfl)) rfl ?_
  have hfin := HR.out _ (Chg.put5 (g := w.heap.size + 1) (Hs1.out.same Hs2.out) (.inr (by omega)) (.int .i64 0) (.bool false) (.bool false) (.int .i64 0) (.slice none 0 0))
  exact hfin
theorem does_change {g pm sm : Nat} {most : Int} {p s : List P3} (r : Rq) (w : World) (h : Tab w g pm sm most p s) (hw : WfC r.c) (hg : goodR r = true) (hk : r.k = 1) :
    Calls Tryz.prog 29 #[.pointer (some ⟨g, 0, none⟩), rqV r] w (DoesEnd w g pm sm most p s r) := by
  have hs1 := ((Chg.refl (fun _ => False) w).alloc (.cells (rqL r).toArray 37)).alloc (.cells #[.int .i64 0, .bool false, .bool false, .int .i64 0, .slice none 0 0] 43)
  have hb := Blk.new (w.alloc (.cells (rqL r).toArray 37)) 43 #[.int .i64 0, .bool false, .bool false, .int .i64 0, .slice none 0 0]
  have hq := (Blk.new w 37 (rqL r).toArray).alloc (.cells #[.int .i64 0, .bool false, .bool false, .int .i64 0, .slice none 0 0] 43)
  simp only [World.size_alloc] at hb
  have Hs1 := hide hs1
  have Hb := hide hb
  have Hq := hide hq
  have HT := hide h
  have Hwc := hide hw
  have Hlt := hide (And.intro h.blk.lt (And.intro h.mp.lt h.ms.lt))
  have HG := hide (Good_req r)
  rw [hg] at HG
  have HR : Hid (∀ w', Tab w' g pm sm most (doP' p s most r.c) (doS' p s most r.c) → Chg (fun k => k = pm ∨ k = sm) w w' → DoesEnd w g pm sm most p s r (.returned (.tuple #[.agg #[.int .i64 (mayE p s most r.c), .bool false, .bool false, .int .i64 0, .slice none 0 0], .int .i64 0])) w') := hide fun w' ht hc => by
    have e1 : doesA r p s most = code (mayE p s most r.c) := by unfold doesA; rw [hg, if_pos rfl, if_pos hk]
    have e2 : doesE r = 0 := by unfold doesE; rw [hg]; rfl
    have e3 : doesP r p s most = doP' p s most r.c := by unfold doesP; rw [hg, hk]; rfl
    have e4 : doesS r p s most = doS' p s most r.c := by unfold doesS; rw [hg, hk]; rfl
    unfold DoesEnd
    rw [e1, e2, e3, e4]
    exact ⟨none, 0, rfl, ⟨Rd.nil _ _, Nat.le_refl _, Nat.zero_le _⟩, ht, hc, fun b hb => by simp [blkOf] at hb⟩
  have HD := hide (fun w' (hs : Same w w') => do_any r.c w' (h.same hs) hw)
  clear hs1 hb hq hg h hw
  obtain ⟨k, cc, ⟨qk, a, b, c, d, e, f, q7, x, y⟩⟩ := r
  simp only at hk HD HR Hwc
  subst hk
  obtain ⟨bk, hbk⟩ : ∃ bk, doB p s most cc = bk := ⟨_, rfl⟩
  obtain ⟨m, hm⟩ : ∃ m, mayE p s most cc = m := ⟨_, rfl⟩
  rw [hbk, hm] at HD
  rw [hm] at HR
  clear hbk hm
  obtain ⟨bk, ⟨b1, b2, b3⟩, ⟨b4, b5, b6⟩⟩ := bk
  obtain ⟨ck, ⟨p1, p2, p3⟩, ⟨s1, s2, s3⟩⟩ := cc
  unfold rqV at HG ⊢
  unfold cgV at HD
  simp only [rqL, cgL, qL, List.cons_append, List.nil_append] at Hs1 Hb Hq HG HD ⊢
  go_enter Tryz.func29, Tryz.ntmps29
  go_wp2_with (first
    | (go_at_call 49; have hF := HG.out; refine (hF _).mono ?_; rintro e' w2 ⟨rfl, hs⟩; have Hs2 : Hid (Same w w2) := hide (Hs1.out.same hs); have Hb2 := hide (Hb.out.same hs); have hkq := (Hq.out.same hs).cell; clear hs hF)
    | (go_at_call 50; have hF := HD.out _ Hs2.out; refine hF.mono ?_; rintro e' w3 ⟨rfl, ht3, hc3⟩; have HT3 := hide ht3; have HC3 := hide hc3; have Hb3 := hide (Hb2.out.chg hc3 (fun e => by have := Hlt.out; omega)); have hz3 := hc3.size; have hl3 := Hb3.out.lt; clear ht3 hc3 hF)
    | (go_at_call 51; refine (changed_any _ _).mono ?_; rintro e' w4 ⟨rfl, hs⟩; have Hs4 : Hid (Same w3 w4) := hide (Same.trans ((Chg.refl _ w3).alloc _) hs); have hkb := ((Hb3.out.alloc _).same hs).cell; have hfb := ((Hb3.out.alloc _).same hs).frozen; clear hs))
  have hb5 := Blk.put5 (Hb3.out.same Hs4.out) (.int .i64 m) (.bool false) (.bool false) (.int .i64 0) (.slice none 0 0)
  have hput := Chg.put5 (S := fun k => k = w.heap.size + 1) (g := w.heap.size + 1) (Chg.refl _ w4) (.inl rfl) (.int .i64 m) (.bool false) (.bool false) (.int .i64 0) (.slice none 0 0)
  have hlt := Hlt.out
  refine bodyPost_ret (results_cell2 rfl rfl hb5 Tryz.underlying43 rfl (by kernel_rfl)) rfl ?_
  have hfin := (HR.out _ ((HT3.out.same Hs4.out).chg hput (by omega) (by omega) (by omega)) (Chg.put5 ((Chg.of_same Hs2.out HC3.out).same Hs4.out) (.inr (by omega)) _ _ _ _ _))
  exact hfin
end Go.Proofs.YtlimpepdelpogaaGreatDoor
/-! HsC -/
namespace Go.Proofs.YtlimpepdelpogaaGreatDoor
open Go.RowKit Go.Al
set_option linter.unusedVariables false
set_option maxHeartbeats 32000000
set_option maxRecDepth 100000
theorem infoReq0 : (Tryz.prog.info? 37).map (·.size) = some 18 := by kernel_rfl
theorem does_ask_bad {g pm sm : Nat} {most : Int} {p s : List P3} (r : Rq) (w : World) (h : Tab w g pm sm most p s) (hg : goodR r = true) (hk : ¬ r.k = 1) (hc : ¬ checkE r.q = 0) :
    Calls Tryz.prog 29 #[.pointer (some ⟨g, 0, none⟩), rqV r] w (DoesEnd w g pm sm most p s r) := by
  have hk2 : r.k = 2 := by
    unfold goodR at hg
    simp [hk] at hg
    exact hg.1
  have hs1 := ((Chg.refl (fun _ => False) w).alloc (.cells (rqL r).toArray 37)).alloc (.cells #[.int .i64 0, .bool false, .bool false, .int .i64 0, .slice none 0 0] 43)
  have hb := Blk.new (w.alloc (.cells (rqL r).toArray 37)) 43 #[.int .i64 0, .bool false, .bool false, .int .i64 0, .slice none 0 0]
  have hq := (Blk.new w 37 (rqL r).toArray).alloc (.cells #[.int .i64 0, .bool false, .bool false, .int .i64 0, .slice none 0 0] 43)
  have hra : ((w.alloc (.cells (rqL r).toArray 37)).alloc (.cells #[.int .i64 0, .bool false, .bool false, .int .i64 0, .slice none 0 0] 43)).rangeAt w.heap.size 0 (rqL r) := fun j v hv => by
    rw [Nat.zero_add, hq.cell]
    simpa using hv
  simp only [World.size_alloc] at hb
  have hl := h.lens
  have hsp := h.mp.2
  have hss := h.ms.2
  have HT0 := hide h
  have Hs1 := hide hs1
  have Hb := hide hb
  have Hq := hide hq
  have Hra := hide hra
  have Hlp := hide hl.1
  have Hls := hide hl.2
  have Hsp := hide hsp
  have Hss := hide hss
  have Hlr := hide (rqL_length r)
  have HG := hide (Good_req r)
  rw [hg] at HG
  have HCk := hide (Check_any r.q)
  have HR : Hid (∀ w', Same w w' → DoesEnd w g pm sm most p s r (.returned (.tuple #[.agg #[.int .i64 (checkE r.q), .bool false, .bool false, .int .i64 0, .slice none 0 0], .int .i64 0])) w') := hide fun w' hs => by
    have hn1 : decide (r.k = 1) = false := decide_eq_false hk
    have e1 : doesA r p s most = told r.q p s := by unfold doesA; rw [hg, if_pos rfl, if_neg hk]
    have e2 : doesE r = 0 := by unfold doesE; rw [hg]; rfl
    have e3 : doesP r p s most = p := by unfold doesP; rw [hg, hn1]; rfl
    have e4 : doesS r p s most = s := by unfold doesS; rw [hg, hn1]; rfl
    have e5 : told r.q p s = code (checkE r.q) := by unfold told code; rw [if_neg hc]
    unfold DoesEnd
    rw [e1, e2, e3, e4, e5]
    exact ⟨none, 0, rfl, ⟨Rd.nil _ _, Nat.le_refl _, Nat.zero_le _⟩, h.same hs, hs.to, fun b hb => by simp [blkOf] at hb⟩
  have HPl := hide (fun (A1 A2 : Option Addr) (c1 c2 : Nat) (w' : World) => plain_bad (A1 := A1) (A2 := A2) (n1 := p.length) (n2 := s.length) (c1 := c1) (c2 := c2) r.q w' hc)
  have HTo := hide (fun (A : Option Addr) (c : Nat) (w' : World) => told_bad (A := A) (n := 0) (c := c) r.q 0 (checkE r.q) w' hc)
  obtain ⟨E, hE⟩ : ∃ E, checkE r.q = E := ⟨_, rfl⟩
  rw [hE] at HCk HR HTo hc
  have Hc := hide hc
  clear hE
  have h0 : (rqL r)[0]? = some (.int .i64 r.k) := rfl
  have h8 : (rqL r)[8]? = some (.int .i64 r.q.k) := rfl
  have h9 : (rqL r)[9]? = some (.int .i64 r.q.a) := rfl
  have h10 : (rqL r)[10]? = some (.int .i64 r.q.b) := rfl
  have h11 : (rqL r)[11]? = some (.int .i64 r.q.c) := rfl
  have h12 : (rqL r)[12]? = some (.int .i64 r.q.d) := rfl
  have h13 : (rqL r)[13]? = some (.int .i64 r.q.e) := rfl
  have h14 : (rqL r)[14]? = some (.int .i64 r.q.f) := rfl
  have h15 : (rqL r)[15]? = some (.int .i64 r.q.g) := rfl
  have h16 : (rqL r)[16]? = some (.int .i64 r.q.x) := rfl
  have h17 : (rqL r)[17]? = some (.int .i64 r.q.h) := rfl
  clear hs1 hb hq hra hl hsp hss hg h
  unfold rqV at HG ⊢
  generalize rqL r = R at *
  obtain ⟨k, cc, ⟨qk, a, b, c, d, e, f, q7, x, y⟩⟩ := r
  simp only at hk hk2 h0 h8 h9 h10 h11 h12 h13 h14 h15 h16 h17
  subst hk2
  clear hk
  unfold qV at HCk HPl HTo
  simp only [qL] at HCk HPl HTo
  obtain ⟨n1, hn1⟩ : ∃ n1, p.length = n1 := ⟨_, rfl⟩
  obtain ⟨n2, hn2⟩ : ∃ n2, s.length = n2 := ⟨_, rfl⟩
  have HAP := hide (fun (w' : World) (hs : Same w w') => allP_any w' (HT0.out.same hs) Hlp.out)
  have HAS := hide (fun (w' : World) (hs : Same w w') => allS_any w' (HT0.out.same hs) Hls.out)
  rw [hn1] at HPl HAP
  rw [hn2] at HPl HAS
  clear hn1 hn2
  go_enter Tryz.func29, Tryz.ntmps29
  go_wp2_with (first
    | (refine wpList_ld (by rfl) 37 _ rfl w.heap.size 0 rfl R _ Hra.out Tryz.underlying37 rfl (by rw [Hlr.out]; exact infoReq0) ?_)
    | (go_at_call 49; have hF := HG.out; refine (hF _).mono ?_; rintro e' w2 ⟨rfl, hs⟩; have Hs2 : Hid (Same w w2) := hide (Hs1.out.same hs); have Hb2 := hide (Hb.out.same hs); have Hq2 := hide (Hq.out.same hs); have hkq : ∀ i, w2.cell? ⟨w.heap.size, i, none⟩ = R[i]? := (fun i => by rw [(Hq.out.same hs).cell i]; simp); clear hs hF)
    | (go_at_call 52; have hF := HCk.out; refine (hF _).mono ?_; rintro e' w3 ⟨rfl, hs⟩; have Hs3 : Hid (Same w w3) := hide (Hs2.out.same hs); have Hb3 := hide (Hb2.out.same hs); have Hq3 := hide (Hq2.out.same hs); clear hs hF))
  have HK : Hid (∀ w', Chg (fun k => k = w.heap.size + 1) w3 w' → (w'.cell? ⟨w.heap.size, 8, none⟩ = some (.int .i64 qk) ∧ w'.cell? ⟨w.heap.size, 9, none⟩ = some (.int .i64 a) ∧ w'.cell? ⟨w.heap.size, 10, none⟩ = some (.int .i64 b) ∧ w'.cell? ⟨w.heap.size, 11, none⟩ = some (.int .i64 c) ∧ w'.cell? ⟨w.heap.size, 12, none⟩ = some (.int .i64 d) ∧ w'.cell? ⟨w.heap.size, 13, none⟩ = some (.int .i64 e) ∧ w'.cell? ⟨w.heap.size, 14, none⟩ = some (.int .i64 f) ∧ w'.cell? ⟨w.heap.size, 15, none⟩ = some (.int .i64 q7) ∧ w'.cell? ⟨w.heap.size, 16, none⟩ = some (.int .i64 x) ∧ w'.cell? ⟨w.heap.size, 17, none⟩ = some (.int .i64 y)) ∧ w.heap.size + 2 ≤ w'.heap.size) := hide fun w' hs => by
    have h1 : ∀ i, w'.cell? ⟨w.heap.size, i, none⟩ = R[i]? := fun i => by rw [(Hq3.out.chg hs (by omega)).cell i]; simp
    have h2 := Hb3.out.lt
    have h3 := hs.size
    exact ⟨⟨(h1 _).trans h8, (h1 _).trans h9, (h1 _).trans h10, (h1 _).trans h11, (h1 _).trans h12, (h1 _).trans h13, (h1 _).trans h14, (h1 _).trans h15, (h1 _).trans h16, (h1 _).trans h17⟩, by omega⟩
  clear hkq h0 h8 h9 h10 h11 h12 h13 h14 h15 h16 h17
  go_region_held3 (fun w' => (w'.cell? ⟨w.heap.size, 8, none⟩ = some (.int .i64 qk) ∧ w'.cell? ⟨w.heap.size, 9, none⟩ = some (.int .i64 a) ∧ w'.cell? ⟨w.heap.size, 10, none⟩ = some (.int .i64 b) ∧ w'.cell? ⟨w.heap.size, 11, none⟩ = some (.int .i64 c) ∧ w'.cell? ⟨w.heap.size, 12, none⟩ = some (.int .i64 d) ∧ w'.cell? ⟨w.heap.size, 13, none⟩ = some (.int .i64 e) ∧ w'.cell? ⟨w.heap.size, 14, none⟩ = some (.int .i64 f) ∧ w'.cell? ⟨w.heap.size, 15, none⟩ = some (.int .i64 q7) ∧ w'.cell? ⟨w.heap.size, 16, none⟩ = some (.int .i64 x) ∧ w'.cell? ⟨w.heap.size, 17, none⟩ = some (.int .i64 y)) ∧ w.heap.size + 2 ≤ w'.heap.size)
    ((refine HK.out _ ?_; first | exact Hs7.out.to | exact Hs6.out.to | exact Hs5.out.to | exact Hs4.out.to | exact (Chg.refl _ w3).drew | exact Chg.put5 (S := fun k => k = w.heap.size + 1) (g := w.heap.size + 1) (Same.to Hs7.out) (Or.inl (by rfl)) _ _ _ _ _))
    (first
      | ((go_at_call 10; have hF := HAP.out; (with_reducible refine (hF w3.drew (Chg.drew Hs3.out)).mono ?_); rintro e' w4 ⟨A1, c1, rfl, hr, hs, hn⟩; have HP1 := hide hr; have Hs4 : Hid (Same w3 w4) := hide (Chg.undrew hs); clear hr hs hn hF))
      | ((go_at_call 11; have hF := HAS.out; (with_reducible refine (hF w3.drew (Chg.drew Hs3.out)).mono ?_); rintro e' w4 ⟨A2, c2, rfl, hr, hs, hn⟩; have HS1 := hide hr; have Hs4 : Hid (Same w3 w4) := hide (Chg.undrew hs); clear hr hs hn hF))
      | ((go_at_call 11; have hF := HAS.out; (with_reducible refine (hF w4 (Same.trans Hs3.out Hs4.out)).mono ?_); rintro e' w5 ⟨A2, c2, rfl, hr, hs, hn⟩; have HS2 := hide hr; have HP2 := hide (HP1.out.same hs); have Hs5 : Hid (Same w3 w5) := hide (Same.trans Hs4.out hs); clear hr hs hn hF))
      | ((go_at_call 10; have hF := HAP.out; (with_reducible refine (hF w4 (Same.trans Hs3.out Hs4.out)).mono ?_); rintro e' w5 ⟨A1, c1, rfl, hr, hs, hn⟩; have HP2 := hide hr; have HS2 := hide (HS1.out.same hs); have Hs5 : Hid (Same w3 w5) := hide (Same.trans Hs4.out hs); clear hr hs hn hF))
      | ((go_at_call 54; have hF := HPl.out A1 A2 c1 c2 w5; (with_reducible refine hF.mono ?_); rintro e' w6 ⟨A3, c3, rfl, hr, hlc, hcm, hs⟩; have Hs6 : Hid (Same w3 w6) := hide (Same.trans Hs5.out hs); clear hr hlc hcm hs hF))
      | ((go_at_call 53; have hF := HTo.out A3 c3 w6; (with_reducible refine hF.mono ?_); rintro e' w7 ⟨rfl, hs⟩; have Hs7 : Hid (Same w3 w7) := hide (Same.trans Hs6.out hs); have hkb := ((Hb3.out.same Hs6.out).same hs).cell; have hfb := ((Hb3.out.same Hs6.out).same hs).frozen; clear hs hF)))
  all_goals
    go_wp2_with fail
    have hb9 := Blk.put5 (Hb3.out.same Hs7.out) (.int .i64 E) (.bool false) (.bool false) (.int .i64 0) (.slice none 0 0)
    refine bodyPost_ret (results_cell2 rfl rfl hb9 Tryz.underlying43 rfl (by kernel_rfl)) rfl ?_
    have hfin := HR.out _ (Chg.put5 (g := w.heap.size + 1) (Same.trans Hs3.out Hs7.out) (.inr (by omega)) (.int .i64 E) (.bool false) (.bool false) (.int .i64 0) (.slice none 0 0))
    exact hfin
theorem does_ask {g pm sm : Nat} {most : Int} {p s : List P3} (r : Rq) (w : World) (h : Tab w g pm sm most p s) (hg : goodR r = true) (hk : ¬ r.k = 1) (hc : checkE r.q = 0) :
    Calls Tryz.prog 29 #[.pointer (some ⟨g, 0, none⟩), rqV r] w (DoesEnd w g pm sm most p s r) := by
  have hk2 : r.k = 2 := by
    unfold goodR at hg
    simp [hk] at hg
    exact hg.1
  have hs1 := ((Chg.refl (fun _ => False) w).alloc (.cells (rqL r).toArray 37)).alloc (.cells #[.int .i64 0, .bool false, .bool false, .int .i64 0, .slice none 0 0] 43)
  have hb := Blk.new (w.alloc (.cells (rqL r).toArray 37)) 43 #[.int .i64 0, .bool false, .bool false, .int .i64 0, .slice none 0 0]
  have hq := (Blk.new w 37 (rqL r).toArray).alloc (.cells #[.int .i64 0, .bool false, .bool false, .int .i64 0, .slice none 0 0] 43)
  have hra : ((w.alloc (.cells (rqL r).toArray 37)).alloc (.cells #[.int .i64 0, .bool false, .bool false, .int .i64 0, .slice none 0 0] 43)).rangeAt w.heap.size 0 (rqL r) := fun j v hv => by
    rw [Nat.zero_add, hq.cell]
    simpa using hv
  simp only [World.size_alloc] at hb
  have hl := h.lens
  have hsp := h.mp.2
  have hss := h.ms.2
  have HT0 := hide h
  have Hs1 := hide hs1
  have Hb := hide hb
  have Hq := hide hq
  have Hra := hide hra
  have Hlp := hide hl.1
  have Hls := hide hl.2
  have Hsp := hide hsp
  have Hss := hide hss
  have Hlr := hide (rqL_length r)
  have HG := hide (Good_req r)
  rw [hg] at HG
  have HCk := hide (Check_any r.q)
  rw [hc] at HCk
  have HR : Hid (∀ w' A c, Rd w' A (is (if countsB r.q then [] else lstOf r.q p s)) → (if countsB r.q then [] else lstOf r.q p s).length ≤ c → c ≤ maxLen → Same w w' → (∀ b, blkOf A = some b → w.heap.size ≤ b) → DoesEnd w g pm sm most p s r (.returned (.tuple #[.agg #[.int .i64 0, .bool true, .bool (!countsB r.q), .int .i64 (idsOf r.q p s).length, .slice A (if countsB r.q then [] else lstOf r.q p s).length c], .int .i64 0])) w') := hide fun w' A c h1 h2 h3 hs h4 => by
    have hn1 : decide (r.k = 1) = false := decide_eq_false hk
    have e1 : doesA r p s most = told r.q p s := by unfold doesA; rw [hg, if_pos rfl, if_neg hk]
    have e2 : doesE r = 0 := by unfold doesE; rw [hg]; rfl
    have e3 : doesP r p s most = p := by unfold doesP; rw [hg, hn1]; rfl
    have e4 : doesS r p s most = s := by unfold doesS; rw [hg, hn1]; rfl
    have e5 : told r.q p s = ⟨0, true, !countsB r.q, (idsOf r.q p s).length, if countsB r.q then [] else lstOf r.q p s⟩ := by
      unfold told lstOf
      rw [if_pos hc]
      cases countsB r.q <;> rfl
    unfold DoesEnd
    rw [e1, e2, e3, e4, e5]
    exact ⟨A, c, rfl, ⟨h1, h2, h3⟩, h.same hs, hs.to, h4⟩
  have HPl := hide (fun (A1 A2 : Option Addr) (c1 c2 : Nat) (w' : World) (h1 : Row3 w' A1 p.length c1 p) (h2 : Row3 w' A2 s.length c2 s) => plain_any r.q w' hc h1 h2 Hlp.out Hls.out Hsp.out Hss.out)
  have hll : (lstOf r.q p s).length ≤ 1048576 := lst_len r.q p s Hlp.out Hls.out
  have HTo := hide (fun (A : Option Addr) (c : Nat) (w' : World) (hr : Rd w' A (is (lstOf r.q p s))) => told_ok (c := c) r.q (idsOf r.q p s).length w' hr hll)
  have h0 : (rqL r)[0]? = some (.int .i64 r.k) := rfl
  have h8 : (rqL r)[8]? = some (.int .i64 r.q.k) := rfl
  have h9 : (rqL r)[9]? = some (.int .i64 r.q.a) := rfl
  have h10 : (rqL r)[10]? = some (.int .i64 r.q.b) := rfl
  have h11 : (rqL r)[11]? = some (.int .i64 r.q.c) := rfl
  have h12 : (rqL r)[12]? = some (.int .i64 r.q.d) := rfl
  have h13 : (rqL r)[13]? = some (.int .i64 r.q.e) := rfl
  have h14 : (rqL r)[14]? = some (.int .i64 r.q.f) := rfl
  have h15 : (rqL r)[15]? = some (.int .i64 r.q.g) := rfl
  have h16 : (rqL r)[16]? = some (.int .i64 r.q.x) := rfl
  have h17 : (rqL r)[17]? = some (.int .i64 r.q.h) := rfl
  clear hs1 hb hq hra hl hsp hss hg h hc
  unfold rqV at HG ⊢
  generalize rqL r = R at *
  obtain ⟨k, cc, ⟨qk, a, b, c, d, e, f, q7, x, y⟩⟩ := r
  simp only at hk hk2 h0 h8 h9 h10 h11 h12 h13 h14 h15 h16 h17
  subst hk2
  clear hk
  obtain ⟨N, hN⟩ : ∃ N, (idsOf ⟨qk, a, b, c, d, e, f, q7, x, y⟩ p s).length = N := ⟨_, rfl⟩
  obtain ⟨l, hlst⟩ : ∃ l, lstOf ⟨qk, a, b, c, d, e, f, q7, x, y⟩ p s = l := ⟨_, rfl⟩
  obtain ⟨cb, hcb⟩ : ∃ cb, countsB ⟨qk, a, b, c, d, e, f, q7, x, y⟩ = cb := ⟨_, rfl⟩
  simp only at HR HPl HTo hll
  rw [hN, hlst, hcb] at HR
  rw [hN, hlst] at HPl
  rw [hN, hlst, hcb] at HTo
  unfold ToldEnd at HTo
  obtain ⟨l0, hl0⟩ : ∃ l0, (if cb = true then [] else l) = l0 := ⟨_, rfl⟩
  rw [hl0] at HTo HR
  clear hN hlst hcb hll hl0
  unfold qV at HCk HPl HTo
  simp only [qL] at HCk HPl HTo
  obtain ⟨n1, hn1⟩ : ∃ n1, p.length = n1 := ⟨_, rfl⟩
  obtain ⟨n2, hn2⟩ : ∃ n2, s.length = n2 := ⟨_, rfl⟩
  have HAP := hide (fun (w' : World) (hs : Same w w') => allP_any w' (HT0.out.same hs) Hlp.out)
  have HAS := hide (fun (w' : World) (hs : Same w w') => allS_any w' (HT0.out.same hs) Hls.out)
  rw [hn1] at HPl HAP
  rw [hn2] at HPl HAS
  clear hn1 hn2
  go_enter Tryz.func29, Tryz.ntmps29
  go_wp2_with (first
    | (refine wpList_ld (by rfl) 37 _ rfl w.heap.size 0 rfl R _ Hra.out Tryz.underlying37 rfl (by rw [Hlr.out]; exact infoReq0) ?_)
    | (go_at_call 49; have hF := HG.out; refine (hF _).mono ?_; rintro e' w2 ⟨rfl, hs⟩; have Hs2 : Hid (Same w w2) := hide (Hs1.out.same hs); have Hb2 := hide (Hb.out.same hs); have Hq2 := hide (Hq.out.same hs); have hkq : ∀ i, w2.cell? ⟨w.heap.size, i, none⟩ = R[i]? := (fun i => by rw [(Hq.out.same hs).cell i]; simp); clear hs hF)
    | (go_at_call 52; have hF := HCk.out; refine (hF _).mono ?_; rintro e' w3 ⟨rfl, hs⟩; have Hs3 : Hid (Same w w3) := hide (Hs2.out.same hs); have Hb3 := hide (Hb2.out.same hs); have Hq3 := hide (Hq2.out.same hs); clear hs hF))
  have HK : Hid (∀ w', Chg (fun k => k = w.heap.size + 1) w3 w' → (w'.cell? ⟨w.heap.size, 8, none⟩ = some (.int .i64 qk) ∧ w'.cell? ⟨w.heap.size, 9, none⟩ = some (.int .i64 a) ∧ w'.cell? ⟨w.heap.size, 10, none⟩ = some (.int .i64 b) ∧ w'.cell? ⟨w.heap.size, 11, none⟩ = some (.int .i64 c) ∧ w'.cell? ⟨w.heap.size, 12, none⟩ = some (.int .i64 d) ∧ w'.cell? ⟨w.heap.size, 13, none⟩ = some (.int .i64 e) ∧ w'.cell? ⟨w.heap.size, 14, none⟩ = some (.int .i64 f) ∧ w'.cell? ⟨w.heap.size, 15, none⟩ = some (.int .i64 q7) ∧ w'.cell? ⟨w.heap.size, 16, none⟩ = some (.int .i64 x) ∧ w'.cell? ⟨w.heap.size, 17, none⟩ = some (.int .i64 y)) ∧ w.heap.size + 2 ≤ w'.heap.size) := hide fun w' hs => by
    have h1 : ∀ i, w'.cell? ⟨w.heap.size, i, none⟩ = R[i]? := fun i => by rw [(Hq3.out.chg hs (by omega)).cell i]; simp
    have h2 := Hb3.out.lt
    have h3 := hs.size
    exact ⟨⟨(h1 _).trans h8, (h1 _).trans h9, (h1 _).trans h10, (h1 _).trans h11, (h1 _).trans h12, (h1 _).trans h13, (h1 _).trans h14, (h1 _).trans h15, (h1 _).trans h16, (h1 _).trans h17⟩, by omega⟩
  clear hkq h0 h8 h9 h10 h11 h12 h13 h14 h15 h16 h17
  go_region_held3 (fun w' => (w'.cell? ⟨w.heap.size, 8, none⟩ = some (.int .i64 qk) ∧ w'.cell? ⟨w.heap.size, 9, none⟩ = some (.int .i64 a) ∧ w'.cell? ⟨w.heap.size, 10, none⟩ = some (.int .i64 b) ∧ w'.cell? ⟨w.heap.size, 11, none⟩ = some (.int .i64 c) ∧ w'.cell? ⟨w.heap.size, 12, none⟩ = some (.int .i64 d) ∧ w'.cell? ⟨w.heap.size, 13, none⟩ = some (.int .i64 e) ∧ w'.cell? ⟨w.heap.size, 14, none⟩ = some (.int .i64 f) ∧ w'.cell? ⟨w.heap.size, 15, none⟩ = some (.int .i64 q7) ∧ w'.cell? ⟨w.heap.size, 16, none⟩ = some (.int .i64 x) ∧ w'.cell? ⟨w.heap.size, 17, none⟩ = some (.int .i64 y)) ∧ w.heap.size + 2 ≤ w'.heap.size)
    ((refine HK.out _ ?_; first | exact Hs7.out.to | exact Hs6.out.to | exact Hs5.out.to | exact Hs4.out.to | exact (Chg.refl _ w3).drew | exact Chg.put5 (S := fun k => k = w.heap.size + 1) (g := w.heap.size + 1) (Same.to Hs7.out) (Or.inl (by rfl)) _ _ _ _ _))
    (first
      | ((go_at_call 10; have hF := HAP.out; (with_reducible refine (hF w3.drew (Chg.drew Hs3.out)).mono ?_); rintro e' w4 ⟨A1, c1, rfl, hr, hs, hn⟩; have HP1 := hide hr; have Hs4 : Hid (Same w3 w4) := hide (Chg.undrew hs); clear hr hs hn hF))
      | ((go_at_call 11; have hF := HAS.out; (with_reducible refine (hF w3.drew (Chg.drew Hs3.out)).mono ?_); rintro e' w4 ⟨A2, c2, rfl, hr, hs, hn⟩; have HS1 := hide hr; have Hs4 : Hid (Same w3 w4) := hide (Chg.undrew hs); clear hr hs hn hF))
      | ((go_at_call 11; have hF := HAS.out; (with_reducible refine (hF w4 (Same.trans Hs3.out Hs4.out)).mono ?_); rintro e' w5 ⟨A2, c2, rfl, hr, hs, hn⟩; have HS2 := hide hr; have HP2 := hide (HP1.out.same hs); have Hs5 : Hid (Same w3 w5) := hide (Same.trans Hs4.out hs); clear hr hs hn hF))
      | ((go_at_call 10; have hF := HAP.out; (with_reducible refine (hF w4 (Same.trans Hs3.out Hs4.out)).mono ?_); rintro e' w5 ⟨A1, c1, rfl, hr, hs, hn⟩; have HP2 := hide hr; have HS2 := hide (HS1.out.same hs); have Hs5 : Hid (Same w3 w5) := hide (Same.trans Hs4.out hs); clear hr hs hn hF))
      | ((go_at_call 54; have hF := HPl.out A1 A2 c1 c2 w5 HP2.out HS2.out; (with_reducible refine hF.mono ?_); rintro e' w6 ⟨A3, c3, rfl, hr, hlc, hcm, hs⟩; have HR3 := hide hr; have Hs6 : Hid (Same w3 w6) := hide (Same.trans Hs5.out hs); clear hr hlc hcm hs hF))
      | ((go_at_call 53; have hF := HTo.out A3 c3 w6 HR3.out; (with_reducible refine hF.mono ?_); rintro e' w7 ⟨A4, c4, rfl, hr, hlc, hcm, hs, hfr⟩; have Hfr := hide hfr; have HR4 := hide hr; have Hlc := hide hlc; have Hcm := hide hcm; have Hs7 : Hid (Same w3 w7) := hide (Same.trans Hs6.out hs); have hkb := ((Hb3.out.same Hs6.out).same hs).cell; have hfb := ((Hb3.out.same Hs6.out).same hs).frozen; clear hr hlc hcm hs hfr hF)))
  all_goals
    go_wp2_with fail
    have hb9 := Blk.put5 (Hb3.out.same Hs7.out) (.int .i64 0) (.bool true) (.bool (!cb)) (.int .i64 N) (.slice A4 l0.length c4)
    refine bodyPost_ret (results_cell2 rfl rfl hb9 Tryz.underlying43 rfl (by kernel_rfl)) rfl ?_
    have hne : ∀ b, blkOf A4 = some b → ¬ b = w.heap.size + 1 := fun b hb => by have h7 : w6.heap.size ≤ b := Hfr.out b hb; have h8 := (Hb3.out.same Hs6.out).lt; omega
    have hfin := HR.out _ A4 c4 (Rd.put5 (g := w.heap.size + 1) HR4.out (fun e => hne _ e rfl) (.int .i64 0) (.bool true) (.bool (!cb)) (.int .i64 N) (.slice A4 l0.length c4)) Hlc.out Hcm.out (Chg.put5 (Same.trans Hs3.out Hs7.out) (.inr (by omega)) _ _ _ _ _) (fun b hb => by have h7 : w6.heap.size ≤ b := Hfr.out b hb; have h8 := (Same.trans Hs3.out Hs6.out).size; omega)
    exact hfin
end Go.Proofs.YtlimpepdelpogaaGreatDoor
/-! HsD -/
namespace Go.Proofs.YtlimpepdelpogaaGreatDoor
open Go.RowKit Go.Al
set_option linter.unusedVariables false
set_option maxHeartbeats 8000000
set_option maxRecDepth 100000
theorem does_any {g pm sm : Nat} {most : Int} {p s : List P3} (r : Rq) (w : World) (h : Tab w g pm sm most p s) (hw : WfC r.c) :
    Calls Tryz.prog 29 #[.pointer (some ⟨g, 0, none⟩), rqV r] w (DoesEnd w g pm sm most p s r) := by
  cases hg : goodR r
  · exact does_bad r w h hg
  · by_cases hk : r.k = 1
    · exact does_change r w h hw hg hk
    · by_cases hc : checkE r.q = 0
      · exact does_ask r w h hg hk hc
      · exact does_ask_bad r w h hg hk hc
theorem Does_any {g pm sm : Nat} {most : Int} {p s : List P3} (r : Rq) (w : World) (h : Tab w g pm sm most p s) (hw : WfC r.c) :
    Calls Tryz.prog 13 #[.pointer (some ⟨g, 0, none⟩), rqV r] w (DoesEnd w g pm sm most p s r) := by
  have hs1 := ((Chg.refl (fun _ => False) w).alloc (.cells (rqL r).toArray 37)).alloc (.cells #[.int .i64 0, .bool false, .bool false, .int .i64 0, .slice none 0 0] 43)
  have hb := Blk.new (w.alloc (.cells (rqL r).toArray 37)) 43 #[.int .i64 0, .bool false, .bool false, .int .i64 0, .slice none 0 0]
  have hq := (Blk.new w 37 (rqL r).toArray).alloc (.cells #[.int .i64 0, .bool false, .bool false, .int .i64 0, .slice none 0 0] 43)
  have hra : ((w.alloc (.cells (rqL r).toArray 37)).alloc (.cells #[.int .i64 0, .bool false, .bool false, .int .i64 0, .slice none 0 0] 43)).rangeAt w.heap.size 0 (rqL r) := fun j v hv => by
    rw [Nat.zero_add, hq.cell]
    simpa using hv
  simp only [World.size_alloc] at hb
  have Hs1 := hide hs1
  have Hb := hide hb
  have Hra := hide hra
  have Hlr := hide (rqL_length r)
  have Hlt := hide (And.intro h.blk.lt (And.intro h.mp.lt h.ms.lt))
  have HD := hide (fun w' (hs : Same w w') => does_any r w' (h.same hs) hw)
  unfold DoesEnd at HD ⊢
  obtain ⟨X, hX⟩ : ∃ X, doesA r p s most = X := ⟨_, rfl⟩
  obtain ⟨E, hE⟩ : ∃ E, doesE r = E := ⟨_, rfl⟩
  rw [hX, hE] at HD ⊢
  obtain ⟨xe, xa, xl, xn, xi⟩ := X
  clear hs1 hb hq hra hX hE h hw
  unfold rqV rpV at HD ⊢
  simp only [rpL, Ans.at_] at HD ⊢
  generalize rqL r = R at *
  obtain ⟨P', hP⟩ : ∃ P', doesP r p s most = P' := ⟨_, rfl⟩
  obtain ⟨S', hS⟩ : ∃ S', doesS r p s most = S' := ⟨_, rfl⟩
  rw [hP, hS] at HD ⊢
  clear hP hS
  have HPost : Hid (∀ (w' : World) (A : Option Addr) (c : Nat), RpAt w' ⟨xe, xa, xl, xn, A, c, xi⟩ → Tab w' g pm sm most P' S' → Chg (fun k => k = pm ∨ k = sm) w w' → (∀ b, blkOf A = some b → w.heap.size ≤ b) → (fun (e : Ending) (w' : World) => ∃ A c, e = .returned (.tuple #[.agg #[.int .i64 xe, .bool xa, .bool xl, .int .i64 xn, .slice A xi.length c], .int .i64 E]) ∧ RpAt w' ⟨xe, xa, xl, xn, A, c, xi⟩ ∧ Tab w' g pm sm most P' S' ∧ Chg (fun k => k = pm ∨ k = sm) w w' ∧ ∀ b, blkOf A = some b → w.heap.size ≤ b) (.returned (.tuple #[.agg #[.int .i64 xe, .bool xa, .bool xl, .int .i64 xn, .slice A xi.length c], .int .i64 E])) w') := hide fun w' A c h1 h2 h3 h4 => ⟨A, c, rfl, h1, h2, h3, h4⟩
  go_enter Tryz.func13, Tryz.ntmps13
  go_wp2_with (first
    | (refine wpList_ld (by rfl) 37 _ rfl w.heap.size 0 rfl R _ Hra.out Tryz.underlying37 rfl (by rw [Hlr.out]; exact infoReq0) ?_)
    | (go_at_call 29; have hF := HD.out _ Hs1.out; refine hF.mono ?_; rintro e' w2 ⟨A, c, rfl, hrp, ht, hc, hfr⟩; have Hfr := hide hfr; have HRp := hide hrp; have HT := hide ht; have HC : Hid (Chg (fun k => k = pm ∨ k = sm) w w2) := hide (Chg.of_same Hs1.out hc); have Hb2 := hide (Hb.out.chg hc (fun e => by have := Hlt.out; omega)); have hkb := Hb2.out.cell; have hfb := Hb2.out.frozen; clear hrp ht hc hfr hF))
  refine bodyPost_ret (results_cell2 rfl rfl (Blk.put5 Hb2.out (.int .i64 xe) (.bool xa) (.bool xl) (.int .i64 xn) (.slice A xi.length c)) Tryz.underlying43 rfl (by kernel_rfl)) rfl ?_
  have hz : (((w.alloc (.cells R.toArray 37)).alloc (.cells #[.int .i64 0, .bool false, .bool false, .int .i64 0, .slice none 0 0] 43))).heap.size = w.heap.size + 2 := by simp
  have hlt := Hlt.out
  have hput := Chg.put5 (S := fun k => k = w.heap.size + 1) (g := w.heap.size + 1) (Chg.refl _ w2) (.inl rfl) (.int .i64 xe) (.bool xa) (.bool xl) (.int .i64 xn) (.slice A xi.length c)
  have hrd := Rd.put5 (g := w.heap.size + 1) HRp.out.rd (fun e => by have := Hfr.out _ e; omega) (.int .i64 xe) (.bool xa) (.bool xl) (.int .i64 xn) (.slice A xi.length c)
  have hfin := HPost.out _ A c (HRp.out.keep hrd) (HT.out.chg hput (by omega) (by omega) (by omega)) (Chg.put5 HC.out (.inr (by omega)) (.int .i64 xe) (.bool xa) (.bool xl) (.int .i64 xn) (.slice A xi.length c)) (fun b hb => by have := Hfr.out b hb; omega)
  exact hfin
theorem no_map {w : World} {b off : Nat} {v : Value} {l : List P3} (h : w.cell? ⟨b, off, none⟩ = some v) (hm : MapI w b l) : False := by
  obtain ⟨⟨es, clock, hb, _⟩, _⟩ := hm
  simp [World.cell?, hb] at h
theorem Rd.past_maps {w w' : World} {A : Option Addr} {xs : List Value} {pm sm : Nat} {p s : List P3} (h : Rd w A xs) (hp : MapI w pm p) (hs : MapI w sm s) (hc : Chg (fun k => k = pm ∨ k = sm) w w') : Rd w' A xs := by
  intro hx
  obtain ⟨b, off, e, hcell⟩ := h hx
  obtain ⟨x, r, rfl⟩ := List.exists_cons_of_ne_nil hx
  have h0 := hcell 0 x rfl
  have h1 : ¬ (b = pm ∨ b = sm) := fun e => by
    rcases e with rfl | rfl
    · exact no_map h0 hp
    · exact no_map h0 hs
  exact (h.chg hc fun b' hb' _ => by rw [e] at hb'; simp [blkOf] at hb'; subst hb'; exact h1) hx
end Go.Proofs.YtlimpepdelpogaaGreatDoor
