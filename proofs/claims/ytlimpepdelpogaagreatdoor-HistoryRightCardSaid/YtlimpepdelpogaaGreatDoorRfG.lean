/-
  'append([]T{}, xs...)': append onto a slice of length and capacity 0, wherever that points: what comes of it reads as xs, and nothing that was there has changed. No conditions: nothing of the program is named here.
  The document's set: Clone. Condition: at most 65535 of each.
  The document's own Plain, whole. Conditions: at most 1048576 of each, each list rising by its ids.
  The document's own server.Does: what a good request tells, and leaves. Condition: at most 65535 of each.
-/
import Derived.Test.YtlimpepdelpogaaGreatDoorLib
import Derived.Test.YtlimpepdelpogaaGreatDoorTcC
import Derived.Test.YtlimpepdelpogaaGreatDoorMy
import Derived.Test.YtlimpepdelpogaaGreatDoorRfDa
import Derived.Test.YtlimpepdelpogaaGreatDoorRfDb
import Derived.Test.YtlimpepdelpogaaGreatDoorRfDc
import Derived.Test.YtlimpepdelpogaaGreatDoorRfD
import Derived.Test.YtlimpepdelpogaaGreatDoorTcE
import Derived.Test.YtlimpepdelpogaaGreatDoorLnB
/-! Ap -/
namespace Go.Al
open Go.RowKit
section
variable {P : Program} (w : World)
end
end Go.Al
/-! RfF -/
namespace Go.Proofs.YtlimpepdelpogaaGreatDoor
open Go.RowKit Go.Al
set_option linter.unusedVariables false
end Go.Proofs.YtlimpepdelpogaaGreatDoor
/-! RfDz -/
namespace Go.Proofs.YtlimpepdelpogaaGreatDoor
open Go.RowKit Go.Al
theorem plainRf_ok {A1 A2 : Option Addr} {c1 c2 : Nat} {p s : List P3} (q : Qy) (w : World) (hc : checkE q = 0) (h1 : Row3 w A1 p.length c1 p) (h2 : Row3 w A2 s.length c2 s) (hp : p.length ≤ 1048576) (hs : s.length ≤ 1048576) (sp : Srt p) (ss : Srt s) :
    Calls Tryz.prog 37 #[qV q, .slice A1 p.length c1, .slice A2 s.length c2] w (PlainREnd w (idsOf q p s).length (lstOf q p s)) := by
  have hk : q.k = 1 ∨ q.k = 2 ∨ q.k = 3 ∨ q.k = 4 ∨ q.k = 5 ∨ q.k = 6 ∨ q.k = 7 := by
    cases h : pointsB q
    · have := check_span hc h; omega
    · unfold pointsB at h; simp at h; omega
  rcases hk with h | h | h | h | h | h | h
  · exact plainRf_k1 q w hc h h1 h2 hp hs sp ss
  · exact plainRf_k2 q w hc h h1 h2 hp hs sp ss
  · exact plainRf_k3 q w hc h h1 h2 hp hs sp ss
  · exact plainRf_k4 q w hc h h1 h2 hp hs sp ss
  · exact plainRf_k5 q w hc h h1 h2 hp hs sp ss
  · exact plainRf_k6 q w hc h h1 h2 hp hs sp ss
  · exact plainRf_k7 q w hc h h1 h2 hp hs sp ss
end Go.Proofs.YtlimpepdelpogaaGreatDoor
/-! RfG -/
namespace Go.Proofs.YtlimpepdelpogaaGreatDoor
open Go.RowKit Go.Al
set_option linter.unusedVariables false
set_option maxHeartbeats 8000000
set_option maxRecDepth 100000
/-- how Does ends -/
def DoesREnd (w : World) (g : Nat) (a : Ans) (most : Int) (p s : List P3) (e : Ending) (w' : World) : Prop :=
  ∃ A c, e = .returned (rpV (a.at_ A c)) ∧ RpAt w' (a.at_ A c) ∧ (∃ AP cp AS cs, SetR w' g AP cp AS cs most p s) ∧ Chg (fun k => k = g) w w'
theorem infoCg : (Tryz.prog.info? 29).map (·.size) = some 7 := by kernel_rfl
theorem doesA_1 {r : Rq} (hg : goodR r = true) (hk : r.k = 1) (p s : List P3) (most : Int) : doesA r p s most = code (mayE p s most r.c) ∧ doesP r p s most = doP' p s most r.c ∧ doesS r p s most = doS' p s most r.c := by
  unfold doesA doesP doesS
  rw [if_pos hg, if_pos hk, hg]
  simp [hk]
theorem doesA_2 {r : Rq} (hg : goodR r = true) (hk : ¬ r.k = 1) (p s : List P3) (most : Int) : doesA r p s most = told r.q p s ∧ doesP r p s most = p ∧ doesS r p s most = s := by
  unfold doesA doesP doesS
  rw [if_pos hg, if_neg hk, hg]
  simp [hk]
theorem told_badq {q : Qy} (hc : ¬ checkE q = 0) (p s : List P3) : told q p s = ⟨checkE q, false, false, 0, []⟩ := by unfold told; rw [if_neg hc]
theorem rp_at {w : World} {a : Ans} (h : a.ids = []) : RpAt w (a.at_ none 0) := ⟨by unfold Ans.at_; rw [h]; exact Rd.nil _ _, by unfold Ans.at_; rw [h]; exact Nat.le_refl _, Nat.zero_le _⟩
theorem doesRf_1 {g cp cs : Nat} {AP AS : Option Addr} {most : Int} {p s : List P3} (r : Rq) (w : World) (h : SetR w g AP cp AS cs most p s) (hp : p.length ≤ 65535) (hs : s.length ≤ 65535) (sp : Srt p) (ss : Srt s) (hk : r.k = 1) :
    Calls Tryz.prog 18 #[.pointer (some ⟨g, 0, none⟩), rqV r] w (DoesREnd w g (code (mayE p s most r.c)) most (doP' p s most r.c) (doS' p s most r.c)) := by
  have H := hide h
  have hgl : g < w.heap.size := h.blk.lt
  have hgb : ¬ (w.heap.size + 1 = g) := by omega
  have hb0 := (Blk.new w 37 (rqL r).toArray).alloc (.cells #[.int .i64 0, .bool false, .bool false, .int .i64 0, .slice none 0 0] 43)
  have hb1 := Blk.new (w.alloc (.cells (rqL r).toArray 37)) 43 #[.int .i64 0, .bool false, .bool false, .int .i64 0, .slice none 0 0]
  simp only [World.size_alloc] at hb1
  have hs2 := ((Chg.refl (fun _ => False) w).alloc (.cells (rqL r).toArray 37)).alloc (.cells #[.int .i64 0, .bool false, .bool false, .int .i64 0, .slice none 0 0] 43)
  have hz2 : ((w.alloc (.cells (rqL r).toArray 37)).alloc (.cells #[.int .i64 0, .bool false, .bool false, .int .i64 0, .slice none 0 0] 43)).heap.size = w.heap.size + 2 := by simp
  have h0 : (rqL r)[0]? = some (.int .i64 r.k) := rfl
  have Hb1 := hide hb1
  have Hs2 := hide hs2
  have Hz2 := hide hz2
  clear hb1 hs2 hz2
  have hrc := rangeAt_same (rangeAt_blk [.int .i64 r.k] (cgL r.c) (qL r.q) (show Blk (w.alloc (.cells (rqL r).toArray 37)) w.heap.size 37 _ from Blk.new w 37 (rqL r).toArray)) ((Chg.refl (fun _ => False) _).alloc (.cells #[.int .i64 0, .bool false, .bool false, .int .i64 0, .slice none 0 0] 43))
  have Hrc := hide hrc
  have Hlc := hide (cgL_length r.c)
  have HDo := hide (fun w' (hs' : Same w w') => doR_any r.c w' (h.same hs') hp hs sp ss)
  rw [hk] at h0
  have HLP := hide h.rp.2.2.2.2
  have HLS := hide h.rs.2.2.2.2
  clear h hrc hp hs sp ss hb0 hk
  obtain ⟨E, hE⟩ : ∃ E, mayE p s most r.c = E := ⟨_, rfl⟩
  obtain ⟨B, hB⟩ : ∃ B, doB p s most r.c = B := ⟨_, rfl⟩
  rw [hE, hB, cgV_L, cgV_L] at HDo
  rw [hE]
  have Hlb := hide (cgL_length B)
  have Hob : Hid (∀ u ∈ cgL B, u.oneCell' = true) := hide (by intro u hu; simp [cgL] at hu; rcases hu with rfl | rfl | rfl | rfl | rfl | rfl | rfl <;> rfl)
  unfold rqV
  clear hE hB
  generalize cgL r.c = LC at *
  generalize cgL B = LB at *
  generalize rqL r = LR at *
  go_enter Tryz.func18, Tryz.ntmps18
  go_wp2_with (first
    | (refine wpList_ld (by rfl) 29 _ rfl w.heap.size 1 rfl LC _ Hrc.out Tryz.underlying29 rfl (by rw [Hlc.out]; exact infoCg) ?_)
    | (go_at_call 34; have hF := HDo.out _ Hs2.out; (with_reducible refine hF.mono ?_); rintro e w3 ⟨rfl, AP3, cp3, AS3, cs3, hr3, hc3, hfp, hfs⟩; have HFP := hide hfp; have HFS := hide hfs; clear hfp hfs; have HR3 := hide hr3; have HC3 := hide hc3; have HA3 := hide (Hb1.out.chg hc3 hgb); have hka := HA3.out.cell; have hkf := HA3.out.frozen; have hz3 : w.heap.size + 1 < w3.heap.size := Nat.lt_of_lt_of_le (by rw [Hz2.out]; omega) hc3.size; clear hr3 hc3 hF)
    | (refine wpList_st rfl 29 _ _ rfl (by rfl) LB (by rfl) _ _ (by rw [Hlb.out]; exact infoCg) (by rw [Hlb.out]; rfl) Hob.out ?_))
  have hb9 := (Blk.put5 HA3.out (.int .i64 E) (.bool false) (.bool false) (.int .i64 0) (.slice none 0 0)).alloc (.cells LB.toArray 29)
  have hc9 := (Chg.put5 (S := fun k => k = w.heap.size + 1) (w := w3) (Chg.refl _ _) (.inl rfl) (.int .i64 E) (.bool false) (.bool false) (.int .i64 0) (.slice none 0 0)).alloc (.cells LB.toArray 29)
  refine bodyPost_ret (results_cell_row rfl _ _ _ _ _ _ _ rfl hb9 Tryz.underlying43 rfl (by kernel_rfl)) rfl ⟨none, 0, rfl, rp_at rfl, ⟨AP3, cp3, AS3, cs3, HR3.out.chg hc9 (fun e => hgb e.symm) (fun b hb e => ?_) (fun b hb e => ?_)⟩, ?_⟩
  · have := HFP.out b hb
    rw [Hz2.out] at this
    rcases this with h1 | h1
    · have := HLP.out b h1; omega
    · omega
  · have := HFS.out b hb
    rw [Hz2.out] at this
    rcases this with h1 | h1
    · have := HLS.out b h1; omega
    · omega
  · exact Chg.trans (Chg.of_same Hs2.out HC3.out) hc9 fun k hk e => by omega
theorem doesRf_2 {g cp cs : Nat} {AP AS : Option Addr} {most : Int} {p s : List P3} (r : Rq) (w : World) (h : SetR w g AP cp AS cs most p s) (hk : ¬ r.k = 1) (hc : ¬ checkE r.q = 0) :
    Calls Tryz.prog 18 #[.pointer (some ⟨g, 0, none⟩), rqV r] w (DoesREnd w g ⟨checkE r.q, false, false, 0, []⟩ most p s) := by
  have H := hide h
  have hgl : g < w.heap.size := h.blk.lt
  have hgb : ¬ (w.heap.size + 1 = g) := by omega
  have hb0 := (Blk.new w 37 (rqL r).toArray).alloc (.cells #[.int .i64 0, .bool false, .bool false, .int .i64 0, .slice none 0 0] 43)
  have hb1 := Blk.new (w.alloc (.cells (rqL r).toArray 37)) 43 #[.int .i64 0, .bool false, .bool false, .int .i64 0, .slice none 0 0]
  simp only [World.size_alloc] at hb1
  have hs2 := ((Chg.refl (fun _ => False) w).alloc (.cells (rqL r).toArray 37)).alloc (.cells #[.int .i64 0, .bool false, .bool false, .int .i64 0, .slice none 0 0] 43)
  have hz2 : ((w.alloc (.cells (rqL r).toArray 37)).alloc (.cells #[.int .i64 0, .bool false, .bool false, .int .i64 0, .slice none 0 0] 43)).heap.size = w.heap.size + 2 := by simp
  have h0 : (rqL r)[0]? = some (.int .i64 r.k) := rfl
  have Hb1 := hide hb1
  have Hs2 := hide hs2
  have Hz2 := hide hz2
  clear hb1 hs2 hz2
  have hrq := rangeAt_same (rangeAt_blk (.int .i64 r.k :: cgL r.c) (qL r.q) [] (show Blk (w.alloc (.cells (rqL r).toArray 37)) w.heap.size 37 _ from (by have := Blk.new w 37 (rqL r).toArray; rw [List.append_nil]; exact this))) ((Chg.refl (fun _ => False) _).alloc (.cells #[.int .i64 0, .bool false, .bool false, .int .i64 0, .slice none 0 0] 43))
  have Hrq := hide hrq
  have Hlq := hide (qL_length r.q)
  have HCk := hide (fun w' => checkRf_any r.q w')
  have HLP := hide h.rp.2.2.2.2
  have HLS := hide h.rs.2.2.2.2
  obtain ⟨E, hE⟩ : ∃ E, checkE r.q = E := ⟨_, rfl⟩
  rw [hE] at HCk hc ⊢
  obtain ⟨k, hk0⟩ : ∃ k, r.k = k := ⟨_, rfl⟩
  rw [hk0] at hk h0
  have hkb : (k == 1) = false := by simp [hk]
  have hEb : (E != 0) = true := by simp [hc]
  clear h hrq hb0 hk0 hE hk hc
  unfold rqV
  unfold qV at HCk
  generalize qL r.q = LQ at *
  generalize rqL r = LR at *
  go_enter Tryz.func18, Tryz.ntmps18
  go_wp2_with (first
    | (refine wpList_ld (by rfl) 35 _ rfl w.heap.size 8 rfl LQ _ Hrq.out Tryz.underlying35 rfl (by rw [Hlq.out]; exact infoQ) ?_)
    | (go_at_call 35; have hF := HCk.out; (with_reducible refine (hF _).mono ?_); rintro e w3 ⟨rfl, hs3⟩; have HS3 := hide hs3; have HA3 := hide (Hb1.out.same hs3); have hka := HA3.out.cell; have hkf := HA3.out.frozen; have hz3 : w.heap.size + 1 < w3.heap.size := Nat.lt_of_lt_of_le (by rw [Hz2.out]; omega) hs3.size; clear hs3 hF)
    | fail)
  have hb9 := Blk.put5 HA3.out (.int .i64 E) (.bool false) (.bool false) (.int .i64 0) (.slice none 0 0)
  have hc9 := Chg.put5 (S := fun k => k = w.heap.size + 1) (w := w3) (Chg.refl _ _) (.inl rfl) (.int .i64 E) (.bool false) (.bool false) (.int .i64 0) (.slice none 0 0)
  have HSw := Chg.trans (S := fun k => k = g) (Chg.of_same (Same.trans Hs2.out HS3.out) (Chg.refl (fun k => k = g) _)) hc9 fun k hk e => by omega
  refine bodyPost_ret (results_cell_row rfl _ _ _ _ _ _ _ rfl hb9 Tryz.underlying43 rfl (by kernel_rfl)) rfl ⟨none, 0, rfl, rp_at rfl, ⟨AP, cp, AS, cs, (H.out.same (Same.trans Hs2.out HS3.out)).chg hc9 (fun e => hgb e.symm) (fun b hb e => ?_) (fun b hb e => ?_)⟩, HSw⟩
  · have := HLP.out b hb; omega
  · have := HLS.out b hb; omega
theorem told_at {q : Qy} {p s : List P3} (hc : checkE q = 0) {w : World} {A : Option Addr} {c : Nat} (hr : Rd w A (is (lstOf q p s))) (h1 : (lstOf q p s).length ≤ c) (h2 : c ≤ maxLen) :
    ∃ A' c', Ending.returned (.agg (toldL q (idsOf q p s).length A (lstOf q p s).length c 0).toArray) = Ending.returned (rpV ((told q p s).at_ A' c')) ∧ RpAt w ((told q p s).at_ A' c') := by
  unfold told toldL
  rw [if_pos hc, if_pos rfl]
  unfold lstOf at hr h1 ⊢
  cases hq : countsB q
  · rw [hq] at hr h1
    simp only [Bool.false_eq_true, if_false] at hr h1 ⊢
    exact ⟨A, c, rfl, hr, h1, h2⟩
  · simp only [if_true]
    exact ⟨none, 0, rfl, Rd.nil _ _, Nat.le_refl _, Nat.zero_le _⟩
theorem doesRf_3 {g cp cs : Nat} {AP AS : Option Addr} {most : Int} {p s : List P3} (r : Rq) (w : World) (h : SetR w g AP cp AS cs most p s) (hp : p.length ≤ 65535) (hs : s.length ≤ 65535) (sp : Srt p) (ss : Srt s) (hk : ¬ r.k = 1) (hc : checkE r.q = 0) :
    Calls Tryz.prog 18 #[.pointer (some ⟨g, 0, none⟩), rqV r] w (DoesREnd w g (told r.q p s) most p s) := by
  have H := hide h
  have hgl : g < w.heap.size := h.blk.lt
  have hgb : ¬ (w.heap.size + 1 = g) := by omega
  have hb0 := (Blk.new w 37 (rqL r).toArray).alloc (.cells #[.int .i64 0, .bool false, .bool false, .int .i64 0, .slice none 0 0] 43)
  have hb1 := Blk.new (w.alloc (.cells (rqL r).toArray 37)) 43 #[.int .i64 0, .bool false, .bool false, .int .i64 0, .slice none 0 0]
  simp only [World.size_alloc] at hb1
  have hs2 := ((Chg.refl (fun _ => False) w).alloc (.cells (rqL r).toArray 37)).alloc (.cells #[.int .i64 0, .bool false, .bool false, .int .i64 0, .slice none 0 0] 43)
  have hz2 : ((w.alloc (.cells (rqL r).toArray 37)).alloc (.cells #[.int .i64 0, .bool false, .bool false, .int .i64 0, .slice none 0 0] 43)).heap.size = w.heap.size + 2 := by simp
  have h0 : (rqL r)[0]? = some (.int .i64 r.k) := rfl
  have Hb1 := hide hb1
  have Hs2 := hide hs2
  have Hz2 := hide hz2
  clear hb1 hs2 hz2
  have hrq := rangeAt_same (rangeAt_blk (.int .i64 r.k :: cgL r.c) (qL r.q) [] (show Blk (w.alloc (.cells (rqL r).toArray 37)) w.heap.size 37 _ from (by have := Blk.new w 37 (rqL r).toArray; rw [List.append_nil]; exact this))) ((Chg.refl (fun _ => False) _).alloc (.cells #[.int .i64 0, .bool false, .bool false, .int .i64 0, .slice none 0 0] 43))
  have Hrq := hide hrq
  have Hlq := hide (qL_length r.q)
  have HCk := hide (fun w' => checkRf_any r.q w')
  have HLP := hide h.rp.2.2.2.2
  have HLS := hide h.rs.2.2.2.2
  have HPl := hide (fun w' (hs' : Same w w') => plainRf_ok (c1 := cp) (c2 := cs) r.q w' hc (h.rp.same hs') (h.rs.same hs') (by omega) (by omega) sp ss)
  have HTo := hide (fun (A : Option Addr) (c : Nat) w' => toldRf_any (A := A) (n := (lstOf r.q p s).length) (c := c) r.q (idsOf r.q p s).length 0 w')
  have HEnd := hide (fun w' A c (hr : Rd w' A (is (lstOf r.q p s))) (h1 : (lstOf r.q p s).length ≤ c) (h2 : c ≤ maxLen) => told_at hc hr h1 h2)
  obtain ⟨cb, hcb⟩ : ∃ cb, countsB r.q = cb := ⟨_, rfl⟩
  unfold toldL at HTo HEnd
  rw [hcb] at HTo HEnd
  clear hcb
  rw [hc] at HCk
  obtain ⟨k, hk0⟩ : ∃ k, r.k = k := ⟨_, rfl⟩
  rw [hk0] at hk h0
  have hkb : (k == 1) = false := by simp [hk]
  have Hk3 : Hid (∀ w', Same w w' → w'.cell? ⟨g, 0, none⟩ = some (.slice AP p.length cp) ∧ w'.cell? ⟨g, 1, none⟩ = some (.slice AS s.length cs)) := hide fun w' hs' => ⟨(h.blk.same hs').cell 0, (h.blk.same hs').cell 1⟩
  clear h hrq hb0 hk0 hk hc hp hs sp ss
  unfold rqV
  unfold qV at HCk HPl HTo
  unfold PlainREnd at HPl
  generalize (idsOf r.q p s).length = N at *
  generalize lstOf r.q p s = ls at *
  generalize told r.q p s = AN at *
  generalize qL r.q = LQ at *
  generalize rqL r = LR at *
  go_enter Tryz.func18, Tryz.ntmps18
  go_wp2_with (first
    | (refine wpList_ld (by rfl) 35 _ rfl w.heap.size 8 rfl LQ _ Hrq.out Tryz.underlying35 rfl (by rw [Hlq.out]; exact infoQ) ?_)
    | (go_at_call 35; have hF := HCk.out; (with_reducible refine (hF _).mono ?_); rintro e w3 ⟨rfl, hs3⟩; have HS3 := hide hs3; have HA3 := hide (Hb1.out.same hs3); have hka := HA3.out.cell; have hkf := HA3.out.frozen; have hz3 : w.heap.size + 1 < w3.heap.size := Nat.lt_of_lt_of_le (by rw [Hz2.out]; omega) hs3.size; clear hs3 hF)
    | fail)
  refine wp_region_mixS 13 (by kernel_rfl) (by kernel_rfl) fun Fin hFin => ?_
  simp only [List.take_succ_cons, List.take_zero]
  iterate 12 (first
    | ((with_reducible refine mix_ld LQ ?_ (Chg.refl _) (fun _ => by kernel_rfl) 35 _ rfl w.heap.size 8 (fun _ => by kernel_rfl) _ (fun w1 hR => rangeAt_same Hrq.out (Same.trans HS3.out hR)) Tryz.underlying35 rfl (by rw [Hlq.out]; exact infoQ) ?_ ?_); rotate_left; · (intro e; simp only [puts]; rfl))
    | (refine mix_lit ?_ ?_ (Chg.refl _) ?_ ?_ ?_ ?_
       rotate_left; rotate_left
       · intro e w1 hR hF K hK; (obtain ⟨k0, k1⟩ := Hk3.out _ (Same.trans (Same.trans Hs2.out HS3.out) hR)); go_simp; (refine hK _ _ (Chg.refl _ _) ?_; rfl)
       · intro e; simp only [puts]; rfl
       · exact Loc.const _ _))
  refine mix_letS (fun _ v w' => ∃ A c, v = .agg #[.int .i64 N, .slice A ls.length c] ∧ Rd w' A (is ls) ∧ ls.length ≤ c ∧ c ≤ maxLen ∧ ∀ b, blkOf A = some b → w3.heap.size ≤ b) ?_ (by exact Loc.const _ _) ?_ ?_ ?_ ?_ ?_
  rotate_left
  · rintro e u w1 w2 hs ⟨A, c, rfl, h1, h2, h3, h4⟩; exact ⟨A, c, rfl, h1.same hs, h2, h3, h4⟩
  · intro e; rfl
  · intro e w1 hR hF K hK
    go_simp
    go_at_call 37
    have hF2 := HPl.out w1 (Same.trans (Same.trans Hs2.out HS3.out) hR)
    (with_reducible refine hF2.mono ?_)
    rintro _ w4 ⟨A, c, rfl, h1, h2, h3, h4, h5⟩
    exact hK _ _ _ h4 ⟨A, c, rfl, h1, h2, h3, fun b hb => Nat.le_trans hR.size (h5 b hb)⟩ rfl
  · intro e; simp only [puts]; rfl
  refine mix_nil fun e w1 hR hF => hFin _ _ ?_
  simp only [List.drop_succ_cons, List.drop_zero]
  obtain ⟨A, c, h12, r1, b1, m1, f1⟩ := (show ∃ A c, e 12 = .agg #[.int .i64 N, .slice A ls.length c] ∧ Rd w1 A (is ls) ∧ ls.length ≤ c ∧ c ≤ maxLen ∧ ∀ b, blkOf A = some b → w3.heap.size ≤ b from hF 12 (by decide))
  rw [h12]
  clear h12 hF hFin
  have HS4 := hide (Same.trans HS3.out hR)
  have HRr := hide r1
  have HFb := hide f1
  have HBm := hide (And.intro b1 m1)
  have Hz4 := hide (Nat.le_trans (Nat.le_of_eq Hz2.out.symm) (Nat.le_trans HS3.out.size hR.size))
  clear r1 b1 m1 f1 hR hka hkf HA3
  rcases cb with _ | _
  · simp only [Bool.false_eq_true, if_false] at HTo HEnd
    have hka1 := (Hb1.out.same HS4.out).cell
    go_wp2_with (first
      | (go_at_call 36; have hF := HTo.out; (with_reducible refine (hF _ _ _).mono ?_); rintro e2 w5 ⟨rfl, hs5⟩; have HS5 := hide (Same.trans HS4.out hs5); have HRr5 := hide (HRr.out.same hs5); have HA5 := hide (Hb1.out.same (Same.trans HS4.out hs5)); have hka := HA5.out.cell; have hkf := HA5.out.frozen; clear hs5 hF)
      | fail)
    have hb9 := Blk.put5 HA5.out (.int .i64 0) (.bool true) (.bool true) (.int .i64 N) (.slice A ls.length c)
    have hc9 := Chg.put5 (S := fun k => k = w.heap.size + 1) (w := w5) (Chg.refl _ _) (.inl rfl) (.int .i64 0) (.bool true) (.bool true) (.int .i64 N) (.slice A ls.length c)
    have HSw := Chg.trans (S := fun k => k = g) (Chg.of_same (Same.trans Hs2.out HS5.out) (Chg.refl (fun k => k = g) _)) hc9 fun k hk e => by omega
    have hne : blkOf A ≠ some (w.heap.size + 1) := fun e => by
      have h7 := HFb.out _ e
      have h8 := HS3.out.size
      rw [Hz2.out] at h8
      omega
    obtain ⟨A', c', he, hrp⟩ := HEnd.out _ A c (Rd.put5 HRr5.out hne (.int .i64 0) (.bool true) (.bool true) (.int .i64 N) (.slice A ls.length c)) HBm.out.1 HBm.out.2
    refine bodyPost_ret (results_cell_row rfl _ _ _ _ _ _ _ rfl hb9 Tryz.underlying43 rfl (by kernel_rfl)) rfl ⟨A', c', he, hrp, ⟨AP, cp, AS, cs, (H.out.same (Same.trans Hs2.out HS5.out)).chg hc9 (fun e => hgb e.symm) (fun b hb e => ?_) (fun b hb e => ?_)⟩, HSw⟩
    · have := HLP.out b hb; omega
    · have := HLS.out b hb; omega
  · simp only [if_true] at HTo HEnd
    have hka1 := (Hb1.out.same HS4.out).cell
    go_wp2_with (first
      | (go_at_call 36; have hF := HTo.out; (with_reducible refine (hF _ _ _).mono ?_); rintro e2 w5 ⟨rfl, hs5⟩; have HS5 := hide (Same.trans HS4.out hs5); have HRr5 := hide (HRr.out.same hs5); have HA5 := hide (Hb1.out.same (Same.trans HS4.out hs5)); have hka := HA5.out.cell; have hkf := HA5.out.frozen; clear hs5 hF)
      | fail)
    have hb9 := Blk.put5 HA5.out (.int .i64 0) (.bool true) (.bool false) (.int .i64 N) (.slice none 0 0)
    have hc9 := Chg.put5 (S := fun k => k = w.heap.size + 1) (w := w5) (Chg.refl _ _) (.inl rfl) (.int .i64 0) (.bool true) (.bool false) (.int .i64 N) (.slice none 0 0)
    have HSw := Chg.trans (S := fun k => k = g) (Chg.of_same (Same.trans Hs2.out HS5.out) (Chg.refl (fun k => k = g) _)) hc9 fun k hk e => by omega
    have hne : blkOf A ≠ some (w.heap.size + 1) := fun e => by
      have h7 := HFb.out _ e
      have h8 := HS3.out.size
      rw [Hz2.out] at h8
      omega
    obtain ⟨A', c', he, hrp⟩ := HEnd.out _ A c (Rd.put5 HRr5.out hne (.int .i64 0) (.bool true) (.bool false) (.int .i64 N) (.slice none 0 0)) HBm.out.1 HBm.out.2
    refine bodyPost_ret (results_cell_row rfl _ _ _ _ _ _ _ rfl hb9 Tryz.underlying43 rfl (by kernel_rfl)) rfl ⟨A', c', he, hrp, ⟨AP, cp, AS, cs, (H.out.same (Same.trans Hs2.out HS5.out)).chg hc9 (fun e => hgb e.symm) (fun b hb e => ?_) (fun b hb e => ?_)⟩, HSw⟩
    · have := HLP.out b hb; omega
    · have := HLS.out b hb; omega
theorem doesRf_any {g cp cs : Nat} {AP AS : Option Addr} {most : Int} {p s : List P3} (r : Rq) (w : World) (h : SetR w g AP cp AS cs most p s) (hp : p.length ≤ 65535) (hs : s.length ≤ 65535) (sp : Srt p) (ss : Srt s) (hg : goodR r = true) :
    Calls Tryz.prog 18 #[.pointer (some ⟨g, 0, none⟩), rqV r] w (DoesREnd w g (doesA r p s most) most (doesP r p s most) (doesS r p s most)) := by
  by_cases hk : r.k = 1
  · obtain ⟨e1, e2, e3⟩ := doesA_1 hg hk p s most
    rw [e1, e2, e3]
    exact doesRf_1 r w h hp hs sp ss hk
  · obtain ⟨e1, e2, e3⟩ := doesA_2 hg hk p s most
    rw [e1, e2, e3]
    by_cases hc : checkE r.q = 0
    · exact doesRf_3 r w h hp hs sp ss hk hc
    · rw [told_badq hc]
      exact doesRf_2 r w h hk hc
end Go.Proofs.YtlimpepdelpogaaGreatDoor
