/-
  history.Does: the reply to any request, and what it leaves. Conditions: at most 1048576 entries; numbers that an int holds.
-/
import Derived.Test.YtenkdjfikppkdaaGreatDoorHsA
import Derived.Test.YtenkdjfikppkdaaGreatDoorQyF
import Derived.Test.YtenkdjfikppkdaaGreatDoorTdE
namespace Go.Proofs.YtenkdjfikppkdaaGreatDoor
open Go.RowKit Go.Al
set_option linter.unusedVariables false

/-- how a request ends that is done to a table -/
def DoesEnd (w : World) (g pm sm : Nat) (most : Int) (p s : List P3) (r : Rq) (e : Ending) (w' : World) : Prop :=
  ∃ A c, e = .returned (.tuple #[rpV ((doesA r p s most).at_ A c), .int .i64 (doesE r)]) ∧ RpAt w' ((doesA r p s most).at_ A c) ∧ Tab w' g pm sm most (doesP r p s most) (doesS r p s most) ∧ Chg (fun k => k = pm ∨ k = sm) w w' ∧ ∀ b, blkOf A = some b → w.heap.size ≤ b

theorem lst_len (q : Qy) (p s : List P3) (hp : p.length ≤ 1048576) (hs : s.length ≤ 1048576) : (lstOf q p s).length ≤ 1048576 := by
  unfold lstOf idsOf
  split
  · exact Nat.zero_le _
  · split
    · rw [List.length_map]; exact Nat.le_trans (List.length_filter_le _ _) hp
    · rw [List.length_map]; exact Nat.le_trans (List.length_filter_le _ _) hs
theorem Tab.lens {w : World} {g pm sm : Nat} {most : Int} {p s : List P3} (h : Tab w g pm sm most p s) : p.length ≤ 1048576 ∧ s.length ≤ 1048576 := by
  have := h.room; have := h.bound; omega

set_option maxRecDepth 100000 in
set_option maxHeartbeats 4000000 in
theorem does_bad {g pm sm : Nat} {most : Int} {p s : List P3} (r : Rq) (w : World) (h : Tab w g pm sm most p s) (hg : goodR r = false) :
    Calls Tryz.prog 27 #[.pointer (some ⟨g, 0, none⟩), rqV r] w (DoesEnd w g pm sm most p s r) := by
  have hs1 := ((Chg.refl (fun _ => False) w).alloc (.cells (rqL r).toArray 38)).alloc (.cells #[.int .i64 0, .bool false, .bool false, .int .i64 0, .slice none 0 0] 44)
  have hb := Blk.new (w.alloc (.cells (rqL r).toArray 38)) 44 #[.int .i64 0, .bool false, .bool false, .int .i64 0, .slice none 0 0]
  simp only [World.size_alloc] at hb
  have Hs1 := hide hs1
  have Hb := hide hb
  have HT := hide h
  have HG := hide (Good_req r)
  rw [hg] at HG
  have HR : Hid (∀ w', Same w w' → DoesEnd w g pm sm most p s r (.returned (.tuple #[.agg #[.int .i64 0, .bool false, .bool false, .int .i64 0, .slice none 0 0], .int .i64 8])) w') := hide fun w' hs => by
    have e1 : doesA r p s most = code 0 := by unfold doesA; rw [hg]; rfl
    have e2 : doesE r = 8 := by unfold doesE; rw [hg]; rfl
    have e3 : doesP r p s most = p := by unfold doesP; rw [hg]; rfl
    have e4 : doesS r p s most = s := by unfold doesS; rw [hg]; rfl
    unfold DoesEnd
    rw [e1, e2, e3, e4]
    exact ⟨none, 0, rfl, ⟨Rd.nil _ _, Nat.le_refl _, Nat.zero_le _⟩, h.same hs, hs.to, fun b hb => by simp [blkOf] at hb⟩
  clear hs1 hb hg h
  obtain ⟨k, ⟨ck, ⟨p1, p2, p3⟩, ⟨s1, s2, s3⟩⟩, ⟨qk, a, b, c, d, e, f, q7, x, y⟩⟩ := r
  unfold rqV at HG ⊢
  simp only [rqL, cgL, qL, List.cons_append, List.nil_append] at Hs1 Hb HG HR ⊢
  go_enter Tryz.func27, Tryz.ntmps27
  go_wp2_with (go_at_call 51; have hF := HG.out; refine (hF _).mono ?_; rintro e' w2 ⟨rfl, hs⟩; have Hs2 := hide hs; have Hb2 := hide (Hb.out.same hs); have hkb := (Hb.out.same hs).cell; have hfb := (Hb.out.same hs).frozen; clear hs hF)
  have hb3 := Blk.put5 Hb2.out (.int .i64 0) (.bool false) (.bool false) (.int .i64 0) (.slice none 0 0)
  refine bodyPost_ret (results_cell2 rfl rfl hb3 Tryz.underlying44 rfl (by kernel_rfl)) rfl ?_
  have hfin := HR.out _ (Chg.put5 (g := w.heap.size + 1) (Hs1.out.same Hs2.out) (.inr (by omega)) (.int .i64 0) (.bool false) (.bool false) (.int .i64 0) (.slice none 0 0))
  exact hfin

set_option maxRecDepth 100000 in
set_option maxHeartbeats 8000000 in
theorem does_change {g pm sm : Nat} {most : Int} {p s : List P3} (r : Rq) (w : World) (h : Tab w g pm sm most p s) (hw : WfC r.c) (hg : goodR r = true) (hk : r.k = 1) :
    Calls Tryz.prog 27 #[.pointer (some ⟨g, 0, none⟩), rqV r] w (DoesEnd w g pm sm most p s r) := by
  have hs1 := ((Chg.refl (fun _ => False) w).alloc (.cells (rqL r).toArray 38)).alloc (.cells #[.int .i64 0, .bool false, .bool false, .int .i64 0, .slice none 0 0] 44)
  have hb := Blk.new (w.alloc (.cells (rqL r).toArray 38)) 44 #[.int .i64 0, .bool false, .bool false, .int .i64 0, .slice none 0 0]
  have hq := (Blk.new w 38 (rqL r).toArray).alloc (.cells #[.int .i64 0, .bool false, .bool false, .int .i64 0, .slice none 0 0] 44)
  simp only [World.size_alloc] at hb
  have Hs1 := hide hs1
  have Hb := hide hb
  have Hq := hide hq
  have HT := hide h
  have Hwc := hide hw
  have Hlt := hide (And.intro h.blk.lt (And.intro h.mp.lt h.ms.lt))
  have HG := hide (Good_req r)
  rw [hg] at HG
  have HR : Hid (∀ w', Tab w' g pm sm most (doP' p s most r.c) (doS' p s most r.c) → Chg (fun k => k = pm ∨ k = sm) w w' → DoesEnd w g pm sm most p s r (.returned (.tuple #[.agg #[.int .i64 (mayE p s most r.c), .bool false, .bool false, .int .i64 0, .slice none 0 0], .int .i64 0])) w') := hide fun w' ht hc => by
    have e1 : doesA r p s most = code (mayE p s most r.c) := by unfold doesA; rw [hg, if_pos rfl, if_pos hk]
    have e2 : doesE r = 0 := by unfold doesE; rw [hg]; rfl
    have e3 : doesP r p s most = doP' p s most r.c := by unfold doesP; rw [hg, hk]; rfl
    have e4 : doesS r p s most = doS' p s most r.c := by unfold doesS; rw [hg, hk]; rfl
    unfold DoesEnd
    rw [e1, e2, e3, e4]
    exact ⟨none, 0, rfl, ⟨Rd.nil _ _, Nat.le_refl _, Nat.zero_le _⟩, ht, hc, fun b hb => by simp [blkOf] at hb⟩
  have HD := hide (fun w' (hs : Same w w') => do_any r.c w' (h.same hs) hw)
  clear hs1 hb hq hg h hw
  obtain ⟨k, cc, ⟨qk, a, b, c, d, e, f, q7, x, y⟩⟩ := r
  simp only at hk HD HR Hwc
  subst hk
  obtain ⟨bk, hbk⟩ : ∃ bk, doB p s most cc = bk := ⟨_, rfl⟩
  obtain ⟨m, hm⟩ : ∃ m, mayE p s most cc = m := ⟨_, rfl⟩
  rw [hbk, hm] at HD
  rw [hm] at HR
  clear hbk hm
  obtain ⟨bk, ⟨b1, b2, b3⟩, ⟨b4, b5, b6⟩⟩ := bk
  obtain ⟨ck, ⟨p1, p2, p3⟩, ⟨s1, s2, s3⟩⟩ := cc
  unfold rqV at HG ⊢
  unfold cgV at HD
  simp only [rqL, cgL, qL, List.cons_append, List.nil_append] at Hs1 Hb Hq HG HD ⊢
  go_enter Tryz.func27, Tryz.ntmps27
  go_wp2_with (first
    | (go_at_call 51; have hF := HG.out; refine (hF _).mono ?_; rintro e' w2 ⟨rfl, hs⟩; have Hs2 : Hid (Same w w2) := hide (Hs1.out.same hs); have Hb2 := hide (Hb.out.same hs); have hkq := (Hq.out.same hs).cell; clear hs hF)
    | (go_at_call 52; have hF := HD.out _ Hs2.out; refine hF.mono ?_; rintro e' w3 ⟨rfl, ht3, hc3⟩; have HT3 := hide ht3; have HC3 := hide hc3; have Hb3 := hide (Hb2.out.chg hc3 (fun e => by have := Hlt.out; omega)); have hz3 := hc3.size; have hl3 := Hb3.out.lt; clear ht3 hc3 hF)
    | (go_at_call 53; refine (changed_any _ _).mono ?_; rintro e' w4 ⟨rfl, hs⟩; have Hs4 : Hid (Same w3 w4) := hide (Same.trans ((Chg.refl _ w3).alloc _) hs); have hkb := ((Hb3.out.alloc _).same hs).cell; have hfb := ((Hb3.out.alloc _).same hs).frozen; clear hs))
  have hb5 := Blk.put5 (Hb3.out.same Hs4.out) (.int .i64 m) (.bool false) (.bool false) (.int .i64 0) (.slice none 0 0)
  have hput := Chg.put5 (S := fun k => k = w.heap.size + 1) (g := w.heap.size + 1) (Chg.refl _ w4) (.inl rfl) (.int .i64 m) (.bool false) (.bool false) (.int .i64 0) (.slice none 0 0)
  have hlt := Hlt.out
  refine bodyPost_ret (results_cell2 rfl rfl hb5 Tryz.underlying44 rfl (by kernel_rfl)) rfl ?_
  have hfin := (HR.out _ ((HT3.out.same Hs4.out).chg hput (by omega) (by omega) (by omega)) (Chg.put5 ((Chg.of_same Hs2.out HC3.out).same Hs4.out) (.inr (by omega)) _ _ _ _ _))
  exact hfin
end Go.Proofs.YtenkdjfikppkdaaGreatDoor
