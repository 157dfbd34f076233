/-
  The table's Do, as one contract; Point, Span, Len, Most; what is told of no table; the law's own 'lives'. Condition: ids that an int holds.
-/
import Derived.Test.YtenkdjfikppkdaaGreatDoorTbD
namespace Go.Proofs.YtenkdjfikppkdaaGreatDoor
open Go.RowKit Go.Al
set_option linter.unusedVariables false

/-! Do in one contract -/
def doB (p s : List P3) (most : Int) (c : Cg) : Cg := if mayE p s most c = 0 then backC p s c else ⟨0, z3, z3⟩
def doP' (p s : List P3) (most : Int) (c : Cg) : List P3 := if mayE p s most c = 0 then doP p c else p
def doS' (p s : List P3) (most : Int) (c : Cg) : List P3 := if mayE p s most c = 0 then doS s c else s
theorem may_zero {p s : List P3} {most : Int} {c : Cg} (h : mayE p s most c = 0) :
    (c.k = 1 ∨ c.k = 2 ∨ c.k = 3 ∨ c.k = 4) ∧ (addsC c = true → isC p s c = false ∧ (p.length : Int) + (s.length : Int) < most) ∧ (addsC c = false → isC p s c = true) ∧ judgeE c = 0 := by
  unfold mayE at h
  by_cases hj : judgeE c = 0
  · rw [if_pos hj] at h
    refine ⟨?_, ?_, ?_, hj⟩
    · unfold judgeE at hj
      split at hj
      · omega
      · rename_i hn
        have : kindC c = true := by
          cases hk : kindC c
          · exact absurd (.inl hk) hn
          · rfl
        simpa [kindC] using this
    · intro ha
      rw [if_pos ha] at h
      cases hi : isC p s c
      · rw [hi] at h
        refine ⟨rfl, ?_⟩
        by_cases hl : most ≤ (p.length : Int) + (s.length : Int)
        · rw [if_pos hl] at h; simp at h
        · omega
      · rw [hi] at h; simp at h
    · intro ha
      rw [if_neg (by simp [ha])] at h
      cases hi : isC p s c
      · rw [hi] at h; simp at h
      · rfl
  · rw [if_neg hj] at h
    exact absurd h hj
theorem do_any {g pm sm : Nat} {most : Int} {p s : List P3} (c : Cg) (w : World) (h : Tab w g pm sm most p s) (hw : WfC c) :
    Calls Tryz.prog 52 #[.pointer (some ⟨g, 0, none⟩), cgV c] w fun e w' => e = .returned (.tuple #[cgV (doB p s most c), .int .i64 (mayE p s most c)]) ∧
      Tab w' g pm sm most (doP' p s most c) (doS' p s most c) ∧ Chg (fun k => k = pm ∨ k = sm) w w' := by
  unfold doB doP' doS'
  have hne := h.ne
  have hgp := h.gp
  have hgs := h.gs
  have hr := h.room
  by_cases hm : mayE p s most c = 0
  · rw [if_pos hm, if_pos hm, if_pos hm, hm]
    obtain ⟨hk, hadd, hdrop, _⟩ := may_zero hm
    obtain ⟨k, q, x⟩ := c
    simp only at hk
    rcases hk with rfl | rfl | rfl | rfl
    · obtain ⟨h1, h2⟩ := hadd rfl
      have h3 : hasK p q.1 = false := h1
      exact (do_1 q x w h hw hm).mono fun e w' ⟨he, hM, hc⟩ => ⟨he, ⟨h.blk.chg hc hgp, hM, h.ms.chg hc (fun e => hne e.symm), h.ne, h.gp, h.gs, (by show ((put3 q p).length : Int) + (s.length : Int) ≤ most; rw [len_put3 h3]; omega), h.bound⟩, hc.mono fun _ _ e => .inl e⟩
    · have h3 : hasK p q.1 = true := hdrop rfl
      exact (do_2 q x w h hw hm).mono fun e w' ⟨he, hM, hc⟩ => ⟨he, ⟨h.blk.chg hc hgp, hM, h.ms.chg hc (fun e => hne e.symm), h.ne, h.gp, h.gs, (by show ((del3 q.1 p).length : Int) + (s.length : Int) ≤ most; have := len_del3 h.mp.2 h3; omega), h.bound⟩, hc.mono fun _ _ e => .inl e⟩
    · obtain ⟨h1, h2⟩ := hadd rfl
      have h3 : hasK s x.1 = false := h1
      exact (do_3 q x w h hw hm).mono fun e w' ⟨he, hM, hc⟩ => ⟨he, ⟨h.blk.chg hc hgs, h.mp.chg hc hne, hM, h.ne, h.gp, h.gs, (by show (p.length : Int) + ((put3 x s).length : Int) ≤ most; rw [len_put3 h3]; omega), h.bound⟩, hc.mono fun _ _ e => .inr e⟩
    · have h3 : hasK s x.1 = true := hdrop rfl
      exact (do_4 q x w h hw hm).mono fun e w' ⟨he, hM, hc⟩ => ⟨he, ⟨h.blk.chg hc hgs, h.mp.chg hc hne, hM, h.ne, h.gp, h.gs, (by show (p.length : Int) + ((del3 x.1 s).length : Int) ≤ most; have := len_del3 h.ms.2 h3; omega), h.bound⟩, hc.mono fun _ _ e => .inr e⟩
  · rw [if_neg hm, if_neg hm, if_neg hm]
    exact (do_bad c w h hw hm).mono fun e w' ⟨he, hs⟩ => ⟨he, h.same hs, hs.to⟩

set_option maxHeartbeats 400000 in
theorem len_any {g pm sm : Nat} {most : Int} {p s : List P3} (w : World) (h : Tab w g pm sm most p s) :
    Calls Tryz.prog 26 #[.pointer (some ⟨g, 0, none⟩)] w fun e w' => e = .returned (.int .i64 ((p.length : Int) + (s.length : Int))) ∧ Same w w' := by
  have HS := hide (size_any w h)
  clear h
  go_enter Tryz.func26, Tryz.ntmps26
  go_wp2_with (go_at_call 50; have hF := HS.out; refine hF.mono ?_; rintro e w1 ⟨rfl, hs1⟩; have Hs1 := hide hs1; clear hs1 hF)
  go_ret
  exact ⟨rfl, Hs1.out⟩
/-! no table -/
set_option maxHeartbeats 400000 in
theorem size_nil (w : World) : Calls Tryz.prog 50 #[.pointer none] w fun e w' => e = .returned (.int .i64 0) ∧ Same w w' := by
  go_enter Tryz.func50, Tryz.ntmps50
  go_wp2_with fail
  go_ret
  exact ⟨rfl, Chg.refl _ _⟩
set_option maxHeartbeats 400000 in
theorem points_nil (w : World) : Calls Tryz.prog 17 #[.pointer none] w fun e w' => e = .returned (.slice none 0 0) ∧ Same w w' := by
  go_enter Tryz.func17, Tryz.ntmps17
  go_wp2_with fail
  go_ret
  exact ⟨rfl, Chg.refl _ _⟩
set_option maxHeartbeats 400000 in
theorem spans_nil (w : World) : Calls Tryz.prog 18 #[.pointer none] w fun e w' => e = .returned (.slice none 0 0) ∧ Same w w' := by
  go_enter Tryz.func18, Tryz.ntmps18
  go_wp2_with fail
  go_ret
  exact ⟨rfl, Chg.refl _ _⟩
set_option maxHeartbeats 400000 in
theorem len_nil (w : World) : Calls Tryz.prog 26 #[.pointer none] w fun e w' => e = .returned (.int .i64 0) ∧ Same w w' := by
  go_enter Tryz.func26, Tryz.ntmps26
  go_wp2_with (go_at_call 50; refine (size_nil _).mono ?_; rintro e w1 ⟨rfl, hs1⟩; have Hs1 := hide hs1; clear hs1)
  go_ret
  exact ⟨rfl, Hs1.out⟩
set_option maxHeartbeats 400000 in
theorem may_nil (c : Cg) (w : World) : Calls Tryz.prog 84 #[.pointer none, cgV c] w fun e w' => e = .returned (.int .i64 1) ∧ Same w w' := by
  obtain ⟨k, ⟨pi, px, py⟩, ⟨si, lo, hi⟩⟩ := c
  unfold cgV
  go_enter Tryz.func84, Tryz.ntmps84
  go_wp2_with fail
  go_ret
  exact ⟨rfl, (Chg.refl _ w).alloc _⟩
set_option maxRecDepth 100000 in
set_option maxHeartbeats 1000000 in
theorem do_nil (c : Cg) (w : World) :
    Calls Tryz.prog 52 #[.pointer none, cgV c] w fun e w' => e = .returned (.tuple #[cgV ⟨0, z3, z3⟩, .int .i64 1]) ∧ Same w w' := by
  have HM := hide (fun w' => may_nil c w')
  have hs : Same w ((w.alloc (.cells (bx c) 30)).alloc (.cells (bx ⟨0, z3, z3⟩) 30)) := ((Chg.refl _ w).alloc _).alloc _
  have hb := Blk.new (w.alloc (.cells (bx c) 30)) 30 (bx ⟨0, z3, z3⟩)
  rw [show (w.alloc (.cells (bx c) 30)).heap.size = w.heap.size + 1 by simp] at hb
  have Hs := hide hs
  have Hb := hide hb
  clear hs hb
  obtain ⟨k, ⟨pi, px, py⟩, ⟨si, lo, hi⟩⟩ := c
  unfold cgV bx z3 at *
  go_enter Tryz.func52, Tryz.ntmps52
  go_wp2_with (go_at_call 84; refine (HM.out _).mono ?_; rintro e w1 ⟨rfl, hs1⟩; have hk1 := (Hb.out.same hs1).cell; have hz1 := (Hb.out.same hs1).frozen; have bb1 := (Hb.out.same hs1).lt; have Hs1 := hide hs1; clear hs1)
  refine bodyPost_ret (results_cell2 rfl rfl (Blk.put7 (Hb.out.same Hs1.out) _ _ _ _ _ _ _) Tryz.underlying30 rfl (by kernel_rfl)) rfl ⟨rfl, Chg.put7 (Hs.out.trans Hs1.out) (.inr (by omega)) _ _ _ _ _ _ _⟩
end Go.Proofs.YtenkdjfikppkdaaGreatDoor
