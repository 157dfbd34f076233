/-
  The table as a thing in memory: New, size, Len, Most, Point, Span, is, may, May. Condition: at most 1048576 entries.
-/
import Derived.Test.YtopkdiiigidfdaaGreatTbA
namespace Go.Proofs.YtopkdiiigidfdaaGreat
open Go.RowKit Go.Al
set_option linter.unusedVariables false

theorem zeroP (w : World) : (zeroValue 23).run Tryz.prog w = .ok (agg3 (0, 0, 0)) w := by kernel_rfl
theorem zeroS (w : World) : (zeroValue 25).run Tryz.prog w = .ok (agg3 (0, 0, 0)) w := by kernel_rfl

abbrev MapI (w : World) (b : Nat) (l : List P3) : Prop := MapAt Tryz.prog 3 w b l
/-- a table: its block, the two maps' blocks, how many may be, the points and the intervals by rising ids -/
structure Tab (w : World) (g pm sm : Nat) (most : Int) (p s : List P3) : Prop where
  blk : Blk w g 85 #[.map (some pm), .map (some sm), .int .i64 most]
  mp : MapI w pm p
  ms : MapI w sm s
  ne : pm ≠ sm
  gp : g ≠ pm
  gs : g ≠ sm
  room : (p.length : Int) + (s.length : Int) ≤ most
  bound : most ≤ 1048576
theorem Tab.chg {S : Nat → Prop} {w w' : World} {g pm sm : Nat} {most : Int} {p s : List P3} (h : Tab w g pm sm most p s) (hc : Chg S w w') (h1 : ¬ S g) (h2 : ¬ S pm) (h3 : ¬ S sm) : Tab w' g pm sm most p s :=
  ⟨h.blk.chg hc h1, h.mp.chg hc h2, h.ms.chg hc h3, h.ne, h.gp, h.gs, h.room, h.bound⟩
theorem Tab.same {w w' : World} {g pm sm : Nat} {most : Int} {p s : List P3} (h : Tab w g pm sm most p s) (hc : Same w w') : Tab w' g pm sm most p s :=
  h.chg hc (fun h => h) (fun h => h) fun h => h

set_option maxHeartbeats 400000 in
theorem tnew_bad (most : Int) (w : World) (h : most < 1 ∨ 1048576 < most) :
    Calls Tryz.prog 7 #[.int .i64 most] w fun e w' => e = .returned (.tuple #[.pointer none, .int .i64 1]) ∧ w = w' := by
  by_cases h1 : most < 1
  · clear h
    go_enter Tryz.func7, Tryz.ntmps7
    go_wp2_with fail
    go_ret2
    exact ⟨rfl, rfl⟩
  · have h2 : 1048576 < most := by omega
    clear h
    go_enter Tryz.func7, Tryz.ntmps7
    go_wp2_with fail
    go_ret2
    exact ⟨rfl, rfl⟩
set_option maxHeartbeats 400000 in
theorem tnew_any (most : Int) (w : World) (h1 : 1 ≤ most) (h2 : most ≤ 1048576) :
    Calls Tryz.prog 7 #[.int .i64 most] w fun e w' => ∃ g pm sm, e = .returned (.tuple #[.pointer (some ⟨g, 0, none⟩), .int .i64 0]) ∧ Same w w' ∧ Tab w' g pm sm most [] [] ∧ w.heap.size ≤ g ∧ w.heap.size ≤ pm ∧ w.heap.size ≤ sm := by
  have hmm := @run_makeMap Tryz.prog
  go_enter Tryz.func7, Tryz.ntmps7
  go_wp2_with fail
  go_ret2
  have s1 : Same w (w.alloc (.map #[] 0)) := (Chg.refl _ w).alloc _
  have s2 : Same w ((w.alloc (.map #[] 0)).alloc (.map #[] 0)) := s1.alloc _
  have s3 : Same w (((w.alloc (.map #[] 0)).alloc (.map #[] 0)).alloc (.cells #[.map (some w.heap.size), .map (some (w.heap.size + 1)), .int .i64 most] 85)) := s2.alloc _
  have m1 := MapAt.made Tryz.prog 3 w
  have m2 := MapAt.made Tryz.prog 3 (w.alloc (.map #[] 0))
  have s23 : Same (w.alloc (.map #[] 0)) (((w.alloc (.map #[] 0)).alloc (.map #[] 0)).alloc (.cells #[.map (some w.heap.size), .map (some (w.heap.size + 1)), .int .i64 most] 85)) := ((Chg.refl _ _).alloc _).alloc _
  have s33 : Same ((w.alloc (.map #[] 0)).alloc (.map #[] 0)) (((w.alloc (.map #[] 0)).alloc (.map #[] 0)).alloc (.cells #[.map (some w.heap.size), .map (some (w.heap.size + 1)), .int .i64 most] 85)) := (Chg.refl _ _).alloc _
  have e1 : (w.alloc (.map #[] 0)).heap.size = w.heap.size + 1 := by simp
  have e2 : ((w.alloc (.map #[] 0)).alloc (.map #[] 0)).heap.size = w.heap.size + 1 + 1 := by simp
  have hb := Blk.new ((w.alloc (.map #[] 0)).alloc (.map #[] 0)) 85 #[.map (some w.heap.size), .map (some (w.heap.size + 1)), .int .i64 most]
  rw [e2] at hb
  rw [e1] at m2
  exact ⟨w.heap.size + 1 + 1, w.heap.size, w.heap.size + 1, rfl, s3, ⟨hb, m1.same s23, m2.same s33, by omega, by omega, by omega, by simp; omega, h2⟩, by omega, by omega, by omega⟩

set_option maxHeartbeats 400000 in
theorem size_any {g pm sm : Nat} {most : Int} {p s : List P3} (w : World) (h : Tab w g pm sm most p s) :
    Calls Tryz.prog 77 #[.pointer (some ⟨g, 0, none⟩)] w fun e w' => e = .returned (.int .i64 ((p.length : Int) + (s.length : Int))) ∧ Same w w' := by
  have hk := h.blk.cell
  have hl1 : ∀ k, (Builtin.len_ #[82] 3 #[.map (some pm)]).run Tryz.prog (w.drewN k) = .ok (.int .i64 p.length) (w.drewN k) := fun k => (h.mp.same (Same.of_drewN w k)).len Tryz.underlying82 _
  have hl2 : ∀ k, (Builtin.len_ #[83] 3 #[.map (some sm)]).run Tryz.prog (w.drewN k) = .ok (.int .i64 s.length) (w.drewN k) := fun k => (h.ms.same (Same.of_drewN w k)).len Tryz.underlying83 _
  have hr := h.room
  have hb := h.bound
  have hw : IntKind.i64.wrap ((p.length : Int) + (s.length : Int)) = (p.length : Int) + (s.length : Int) := IntWalk.i64_in _ (by omega)
  generalize p.length = a at *
  generalize s.length = b at *
  clear h hr hb
  go_enter Tryz.func77, Tryz.ntmps77
  go_wp2_with fail
  go_quiet (fail)
  go_wp2_with fail
  go_ret
  exact ⟨by simp, Same.of_drewN _ _⟩

def isC (p s : List P3) (c : Cg) : Bool := if c.k = 1 ∨ c.k = 2 then hasK p (idC c) else hasK s (idC c)
def WfC (c : Cg) : Prop := (Lit.int .i64 c.p.1).wf = true ∧ (Lit.int .i64 c.s.1).wf = true
theorem WfC.id {c : Cg} (h : WfC c) : (Lit.int .i64 (idC c)).wf = true := by
  unfold idC
  split
  · exact h.1
  · split
    · exact h.2
    · rfl
set_option maxRecDepth 10000 in
set_option maxHeartbeats 1000000 in
theorem is_any {g pm sm : Nat} {most : Int} {p s : List P3} (c : Cg) (w : World) (h : Tab w g pm sm most p s) (hw : WfC c) :
    Calls Tryz.prog 100 #[.pointer (some ⟨g, 0, none⟩), cgV c] w fun e w' => e = .returned (.bool (isC p s c)) ∧ Same w w' := by
  have HI := hide (id_any c)
  have H := hide h
  have Hw := hide hw.id
  unfold isC
  have hbg := h.blk.lt
  generalize idC c = i at *
  generalize kindC c = kk at *
  clear h hw
  obtain ⟨k, ⟨pi, px, py⟩, ⟨si, lo, hi⟩⟩ := c
  unfold cgV at *
  have hs : Same w (w.alloc (.cells #[.int .i64 k, .int .i64 pi, .int .i64 px, .int .i64 py, .int .i64 si, .int .i64 lo, .int .i64 hi] 27)) := (Chg.refl _ w).alloc _
  have hb := Blk.new w 27 #[.int .i64 k, .int .i64 pi, .int .i64 px, .int .i64 py, .int .i64 si, .int .i64 lo, .int .i64 hi]
  have Hs := hide hs
  have Hb := hide hb
  clear hs hb
  by_cases h1 : k = 1
  · subst h1
    go_enter Tryz.func100, Tryz.ntmps100
    go_wp2_with (first
      | (go_at_call 151; refine (HI.out _).mono ?_; rintro e w1 ⟨rfl, hs1⟩; have hk1 := (Hb.out.same hs1).cell; have bb1 := (Hb.out.same hs1).lt; have hs2 := Hs.out.trans hs1; have hk2 := (H.out.same hs2).blk.cell; have bg2 := (H.out.same hs2).blk.lt; have Hs1 := hide hs2; clear hs1 hs2)
      | (at_lookup; refine wpList_look3 _ rfl _ _ 82 rfl Tryz.underlying3 Tryz.underlying82 (zeroP _) rfl rfl Hw.out (H.out.mp.same Hs1.out) ?_; generalize (find3 p i).getD (0, 0, 0) = v1; generalize hb1 : hasK p i = b1 at *; obtain ⟨x1, x2, x3⟩ := v1; unfold agg3)
      | (at_lookup; refine wpList_look3 _ rfl _ _ 83 rfl Tryz.underlying3 Tryz.underlying83 (zeroS _) rfl rfl Hw.out (H.out.ms.same (Chg.alloc Hs1.out _)) ?_; generalize (find3 s i).getD (0, 0, 0) = v2; generalize hb2 : hasK s i = b2 at *; obtain ⟨y1, y2, y3⟩ := v2; unfold agg3))
    go_ret
    exact ⟨by simp [*], ((Hs1.out.alloc _).alloc _)⟩
  · by_cases h2 : k = 2
    · subst h2
      go_enter Tryz.func100, Tryz.ntmps100
      go_wp2_with (first
        | (go_at_call 151; refine (HI.out _).mono ?_; rintro e w1 ⟨rfl, hs1⟩; have hk1 := (Hb.out.same hs1).cell; have bb1 := (Hb.out.same hs1).lt; have hs2 := Hs.out.trans hs1; have hk2 := (H.out.same hs2).blk.cell; have bg2 := (H.out.same hs2).blk.lt; have Hs1 := hide hs2; clear hs1 hs2)
        | (at_lookup; refine wpList_look3 _ rfl _ _ 82 rfl Tryz.underlying3 Tryz.underlying82 (zeroP _) rfl rfl Hw.out (H.out.mp.same Hs1.out) ?_; generalize (find3 p i).getD (0, 0, 0) = v1; generalize hb1 : hasK p i = b1 at *; obtain ⟨x1, x2, x3⟩ := v1; unfold agg3)
        | (at_lookup; refine wpList_look3 _ rfl _ _ 83 rfl Tryz.underlying3 Tryz.underlying83 (zeroS _) rfl rfl Hw.out (H.out.ms.same (Chg.alloc Hs1.out _)) ?_; generalize (find3 s i).getD (0, 0, 0) = v2; generalize hb2 : hasK s i = b2 at *; obtain ⟨y1, y2, y3⟩ := v2; unfold agg3))
      go_ret
      exact ⟨by simp [*], ((Hs1.out.alloc _).alloc _)⟩
    · have e1 : (k == 1) = false := by simpa using h1
      have e2 : (k == 2) = false := by simpa using h2
      go_enter Tryz.func100, Tryz.ntmps100
      go_wp2_with (first
        | (go_at_call 151; refine (HI.out _).mono ?_; rintro e w1 ⟨rfl, hs1⟩; have hk1 := (Hb.out.same hs1).cell; have bb1 := (Hb.out.same hs1).lt; have hs2 := Hs.out.trans hs1; have hk2 := (H.out.same hs2).blk.cell; have bg2 := (H.out.same hs2).blk.lt; have Hs1 := hide hs2; clear hs1 hs2)
        | (at_lookup; refine wpList_look3 _ rfl _ _ 82 rfl Tryz.underlying3 Tryz.underlying82 (zeroP _) rfl rfl Hw.out (H.out.mp.same Hs1.out) ?_; generalize (find3 p i).getD (0, 0, 0) = v1; generalize hb1 : hasK p i = b1 at *; obtain ⟨x1, x2, x3⟩ := v1; unfold agg3)
        | (at_lookup; refine wpList_look3 _ rfl _ _ 83 rfl Tryz.underlying3 Tryz.underlying83 (zeroS _) rfl rfl Hw.out (H.out.ms.same (Chg.alloc Hs1.out _)) ?_; generalize (find3 s i).getD (0, 0, 0) = v2; generalize hb2 : hasK s i = b2 at *; obtain ⟨y1, y2, y3⟩ := v2; unfold agg3))
      go_ret
      exact ⟨by simp [*], ((Hs1.out.alloc _).alloc _)⟩
end Go.Proofs.YtopkdiiigidfdaaGreat
