/-
  The table as a thing in memory: New, size, Len, Most, Point, Span, is, may, May. Condition: at most 1048576 entries.
-/
import Derived.Test.YthjnecicagmdeaaGreatTbA
namespace Go.Proofs.YthjnecicagmdeaaGreat
open Go.RowKit Go.Al
set_option linter.unusedVariables false

theorem zeroP (w : World) : (zeroValue 40).run Tryz.prog w = .ok (agg3 (0, 0, 0)) w := by kernel_rfl
theorem zeroS (w : World) : (zeroValue 42).run Tryz.prog w = .ok (agg3 (0, 0, 0)) w := by kernel_rfl

abbrev MapI (w : World) (b : Nat) (l : List P3) : Prop := MapAt Tryz.prog 3 w b l
/-- a table: its block, the two maps' blocks, how many may be, the points and the intervals by rising ids -/
structure Tab (w : World) (g pm sm : Nat) (most : Int) (p s : List P3) : Prop where
  blk : Blk w g 86 #[.map (some pm), .map (some sm), .int .i64 most]
  mp : MapI w pm p
  ms : MapI w sm s
  ne : pm ≠ sm
  gp : g ≠ pm
  gs : g ≠ sm
  room : (p.length : Int) + (s.length : Int) ≤ most
  bound : most ≤ 1048576
theorem Tab.chg {S : Nat → Prop} {w w' : World} {g pm sm : Nat} {most : Int} {p s : List P3} (h : Tab w g pm sm most p s) (hc : Chg S w w') (h1 : ¬ S g) (h2 : ¬ S pm) (h3 : ¬ S sm) : Tab w' g pm sm most p s :=
  ⟨h.blk.chg hc h1, h.mp.chg hc h2, h.ms.chg hc h3, h.ne, h.gp, h.gs, h.room, h.bound⟩
theorem Tab.same {w w' : World} {g pm sm : Nat} {most : Int} {p s : List P3} (h : Tab w g pm sm most p s) (hc : Same w w') : Tab w' g pm sm most p s :=
  h.chg hc (fun h => h) (fun h => h) fun h => h

set_option maxHeartbeats 400000 in
theorem tnew_bad (most : Int) (w : World) (h : most < 1 ∨ 1048576 < most) :
    Calls Tryz.prog 27 #[.int .i64 most] w fun e w' => e = .returned (.tuple #[.pointer none, .int .i64 1]) ∧ w = w' := by
  by_cases h1 : most < 1
  · clear h
    go_enter Tryz.func27, Tryz.ntmps27
    go_wp2_with fail
    go_ret2
    exact ⟨rfl, rfl⟩
  · have h2 : 1048576 < most := by omega
    clear h
    go_enter Tryz.func27, Tryz.ntmps27
    go_wp2_with fail
    go_ret2
    exact ⟨rfl, rfl⟩
set_option maxHeartbeats 400000 in
theorem tnew_any (most : Int) (w : World) (h1 : 1 ≤ most) (h2 : most ≤ 1048576) :
    Calls Tryz.prog 27 #[.int .i64 most] w fun e w' => ∃ g pm sm, e = .returned (.tuple #[.pointer (some ⟨g, 0, none⟩), .int .i64 0]) ∧ Same w w' ∧ Tab w' g pm sm most [] [] ∧ w.heap.size ≤ g ∧ w.heap.size ≤ pm ∧ w.heap.size ≤ sm := by
  have hmm := @run_makeMap Tryz.prog
  go_enter Tryz.func27, Tryz.ntmps27
  go_wp2_with fail
  go_ret2
  have s1 : Same w (w.alloc (.map #[] 0)) := (Chg.refl _ w).alloc _
  have s2 : Same w ((w.alloc (.map #[] 0)).alloc (.map #[] 0)) := s1.alloc _
  have s3 : Same w (((w.alloc (.map #[] 0)).alloc (.map #[] 0)).alloc (.cells #[.map (some w.heap.size), .map (some (w.heap.size + 1)), .int .i64 most] 86)) := s2.alloc _
  have m1 := MapAt.made Tryz.prog 3 w
  have m2 := MapAt.made Tryz.prog 3 (w.alloc (.map #[] 0))
  have s23 : Same (w.alloc (.map #[] 0)) (((w.alloc (.map #[] 0)).alloc (.map #[] 0)).alloc (.cells #[.map (some w.heap.size), .map (some (w.heap.size + 1)), .int .i64 most] 86)) := ((Chg.refl _ _).alloc _).alloc _
  have s33 : Same ((w.alloc (.map #[] 0)).alloc (.map #[] 0)) (((w.alloc (.map #[] 0)).alloc (.map #[] 0)).alloc (.cells #[.map (some w.heap.size), .map (some (w.heap.size + 1)), .int .i64 most] 86)) := (Chg.refl _ _).alloc _
  have e1 : (w.alloc (.map #[] 0)).heap.size = w.heap.size + 1 := by simp
  have e2 : ((w.alloc (.map #[] 0)).alloc (.map #[] 0)).heap.size = w.heap.size + 1 + 1 := by simp
  have hb := Blk.new ((w.alloc (.map #[] 0)).alloc (.map #[] 0)) 86 #[.map (some w.heap.size), .map (some (w.heap.size + 1)), .int .i64 most]
  rw [e2] at hb
  rw [e1] at m2
  exact ⟨w.heap.size + 1 + 1, w.heap.size, w.heap.size + 1, rfl, s3, ⟨hb, m1.same s23, m2.same s33, by omega, by omega, by omega, by simp; omega, h2⟩, by omega, by omega, by omega⟩

def isC (p s : List P3) (c : Cg) : Bool := if c.k = 1 ∨ c.k = 2 then hasK p (idC c) else hasK s (idC c)
def WfC (c : Cg) : Prop := (Lit.int .i64 c.p.1).wf = true ∧ (Lit.int .i64 c.s.1).wf = true
theorem WfC.id {c : Cg} (h : WfC c) : (Lit.int .i64 (idC c)).wf = true := by
  unfold idC
  split
  · exact h.1
  · split
    · exact h.2
    · rfl
end Go.Proofs.YthjnecicagmdeaaGreat
