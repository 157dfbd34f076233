/-
  The queue as a thing with a footprint: each method in one contract, and what is told of no queue. Condition: at most 65536 wait.
-/
import Derived.Test.YtkakhpbeglkbnaaRgE
namespace Go.Proofs.Ytkakhpbeglkbnaa
open Go.RowKit Go.Al Go.Al.Rg
set_option linter.unusedVariables false

/-- a queue: who waits, whose turn it is, whether it is somebody's, how many turns there were -/
def Que (F : Nat → Prop) (w : World) (g most : Nat) (q : List Int) (id : Int) (held : Bool) (turns : Int) : Prop :=
  ∃ gr Fr, Blk w g 63 #[.pointer (some ⟨gr, 0, none⟩), .int .i64 id, .bool held, .int .i64 turns] ∧ Ring Fr w gr most q ∧ ¬ Fr g ∧ F = fun k => k = g ∨ Fr k
theorem Que.lt {F : Nat → Prop} {w : World} {g most : Nat} {q : List Int} {id turns : Int} {held : Bool} (h : Que F w g most q id held turns) : ∀ k, F k → k < w.heap.size := by
  obtain ⟨gr, Fr, h1, h2, h3, rfl⟩ := h
  rintro k (rfl | hk)
  · exact h1.lt
  · exact h2.lt k hk
theorem Que.same {F : Nat → Prop} {w w' : World} {g most : Nat} {q : List Int} {id turns : Int} {held : Bool} (h : Que F w g most q id held turns) (hs : Same w w') : Que F w' g most q id held turns := by
  obtain ⟨gr, Fr, h1, h2, h3, rfl⟩ := h
  exact ⟨gr, Fr, h1.same hs, h2.same hs, h3, rfl⟩
theorem Que.len {F : Nat → Prop} {w : World} {g most : Nat} {q : List Int} {id turns : Int} {held : Bool} (h : Que F w g most q id held turns) : q.length ≤ most := by
  obtain ⟨gr, Fr, h1, h2, h3, rfl⟩ := h
  exact h2.len

set_option maxHeartbeats 400000 in
theorem qnew_bad (most : Int) (w : World) (h : most < 1 ∨ 65536 < most) :
    Calls Try.prog 22 #[.int .i64 most] w fun e w' => e = .returned (.tuple #[.pointer none, .int .i64 1]) ∧ w = w' := by
  have H := hide h
  clear h
  go_enter Try.func22, Try.ntmps22
  go_wp2_with (go_at_call 9; have hF := rnew_bad most w H.out; refine hF.mono ?_; rintro e w1 ⟨rfl, rfl⟩; clear hF)
  go_ret2
  exact ⟨rfl, rfl⟩
set_option maxHeartbeats 400000 in
theorem que_new (m : Nat) (w : World) (h1 : 1 ≤ (m : Int)) (h2 : (m : Int) ≤ 65536) :
    Calls Try.prog 22 #[.int .i64 m] w fun e w' => ∃ g, e = .returned (.tuple #[.pointer (some ⟨g, 0, none⟩), .int .i64 0]) ∧ Same w w' ∧ ∃ F, Que F w' g m [] 0 false 0 ∧ ∀ k, F k → w.heap.size ≤ k := by
  go_enter Try.func22, Try.ntmps22
  go_wp2_with (go_at_call 9; have hF := ring_new m w h1 h2; refine hF.mono ?_; rintro e w1 ⟨rfl, hs1, F1, hr1, hf1⟩; have Hs1 := hide hs1; have Hr1 := hide hr1; have Hf1 := hide hf1; clear hF hs1 hr1 hf1)
  go_ret2
  have hs := (Chg.refl (fun _ => False) w1).alloc (.cells #[.pointer (some ⟨w.heap.size, 0, none⟩), .int .i64 0, .bool false, .int .i64 0] 63)
  refine ⟨w1.heap.size, rfl, Hs1.out.trans hs, _, ⟨w.heap.size, F1, Blk.new w1 _ _, Hr1.out.same hs, fun h => by have := Hr1.out.lt _ h; omega, rfl⟩, ?_⟩
  rintro k (rfl | hk)
  · exact Hs1.out.size
  · exact Hf1.out k hk

set_option maxHeartbeats 400000 in
theorem qhas (g : Nat) (p : Value) (id id' turns : Int) (held : Bool) (w : World) (hb : Blk w g 63 #[p, .int .i64 id, .bool held, .int .i64 turns]) :
    Calls Try.prog 38 #[.pointer (some ⟨g, 0, none⟩), .int .i64 id'] w fun e w' => e = .returned (.bool (held && id == id')) ∧ w = w' := by
  have hk := hb.cell
  clear hb
  cases held
  · go_enter Try.func38, Try.ntmps38
    go_wp2_with fail
    go_ret
    exact ⟨by simp, rfl⟩
  · go_enter Try.func38, Try.ntmps38
    go_wp2_with fail
    go_ret
    exact ⟨by simp, rfl⟩
set_option maxHeartbeats 400000 in
theorem want_nil (v : Int) (w : World) : Calls Try.prog 23 #[.pointer none, .int .i64 v] w fun e w' => e = .returned (.int .i64 1) ∧ w = w' := by
  go_enter Try.func23, Try.ntmps23
  go_wp2_with fail
  go_ret
  exact ⟨rfl, rfl⟩
set_option maxHeartbeats 400000 in
theorem leave_nil (v : Int) (w : World) : Calls Try.prog 24 #[.pointer none, .int .i64 v] w fun e w' => e = .returned (.int .i64 1) ∧ w = w' := by
  go_enter Try.func24, Try.ntmps24
  go_wp2_with fail
  go_ret
  exact ⟨rfl, rfl⟩
set_option maxHeartbeats 400000 in
theorem release_nil (v : Int) (w : World) : Calls Try.prog 27 #[.pointer none, .int .i64 v] w fun e w' => e = .returned (.int .i64 1) ∧ w = w' := by
  go_enter Try.func27, Try.ntmps27
  go_wp2_with fail
  go_ret
  exact ⟨rfl, rfl⟩
set_option maxHeartbeats 400000 in
theorem grant_nil (w : World) : Calls Try.prog 25 #[.pointer none] w fun e w' => e = .returned (.tuple #[.int .i64 0, .bool false]) ∧ w = w' := by
  go_enter Try.func25, Try.ntmps25
  go_wp2_with fail
  go_ret2
  exact ⟨rfl, rfl⟩
set_option maxHeartbeats 400000 in
theorem holder_nil (w : World) : Calls Try.prog 33 #[.pointer none] w fun e w' => e = .returned (.tuple #[.int .i64 0, .bool false]) ∧ w = w' := by
  go_enter Try.func33, Try.ntmps33
  go_wp2_with fail
  go_ret2
  exact ⟨rfl, rfl⟩
set_option maxHeartbeats 400000 in
theorem ahead_nil (v : Int) (w : World) : Calls Try.prog 26 #[.pointer none, .int .i64 v] w fun e w' => e = .returned (.tuple #[.int .i64 0, .bool false]) ∧ w = w' := by
  go_enter Try.func26, Try.ntmps26
  go_wp2_with fail
  go_ret2
  exact ⟨rfl, rfl⟩
set_option maxHeartbeats 400000 in
theorem waits_nil (w : World) : Calls Try.prog 31 #[.pointer none] w fun e w' => e = .returned (.slice none 0 0) ∧ w = w' := by
  go_enter Try.func31, Try.ntmps31
  go_wp2_with fail
  go_ret
  exact ⟨rfl, rfl⟩
set_option maxHeartbeats 400000 in
theorem turns_nil (w : World) : Calls Try.prog 28 #[.pointer none] w fun e w' => e = .returned (.int .i64 0) ∧ w = w' := by
  go_enter Try.func28, Try.ntmps28
  go_wp2_with fail
  go_ret
  exact ⟨rfl, rfl⟩
end Go.Proofs.Ytkakhpbeglkbnaa
