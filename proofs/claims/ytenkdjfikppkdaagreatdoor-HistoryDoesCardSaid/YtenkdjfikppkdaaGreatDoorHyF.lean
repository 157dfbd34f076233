/-
  What is told of no table, and of no history: Does(nil, a request of zeros), Replay(nil, 0). No conditions.
-/
import Derived.Test.YtenkdjfikppkdaaGreatDoorHsD
import Derived.Test.YtenkdjfikppkdaaGreatDoorHyE
namespace Go.Proofs.YtenkdjfikppkdaaGreatDoor
open Go.RowKit Go.Al
set_option linter.unusedVariables false

set_option maxRecDepth 100000 in
set_option maxHeartbeats 4000000 in
theorem does_nil (r : Rq) (w : World) :
    Calls Tryz.prog 27 #[.pointer none, rqV r] w fun e w' => e = .returned (.tuple #[.agg #[.int .i64 0, .bool false, .bool false, .int .i64 0, .slice none 0 0], .int .i64 1]) ∧ Same w w' := by
  have hs1 := ((Chg.refl (fun _ => False) w).alloc (.cells (rqL r).toArray 38)).alloc (.cells #[.int .i64 0, .bool false, .bool false, .int .i64 0, .slice none 0 0] 44)
  have hb := Blk.new (w.alloc (.cells (rqL r).toArray 38)) 44 #[.int .i64 0, .bool false, .bool false, .int .i64 0, .slice none 0 0]
  simp only [World.size_alloc] at hb
  have Hb := hide hb
  have Hs1 := hide hs1
  have hkb := hb.cell
  have hfb := hb.frozen
  clear hb hs1
  unfold rqV
  generalize rqL r = R at *
  go_enter Tryz.func27, Tryz.ntmps27
  go_wp2_with fail
  refine bodyPost_ret (results_cell2 rfl rfl Hb.out Tryz.underlying44 rfl (by kernel_rfl)) rfl ⟨rfl, Hs1.out⟩

set_option maxRecDepth 100000 in
set_option maxHeartbeats 4000000 in
theorem Does_nil (r : Rq) (w : World) :
    Calls Tryz.prog 12 #[.pointer none, rqV r] w fun e w' => e = .returned (.tuple #[.agg #[.int .i64 0, .bool false, .bool false, .int .i64 0, .slice none 0 0], .int .i64 1]) ∧ Same w w' := by
  have hs1 := ((Chg.refl (fun _ => False) w).alloc (.cells (rqL r).toArray 38)).alloc (.cells #[.int .i64 0, .bool false, .bool false, .int .i64 0, .slice none 0 0] 44)
  have hb := Blk.new (w.alloc (.cells (rqL r).toArray 38)) 44 #[.int .i64 0, .bool false, .bool false, .int .i64 0, .slice none 0 0]
  have hq := (Blk.new w 38 (rqL r).toArray).alloc (.cells #[.int .i64 0, .bool false, .bool false, .int .i64 0, .slice none 0 0] 44)
  have hra : ((w.alloc (.cells (rqL r).toArray 38)).alloc (.cells #[.int .i64 0, .bool false, .bool false, .int .i64 0, .slice none 0 0] 44)).rangeAt w.heap.size 0 (rqL r) := fun j v hv => by
    rw [Nat.zero_add, hq.cell]
    simpa using hv
  simp only [World.size_alloc] at hb
  have Hs1 := hide hs1
  have Hb := hide hb
  have Hra := hide hra
  have Hlr := hide (rqL_length r)
  have HD := hide (does_nil r)
  clear hs1 hb hq hra
  unfold rqV at HD ⊢
  generalize rqL r = R at *
  go_enter Tryz.func12, Tryz.ntmps12
  go_wp2_with (first
    | (refine wpList_ld (by rfl) 38 _ rfl w.heap.size 0 rfl R _ Hra.out Tryz.underlying38 rfl (by rw [Hlr.out]; exact infoReq0) ?_)
    | (go_at_call 27; have hF := HD.out; (with_reducible refine (hF _).mono ?_); rintro e' w2 ⟨rfl, hs2⟩; have HS2 := hide (Same.trans Hs1.out hs2); have Hb2 := hide (Hb.out.same hs2); have hkb := Hb2.out.cell; have hfb := Hb2.out.frozen; clear hs2 hF))
  have hput := Chg.put5 (S := fun _ => False) (g := w.heap.size + 1) HS2.out (.inr (by omega)) (.int .i64 0) (.bool false) (.bool false) (.int .i64 0) (.slice none 0 0)
  refine bodyPost_ret (results_cell2 rfl rfl (Blk.put5 Hb2.out (.int .i64 0) (.bool false) (.bool false) (.int .i64 0) (.slice none 0 0)) Tryz.underlying44 rfl (by kernel_rfl)) rfl ⟨rfl, hput⟩

set_option maxHeartbeats 2000000 in
theorem replay_nil (w : World) :
    Calls Tryz.prog 41 #[.slice none 0 0, .int .i64 0] w fun e w' => e = .returned (.tuple #[.pointer none, .bool false]) ∧ Same w w' := by
  go_enter Tryz.func41, Tryz.ntmps41
  go_wp2_with (first
    | (go_at_call 11; refine (tnew_bad 0 _ (by omega)).mono ?_; rintro e w1 ⟨rfl, rfl⟩)
    | fail)
  go_ret2
  exact ⟨rfl, Chg.refl _ _⟩
set_option maxHeartbeats 2000000 in
theorem Replay_nil (w : World) :
    Calls Tryz.prog 19 #[.slice none 0 0, .int .i64 0] w fun e w' => e = .returned (.tuple #[.pointer none, .bool false]) ∧ Same w w' := by
  go_enter Tryz.func19, Tryz.ntmps19
  go_wp2_with (first
    | (go_at_call 41; refine (replay_nil _).mono ?_; rintro e w1 ⟨rfl, hs⟩; have Hs1 := hide hs; clear hs)
    | fail)
  go_ret2
  exact ⟨rfl, Hs1.out⟩
end Go.Proofs.YtenkdjfikppkdaaGreatDoor
