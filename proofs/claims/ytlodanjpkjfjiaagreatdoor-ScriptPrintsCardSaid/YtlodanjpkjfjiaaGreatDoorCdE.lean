/-
  codec.Read; codec.fields: where a good request's numbers stand. Conditions: numbers that an int holds.
-/
import Derived.Test.YtlodanjpkjfjiaaGreatDoorCdD
import Derived.Test.YtlodanjpkjfjiaaGreatDoorScP
namespace Go.Proofs.YtlodanjpkjfjiaaGreatDoor
open Go.RowKit Go.Al
set_option linter.unusedVariables false

set_option maxHeartbeats 1000000 in
theorem Read_none {A : Option Addr} {c : Nat} (w : World) :
    Calls Tryz.prog 86 #[.slice A 0 c] w fun e w' => e = .returned (.tuple #[.int .i64 0, .int .i64 0]) ∧ w = w' := by
  go_enter Tryz.func86, Tryz.ntmps86
  go_wp2_with (first
    | (go_at_call 104; (with_reducible refine (read_none _).mono ?_); rintro e w' ⟨rfl, rfl⟩)
    | fail)
  go_ret2
  exact ⟨rfl, rfl⟩
set_option maxHeartbeats 1000000 in
theorem Read_some {A : Option Addr} {n c : Nat} (x : Int) (rest : List UInt8) (w : World) (h0 : -9223372036854775808 ≤ x) (h1 : x ≤ 9223372036854775807) (h : Rd w A (bs (encI x ++ rest))) (hn : (encI x ++ rest).length = n) (hnc : n ≤ c) (hc : c ≤ maxLen) :
    Calls Tryz.prog 86 #[.slice A n c] w fun e w' => e = .returned (.tuple #[.int .i64 x, .int .i64 ((encI x).length : Nat)]) ∧ Same w w' := by
  have HR := hide (read_some x rest w h0 h1 h hn hnc hc)
  clear h0 h1 h hn hnc hc
  go_enter Tryz.func86, Tryz.ntmps86
  go_wp2_with (first
    | (go_at_call 104; (with_reducible refine HR.out.mono ?_); rintro e w' ⟨rfl, hs⟩; have Hs := hide hs; clear hs)
    | fail)
  go_ret2
  exact ⟨rfl, Hs.out⟩
/-- where a good request's numbers stand -/
def offsR (r : Rq) : List Nat :=
  if r.k = 1 then (if r.c.k = 1 then [2, 3, 4] else if r.c.k = 2 then [2] else if r.c.k = 3 then [5, 6, 7] else [5])
  else if r.q.k ≤ 2 then [9, 10, 11, 12] else if r.q.k ≤ 4 then [13, 14, 15] else if r.q.k = 5 then [16] else [16, 17]
def ptrs (g : Nat) (l : List Nat) : List Value := l.map fun o => .pointer (some ⟨g, o, none⟩)
/-- how fields ends -/
def FldEnd (w : World) (g : Nat) (l : List Nat) (e : Ending) (w' : World) : Prop :=
  ∃ m, e = .returned (.slice (some ⟨m, 0, none⟩) l.length l.length) ∧ Blk w' m 127 (ptrs g l).toArray ∧ w.heap.size ≤ m ∧ Same w w'
theorem nums_at {r : Rq} (h : goodR r = true) : (offsR r).map (fun o => (rqL r)[o]?) = (numsR r).map (fun n => some (.int .i64 n)) := by
  obtain ⟨k, ⟨ck, ⟨p1, p2, p3⟩, ⟨s1, s2, s3⟩⟩, ⟨qk, a, b, c, d, e, f, g, x, y⟩⟩ := r
  have := good_cases h
  simp only at this
  rcases this with ⟨rfl, rfl | rfl | rfl | rfl⟩ | ⟨rfl, rfl | rfl | rfl | rfl | rfl | rfl | rfl⟩ <;> rfl
set_option maxRecDepth 100000 in
set_option maxHeartbeats 4000000 in
theorem fields_c1 {g : Nat} {L : List Value} (w : World) (h : Blk w g 35 L.toArray) (h0 : L[0]? = some (.int .i64 1)) (h1 : L[1]? = some (.int .i64 1)) :
    Calls Tryz.prog 89 #[.pointer (some ⟨g, 0, none⟩)] w (FldEnd w g [2, 3, 4]) := by
  have Hb := hide h
  have hlt := h.lt
  clear h
  go_enter Tryz.func89, Tryz.ntmps89
  go_wp2_with fail
  refine wp_region_mixS 14 (by kernel_rfl) (by kernel_rfl) fun Fin hFin => ?_
  simp only [List.take_succ_cons, List.take_zero]
  iterate 14 (
      (refine mix_lit ?_ ?_ (fun w => Chg.refl _ w) ?_ ?_ ?_ ?_
       rotate_left; rotate_left
       · intro e w1 hR hF K hK; (skip); go_simp; (refine hK _ _ (Chg.refl _ _) ?_; rfl)
       · intro e; simp only [Act.put, List.setIfInBounds_toArray, List.set_cons_zero, List.set_cons_succ]; rfl
       · exact Loc.const _ _))
  refine mix_nil fun e w1 hR hF => hFin _ _ ?_
  simp only [List.drop_succ_cons, List.drop_zero]
  have hk := (Hb.out.same hR).cell
  have HR := hide hR
  clear hF hFin hR
  go_wp2_with fail
  refine wp_region_mixS 9 (by kernel_rfl) (by kernel_rfl) fun Fin hFin => ?_
  simp only [List.take_succ_cons, List.take_zero]
  iterate 9 (
      (refine mix_lit ?_ ?_ (fun w => Chg.refl _ w) ?_ ?_ ?_ ?_
       rotate_left; rotate_left
       · intro e w1 hR hF K hK; (skip); go_simp; (refine hK _ _ (Chg.refl _ _) ?_; rfl)
       · intro e; simp only [Act.put, List.setIfInBounds_toArray, List.set_cons_zero, List.set_cons_succ]; rfl
       · exact Loc.const _ _))
  refine mix_nil fun e w2 hR hF => hFin _ _ ?_
  simp only [List.drop_succ_cons, List.drop_zero]
  have HR2 := hide (Same.trans HR.out hR)
  clear hF hFin hR
  go_wp2_with fail
  go_ret
  exact ⟨_, rfl, Blk.new _ _ _, HR2.out.size, HR2.out.alloc _⟩
set_option maxRecDepth 100000 in
set_option maxHeartbeats 4000000 in
theorem fields_c2 {g : Nat} {L : List Value} (w : World) (h : Blk w g 35 L.toArray) (h0 : L[0]? = some (.int .i64 1)) (h1 : L[1]? = some (.int .i64 2)) :
    Calls Tryz.prog 89 #[.pointer (some ⟨g, 0, none⟩)] w (FldEnd w g [2]) := by
  have Hb := hide h
  have hlt := h.lt
  clear h
  go_enter Tryz.func89, Tryz.ntmps89
  go_wp2_with fail
  refine wp_region_mixS 14 (by kernel_rfl) (by kernel_rfl) fun Fin hFin => ?_
  simp only [List.take_succ_cons, List.take_zero]
  iterate 14 (
      (refine mix_lit ?_ ?_ (fun w => Chg.refl _ w) ?_ ?_ ?_ ?_
       rotate_left; rotate_left
       · intro e w1 hR hF K hK; (skip); go_simp; (refine hK _ _ (Chg.refl _ _) ?_; rfl)
       · intro e; simp only [Act.put, List.setIfInBounds_toArray, List.set_cons_zero, List.set_cons_succ]; rfl
       · exact Loc.const _ _))
  refine mix_nil fun e w1 hR hF => hFin _ _ ?_
  simp only [List.drop_succ_cons, List.drop_zero]
  have hk := (Hb.out.same hR).cell
  have HR := hide hR
  clear hF hFin hR
  go_wp2_with fail
  go_ret
  exact ⟨_, rfl, Blk.new _ _ _, HR.out.size, HR.out.alloc _⟩
set_option maxRecDepth 100000 in
set_option maxHeartbeats 4000000 in
theorem fields_c3 {g : Nat} {L : List Value} (w : World) (h : Blk w g 35 L.toArray) (h0 : L[0]? = some (.int .i64 1)) (h1 : L[1]? = some (.int .i64 3)) :
    Calls Tryz.prog 89 #[.pointer (some ⟨g, 0, none⟩)] w (FldEnd w g [5, 6, 7]) := by
  have Hb := hide h
  have hlt := h.lt
  clear h
  go_enter Tryz.func89, Tryz.ntmps89
  go_wp2_with fail
  refine wp_region_mixS 14 (by kernel_rfl) (by kernel_rfl) fun Fin hFin => ?_
  simp only [List.take_succ_cons, List.take_zero]
  iterate 14 (
      (refine mix_lit ?_ ?_ (fun w => Chg.refl _ w) ?_ ?_ ?_ ?_
       rotate_left; rotate_left
       · intro e w1 hR hF K hK; (skip); go_simp; (refine hK _ _ (Chg.refl _ _) ?_; rfl)
       · intro e; simp only [Act.put, List.setIfInBounds_toArray, List.set_cons_zero, List.set_cons_succ]; rfl
       · exact Loc.const _ _))
  refine mix_nil fun e w1 hR hF => hFin _ _ ?_
  simp only [List.drop_succ_cons, List.drop_zero]
  have hk := (Hb.out.same hR).cell
  have HR := hide hR
  clear hF hFin hR
  go_wp2_with fail
  refine wp_region_mixS 9 (by kernel_rfl) (by kernel_rfl) fun Fin hFin => ?_
  simp only [List.take_succ_cons, List.take_zero]
  iterate 9 (
      (refine mix_lit ?_ ?_ (fun w => Chg.refl _ w) ?_ ?_ ?_ ?_
       rotate_left; rotate_left
       · intro e w1 hR hF K hK; (skip); go_simp; (refine hK _ _ (Chg.refl _ _) ?_; rfl)
       · intro e; simp only [Act.put, List.setIfInBounds_toArray, List.set_cons_zero, List.set_cons_succ]; rfl
       · exact Loc.const _ _))
  refine mix_nil fun e w2 hR hF => hFin _ _ ?_
  simp only [List.drop_succ_cons, List.drop_zero]
  have HR2 := hide (Same.trans HR.out hR)
  clear hF hFin hR
  go_wp2_with fail
  go_ret
  exact ⟨_, rfl, Blk.new _ _ _, HR2.out.size, HR2.out.alloc _⟩
set_option maxRecDepth 100000 in
set_option maxHeartbeats 4000000 in
theorem fields_c4 {g : Nat} {L : List Value} (w : World) (h : Blk w g 35 L.toArray) (h0 : L[0]? = some (.int .i64 1)) (h1 : L[1]? = some (.int .i64 4)) :
    Calls Tryz.prog 89 #[.pointer (some ⟨g, 0, none⟩)] w (FldEnd w g [5]) := by
  have Hb := hide h
  have hlt := h.lt
  clear h
  go_enter Tryz.func89, Tryz.ntmps89
  go_wp2_with fail
  refine wp_region_mixS 14 (by kernel_rfl) (by kernel_rfl) fun Fin hFin => ?_
  simp only [List.take_succ_cons, List.take_zero]
  iterate 14 (
      (refine mix_lit ?_ ?_ (fun w => Chg.refl _ w) ?_ ?_ ?_ ?_
       rotate_left; rotate_left
       · intro e w1 hR hF K hK; (skip); go_simp; (refine hK _ _ (Chg.refl _ _) ?_; rfl)
       · intro e; simp only [Act.put, List.setIfInBounds_toArray, List.set_cons_zero, List.set_cons_succ]; rfl
       · exact Loc.const _ _))
  refine mix_nil fun e w1 hR hF => hFin _ _ ?_
  simp only [List.drop_succ_cons, List.drop_zero]
  have hk := (Hb.out.same hR).cell
  have HR := hide hR
  clear hF hFin hR
  go_wp2_with fail
  go_ret
  exact ⟨_, rfl, Blk.new _ _ _, HR.out.size, HR.out.alloc _⟩
set_option maxRecDepth 100000 in
set_option maxHeartbeats 4000000 in
theorem fields_q1 {g : Nat} {L : List Value} (w : World) (h : Blk w g 35 L.toArray) (h0 : L[0]? = some (.int .i64 2)) (h8 : L[8]? = some (.int .i64 1)) :
    Calls Tryz.prog 89 #[.pointer (some ⟨g, 0, none⟩)] w (FldEnd w g [9, 10, 11, 12]) := by
  have Hb := hide h
  have hlt := h.lt
  clear h
  go_enter Tryz.func89, Tryz.ntmps89
  go_wp2_with fail
  refine wp_region_mixS 14 (by kernel_rfl) (by kernel_rfl) fun Fin hFin => ?_
  simp only [List.take_succ_cons, List.take_zero]
  iterate 14 (
      (refine mix_lit ?_ ?_ (fun w => Chg.refl _ w) ?_ ?_ ?_ ?_
       rotate_left; rotate_left
       · intro e w1 hR hF K hK; (skip); go_simp; (refine hK _ _ (Chg.refl _ _) ?_; rfl)
       · intro e; simp only [Act.put, List.setIfInBounds_toArray, List.set_cons_zero, List.set_cons_succ]; rfl
       · exact Loc.const _ _))
  refine mix_nil fun e w1 hR hF => hFin _ _ ?_
  simp only [List.drop_succ_cons, List.drop_zero]
  have hk := (Hb.out.same hR).cell
  have HR := hide hR
  clear hF hFin hR
  go_wp2_with fail
  refine wp_region_mixS 16 (by kernel_rfl) (by kernel_rfl) fun Fin hFin => ?_
  simp only [List.take_succ_cons, List.take_zero]
  iterate 16 (
      (refine mix_lit ?_ ?_ (fun w => Chg.refl _ w) ?_ ?_ ?_ ?_
       rotate_left; rotate_left
       · intro e w1 hR hF K hK; (skip); go_simp; (refine hK _ _ (Chg.refl _ _) ?_; rfl)
       · intro e; simp only [Act.put, List.setIfInBounds_toArray, List.set_cons_zero, List.set_cons_succ]; rfl
       · exact Loc.const _ _))
  refine mix_nil fun e w2 hR hF => hFin _ _ ?_
  simp only [List.drop_succ_cons, List.drop_zero]
  have HR2 := hide (Same.trans HR.out hR)
  clear hF hFin hR
  go_wp2_with fail
  go_ret
  exact ⟨_, rfl, Blk.new _ _ _, HR2.out.size, HR2.out.alloc _⟩
set_option maxRecDepth 100000 in
set_option maxHeartbeats 4000000 in
theorem fields_q2 {g : Nat} {L : List Value} (w : World) (h : Blk w g 35 L.toArray) (h0 : L[0]? = some (.int .i64 2)) (h8 : L[8]? = some (.int .i64 2)) :
    Calls Tryz.prog 89 #[.pointer (some ⟨g, 0, none⟩)] w (FldEnd w g [9, 10, 11, 12]) := by
  have Hb := hide h
  have hlt := h.lt
  clear h
  go_enter Tryz.func89, Tryz.ntmps89
  go_wp2_with fail
  refine wp_region_mixS 14 (by kernel_rfl) (by kernel_rfl) fun Fin hFin => ?_
  simp only [List.take_succ_cons, List.take_zero]
  iterate 14 (
      (refine mix_lit ?_ ?_ (fun w => Chg.refl _ w) ?_ ?_ ?_ ?_
       rotate_left; rotate_left
       · intro e w1 hR hF K hK; (skip); go_simp; (refine hK _ _ (Chg.refl _ _) ?_; rfl)
       · intro e; simp only [Act.put, List.setIfInBounds_toArray, List.set_cons_zero, List.set_cons_succ]; rfl
       · exact Loc.const _ _))
  refine mix_nil fun e w1 hR hF => hFin _ _ ?_
  simp only [List.drop_succ_cons, List.drop_zero]
  have hk := (Hb.out.same hR).cell
  have HR := hide hR
  clear hF hFin hR
  go_wp2_with fail
  refine wp_region_mixS 16 (by kernel_rfl) (by kernel_rfl) fun Fin hFin => ?_
  simp only [List.take_succ_cons, List.take_zero]
  iterate 16 (
      (refine mix_lit ?_ ?_ (fun w => Chg.refl _ w) ?_ ?_ ?_ ?_
       rotate_left; rotate_left
       · intro e w1 hR hF K hK; (skip); go_simp; (refine hK _ _ (Chg.refl _ _) ?_; rfl)
       · intro e; simp only [Act.put, List.setIfInBounds_toArray, List.set_cons_zero, List.set_cons_succ]; rfl
       · exact Loc.const _ _))
  refine mix_nil fun e w2 hR hF => hFin _ _ ?_
  simp only [List.drop_succ_cons, List.drop_zero]
  have HR2 := hide (Same.trans HR.out hR)
  clear hF hFin hR
  go_wp2_with fail
  go_ret
  exact ⟨_, rfl, Blk.new _ _ _, HR2.out.size, HR2.out.alloc _⟩
set_option maxRecDepth 100000 in
set_option maxHeartbeats 4000000 in
theorem fields_q3 {g : Nat} {L : List Value} (w : World) (h : Blk w g 35 L.toArray) (h0 : L[0]? = some (.int .i64 2)) (h8 : L[8]? = some (.int .i64 3)) :
    Calls Tryz.prog 89 #[.pointer (some ⟨g, 0, none⟩)] w (FldEnd w g [13, 14, 15]) := by
  have Hb := hide h
  have hlt := h.lt
  clear h
  go_enter Tryz.func89, Tryz.ntmps89
  go_wp2_with fail
  refine wp_region_mixS 14 (by kernel_rfl) (by kernel_rfl) fun Fin hFin => ?_
  simp only [List.take_succ_cons, List.take_zero]
  iterate 14 (
      (refine mix_lit ?_ ?_ (fun w => Chg.refl _ w) ?_ ?_ ?_ ?_
       rotate_left; rotate_left
       · intro e w1 hR hF K hK; (skip); go_simp; (refine hK _ _ (Chg.refl _ _) ?_; rfl)
       · intro e; simp only [Act.put, List.setIfInBounds_toArray, List.set_cons_zero, List.set_cons_succ]; rfl
       · exact Loc.const _ _))
  refine mix_nil fun e w1 hR hF => hFin _ _ ?_
  simp only [List.drop_succ_cons, List.drop_zero]
  have hk := (Hb.out.same hR).cell
  have HR := hide hR
  clear hF hFin hR
  go_wp2_with fail
  refine wp_region_mixS 12 (by kernel_rfl) (by kernel_rfl) fun Fin hFin => ?_
  simp only [List.take_succ_cons, List.take_zero]
  iterate 12 (
      (refine mix_lit ?_ ?_ (fun w => Chg.refl _ w) ?_ ?_ ?_ ?_
       rotate_left; rotate_left
       · intro e w1 hR hF K hK; (skip); go_simp; (refine hK _ _ (Chg.refl _ _) ?_; rfl)
       · intro e; simp only [Act.put, List.setIfInBounds_toArray, List.set_cons_zero, List.set_cons_succ]; rfl
       · exact Loc.const _ _))
  refine mix_nil fun e w2 hR hF => hFin _ _ ?_
  simp only [List.drop_succ_cons, List.drop_zero]
  have HR2 := hide (Same.trans HR.out hR)
  clear hF hFin hR
  go_wp2_with fail
  go_ret
  exact ⟨_, rfl, Blk.new _ _ _, HR2.out.size, HR2.out.alloc _⟩
set_option maxRecDepth 100000 in
set_option maxHeartbeats 4000000 in
theorem fields_q4 {g : Nat} {L : List Value} (w : World) (h : Blk w g 35 L.toArray) (h0 : L[0]? = some (.int .i64 2)) (h8 : L[8]? = some (.int .i64 4)) :
    Calls Tryz.prog 89 #[.pointer (some ⟨g, 0, none⟩)] w (FldEnd w g [13, 14, 15]) := by
  have Hb := hide h
  have hlt := h.lt
  clear h
  go_enter Tryz.func89, Tryz.ntmps89
  go_wp2_with fail
  refine wp_region_mixS 14 (by kernel_rfl) (by kernel_rfl) fun Fin hFin => ?_
  simp only [List.take_succ_cons, List.take_zero]
  iterate 14 (
      (refine mix_lit ?_ ?_ (fun w => Chg.refl _ w) ?_ ?_ ?_ ?_
       rotate_left; rotate_left
       · intro e w1 hR hF K hK; (skip); go_simp; (refine hK _ _ (Chg.refl _ _) ?_; rfl)
       · intro e; simp only [Act.put, List.setIfInBounds_toArray, List.set_cons_zero, List.set_cons_succ]; rfl
       · exact Loc.const _ _))
  refine mix_nil fun e w1 hR hF => hFin _ _ ?_
  simp only [List.drop_succ_cons, List.drop_zero]
  have hk := (Hb.out.same hR).cell
  have HR := hide hR
  clear hF hFin hR
  go_wp2_with fail
  refine wp_region_mixS 12 (by kernel_rfl) (by kernel_rfl) fun Fin hFin => ?_
  simp only [List.take_succ_cons, List.take_zero]
  iterate 12 (
      (refine mix_lit ?_ ?_ (fun w => Chg.refl _ w) ?_ ?_ ?_ ?_
       rotate_left; rotate_left
       · intro e w1 hR hF K hK; (skip); go_simp; (refine hK _ _ (Chg.refl _ _) ?_; rfl)
       · intro e; simp only [Act.put, List.setIfInBounds_toArray, List.set_cons_zero, List.set_cons_succ]; rfl
       · exact Loc.const _ _))
  refine mix_nil fun e w2 hR hF => hFin _ _ ?_
  simp only [List.drop_succ_cons, List.drop_zero]
  have HR2 := hide (Same.trans HR.out hR)
  clear hF hFin hR
  go_wp2_with fail
  go_ret
  exact ⟨_, rfl, Blk.new _ _ _, HR2.out.size, HR2.out.alloc _⟩
set_option maxRecDepth 100000 in
set_option maxHeartbeats 4000000 in
theorem fields_q5 {g : Nat} {L : List Value} (w : World) (h : Blk w g 35 L.toArray) (h0 : L[0]? = some (.int .i64 2)) (h8 : L[8]? = some (.int .i64 5)) :
    Calls Tryz.prog 89 #[.pointer (some ⟨g, 0, none⟩)] w (FldEnd w g [16]) := by
  have Hb := hide h
  have hlt := h.lt
  clear h
  go_enter Tryz.func89, Tryz.ntmps89
  go_wp2_with fail
  refine wp_region_mixS 14 (by kernel_rfl) (by kernel_rfl) fun Fin hFin => ?_
  simp only [List.take_succ_cons, List.take_zero]
  iterate 14 (
      (refine mix_lit ?_ ?_ (fun w => Chg.refl _ w) ?_ ?_ ?_ ?_
       rotate_left; rotate_left
       · intro e w1 hR hF K hK; (skip); go_simp; (refine hK _ _ (Chg.refl _ _) ?_; rfl)
       · intro e; simp only [Act.put, List.setIfInBounds_toArray, List.set_cons_zero, List.set_cons_succ]; rfl
       · exact Loc.const _ _))
  refine mix_nil fun e w1 hR hF => hFin _ _ ?_
  simp only [List.drop_succ_cons, List.drop_zero]
  have hk := (Hb.out.same hR).cell
  have HR := hide hR
  clear hF hFin hR
  go_wp2_with fail
  go_ret
  exact ⟨_, rfl, Blk.new _ _ _, HR.out.size, HR.out.alloc _⟩
set_option maxRecDepth 100000 in
set_option maxHeartbeats 4000000 in
theorem fields_q6 {g : Nat} {L : List Value} (w : World) (h : Blk w g 35 L.toArray) (h0 : L[0]? = some (.int .i64 2)) (h8 : L[8]? = some (.int .i64 6)) :
    Calls Tryz.prog 89 #[.pointer (some ⟨g, 0, none⟩)] w (FldEnd w g [16, 17]) := by
  have Hb := hide h
  have hlt := h.lt
  clear h
  go_enter Tryz.func89, Tryz.ntmps89
  go_wp2_with fail
  refine wp_region_mixS 14 (by kernel_rfl) (by kernel_rfl) fun Fin hFin => ?_
  simp only [List.take_succ_cons, List.take_zero]
  iterate 14 (
      (refine mix_lit ?_ ?_ (fun w => Chg.refl _ w) ?_ ?_ ?_ ?_
       rotate_left; rotate_left
       · intro e w1 hR hF K hK; (skip); go_simp; (refine hK _ _ (Chg.refl _ _) ?_; rfl)
       · intro e; simp only [Act.put, List.setIfInBounds_toArray, List.set_cons_zero, List.set_cons_succ]; rfl
       · exact Loc.const _ _))
  refine mix_nil fun e w1 hR hF => hFin _ _ ?_
  simp only [List.drop_succ_cons, List.drop_zero]
  have hk := (Hb.out.same hR).cell
  have HR := hide hR
  clear hF hFin hR
  go_wp2_with fail
  refine wp_region_mixS 6 (by kernel_rfl) (by kernel_rfl) fun Fin hFin => ?_
  simp only [List.take_succ_cons, List.take_zero]
  iterate 6 (
      (refine mix_lit ?_ ?_ (fun w => Chg.refl _ w) ?_ ?_ ?_ ?_
       rotate_left; rotate_left
       · intro e w1 hR hF K hK; (skip); go_simp; (refine hK _ _ (Chg.refl _ _) ?_; rfl)
       · intro e; simp only [Act.put, List.setIfInBounds_toArray, List.set_cons_zero, List.set_cons_succ]; rfl
       · exact Loc.const _ _))
  refine mix_nil fun e w2 hR hF => hFin _ _ ?_
  simp only [List.drop_succ_cons, List.drop_zero]
  have HR2 := hide (Same.trans HR.out hR)
  clear hF hFin hR
  go_wp2_with fail
  go_ret
  exact ⟨_, rfl, Blk.new _ _ _, HR2.out.size, HR2.out.alloc _⟩
set_option maxRecDepth 100000 in
set_option maxHeartbeats 4000000 in
theorem fields_q7 {g : Nat} {L : List Value} (w : World) (h : Blk w g 35 L.toArray) (h0 : L[0]? = some (.int .i64 2)) (h8 : L[8]? = some (.int .i64 7)) :
    Calls Tryz.prog 89 #[.pointer (some ⟨g, 0, none⟩)] w (FldEnd w g [16, 17]) := by
  have Hb := hide h
  have hlt := h.lt
  clear h
  go_enter Tryz.func89, Tryz.ntmps89
  go_wp2_with fail
  refine wp_region_mixS 14 (by kernel_rfl) (by kernel_rfl) fun Fin hFin => ?_
  simp only [List.take_succ_cons, List.take_zero]
  iterate 14 (
      (refine mix_lit ?_ ?_ (fun w => Chg.refl _ w) ?_ ?_ ?_ ?_
       rotate_left; rotate_left
       · intro e w1 hR hF K hK; (skip); go_simp; (refine hK _ _ (Chg.refl _ _) ?_; rfl)
       · intro e; simp only [Act.put, List.setIfInBounds_toArray, List.set_cons_zero, List.set_cons_succ]; rfl
       · exact Loc.const _ _))
  refine mix_nil fun e w1 hR hF => hFin _ _ ?_
  simp only [List.drop_succ_cons, List.drop_zero]
  have hk := (Hb.out.same hR).cell
  have HR := hide hR
  clear hF hFin hR
  go_wp2_with fail
  refine wp_region_mixS 6 (by kernel_rfl) (by kernel_rfl) fun Fin hFin => ?_
  simp only [List.take_succ_cons, List.take_zero]
  iterate 6 (
      (refine mix_lit ?_ ?_ (fun w => Chg.refl _ w) ?_ ?_ ?_ ?_
       rotate_left; rotate_left
       · intro e w1 hR hF K hK; (skip); go_simp; (refine hK _ _ (Chg.refl _ _) ?_; rfl)
       · intro e; simp only [Act.put, List.setIfInBounds_toArray, List.set_cons_zero, List.set_cons_succ]; rfl
       · exact Loc.const _ _))
  refine mix_nil fun e w2 hR hF => hFin _ _ ?_
  simp only [List.drop_succ_cons, List.drop_zero]
  have HR2 := hide (Same.trans HR.out hR)
  clear hF hFin hR
  go_wp2_with fail
  go_ret
  exact ⟨_, rfl, Blk.new _ _ _, HR2.out.size, HR2.out.alloc _⟩
theorem fields_any {g : Nat} (r : Rq) (w : World) (h : Blk w g 35 (rqL r).toArray) (hg : goodR r = true) :
    Calls Tryz.prog 89 #[.pointer (some ⟨g, 0, none⟩)] w (FldEnd w g (offsR r)) := by
  obtain ⟨k, ⟨ck, ⟨p1, p2, p3⟩, ⟨s1, s2, s3⟩⟩, ⟨qk, a, b, c, d, e, f, q7, x, y⟩⟩ := r
  have := good_cases hg
  simp only at this
  rcases this with ⟨rfl, rfl | rfl | rfl | rfl⟩ | ⟨rfl, rfl | rfl | rfl | rfl | rfl | rfl | rfl⟩
  · exact fields_c1 w h rfl rfl
  · exact fields_c2 w h rfl rfl
  · exact fields_c3 w h rfl rfl
  · exact fields_c4 w h rfl rfl
  · exact fields_q1 w h rfl rfl
  · exact fields_q2 w h rfl rfl
  · exact fields_q3 w h rfl rfl
  · exact fields_q4 w h rfl rfl
  · exact fields_q5 w h rfl rfl
  · exact fields_q6 w h rfl rfl
  · exact fields_q7 w h rfl rfl
end Go.Proofs.YtlodanjpkjfjiaaGreatDoor
