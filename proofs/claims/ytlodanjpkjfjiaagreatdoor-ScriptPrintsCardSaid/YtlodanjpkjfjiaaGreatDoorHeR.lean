/-
  The document's Numbers: a good request's numbers, in order. No conditions.
  The document's Hex. Condition: bytes as they lie, not too many.
-/
import Derived.Test.YtlodanjpkjfjiaaGreatDoorOnG
import Derived.Test.YtlodanjpkjfjiaaGreatDoorScHc
import Derived.Test.YtlodanjpkjfjiaaGreatDoorStI
/-! NuA -/
namespace Go.Proofs.YtlodanjpkjfjiaaGreatDoor
open Go.RowKit Go.Al
set_option linter.unusedVariables false

theorem rd_blk {w : World} {g : Nat} {t : TypeId} {xs : List Value} (h : Blk w g t xs.toArray) : Rd w (some ⟨g, 0, none⟩) xs := fun _ => ⟨g, 0, rfl, fun i v hv => by rw [Nat.zero_add, h.cell]; simpa using hv⟩
/-- how Numbers ends -/
def NumEnd (l : List Int) (w : World) (e : Ending) (w' : World) : Prop :=
  (∃ b, e = .returned (.slice (some ⟨b, 0, none⟩) l.length l.length) ∧ Rd w' (some ⟨b, 0, none⟩) (is l)) ∧ Same w w'
set_option maxRecDepth 100000 in
set_option maxHeartbeats 8000000 in
theorem nums_1 (qk p1 p2 p3 s1 s2 s3 a b c d e1 f g x y : Int) (w : World) :
    Calls Tryz.prog 26 #[.agg #[Value.int .i64 1, .int .i64 1, .int .i64 p1, .int .i64 p2, .int .i64 p3, .int .i64 s1, .int .i64 s2, .int .i64 s3, .int .i64 qk, .int .i64 a, .int .i64 b, .int .i64 c, .int .i64 d, .int .i64 e1, .int .i64 f, .int .i64 g, .int .i64 x, .int .i64 y]] w (NumEnd [p1, p2, p3] w) := by
  have Hb := hide (Blk.new w 35 #[Value.int .i64 1, .int .i64 1, .int .i64 p1, .int .i64 p2, .int .i64 p3, .int .i64 s1, .int .i64 s2, .int .i64 s3, .int .i64 qk, .int .i64 a, .int .i64 b, .int .i64 c, .int .i64 d, .int .i64 e1, .int .i64 f, .int .i64 g, .int .i64 x, .int .i64 y])
  have Hs := hide ((Chg.refl (fun _ => False) w).alloc (.cells #[Value.int .i64 1, .int .i64 1, .int .i64 p1, .int .i64 p2, .int .i64 p3, .int .i64 s1, .int .i64 s2, .int .i64 s3, .int .i64 qk, .int .i64 a, .int .i64 b, .int .i64 c, .int .i64 d, .int .i64 e1, .int .i64 f, .int .i64 g, .int .i64 x, .int .i64 y] 35))
  have HP := hide (RowL.lit rfl rfl : RowL [Value.int .i64 p1, .int .i64 p2, .int .i64 p3] 3)
  have HSp := hide (RowL.lit rfl rfl : RowL [Value.int .i64 s1, .int .i64 s2, .int .i64 s3] 3)
  have HQ := hide (RowL.lit rfl rfl : RowL [Value.int .i64 qk, .int .i64 a, .int .i64 b, .int .i64 c, .int .i64 d, .int .i64 e1, .int .i64 f, .int .i64 g, .int .i64 x, .int .i64 y] 10)
  go_enter Tryz.func26, Tryz.ntmps26
  go_wp2_with fail
  generalize w.alloc (.cells #[Value.int .i64 1, .int .i64 1, .int .i64 p1, .int .i64 p2, .int .i64 p3, .int .i64 s1, .int .i64 s2, .int .i64 s3, .int .i64 qk, .int .i64 a, .int .i64 b, .int .i64 c, .int .i64 d, .int .i64 e1, .int .i64 f, .int .i64 g, .int .i64 x, .int .i64 y] 35) = w0 at *
  refine wp_region_mixT (fun k => if k = 11 then some 23 else if k = 12 then some 25 else if k = 13 then some 33 else none) 14 (by kernel_rfl) (by kernel_rfl) fun Fin hFin => ?_
  simp only [List.take_succ_cons, List.take_zero]
  iterate 2 (
      (refine mix_lit ?_ ?_ (fun w => RkT.of_same (Chg.refl _ w)) ?_ ?_ ?_ ?_
       rotate_left; rotate_left
       · intro e w1 hR hF K hK; (skip); go_simp; (refine hK _ _ (RkT.of_same (Chg.refl _ _)) ?_; rfl)
       · intro e; simp only [Act.put, List.setIfInBounds_toArray, List.set_cons_zero, List.set_cons_succ]; rfl
       · exact Loc.const _ _))
  refine mix_ld [Value.int .i64 p1, .int .i64 p2, .int .i64 p3] ?_ (fun w => RkT.of_same (Chg.refl _ w)) (fun _ => by rfl) 23 _ rfl w.heap.size 2 (fun _ => by rfl) _ (fun w1 hR => rangeAt_blk [Value.int .i64 1, .int .i64 1] [Value.int .i64 p1, .int .i64 p2, .int .i64 p3] [Value.int .i64 s1, .int .i64 s2, .int .i64 s3, .int .i64 qk, .int .i64 a, .int .i64 b, .int .i64 c, .int .i64 d, .int .i64 e1, .int .i64 f, .int .i64 g, .int .i64 x, .int .i64 y] (Hb.out.same (RT.same hR))) Tryz.underlying23 rfl (by kernel_rfl) ?_ ?_
  rotate_left
  · intro e; simp only [Act.put, List.setIfInBounds_toArray, List.set_cons_zero, List.set_cons_succ]; rfl
  iterate 2 (
      (refine mix_lit ?_ ?_ (fun w => RkT.of_same (Chg.refl _ w)) ?_ ?_ ?_ ?_
       rotate_left; rotate_left
       · intro e w1 hR hF K hK; (skip); go_simp; (refine hK _ _ (RkT.of_same (Chg.refl _ _)) ?_; rfl)
       · intro e; simp only [Act.put, List.setIfInBounds_toArray, List.set_cons_zero, List.set_cons_succ]; rfl
       · exact Loc.const _ _))
  refine mix_ld [Value.int .i64 s1, .int .i64 s2, .int .i64 s3] ?_ (fun w => RkT.of_same (Chg.refl _ w)) (fun _ => by rfl) 25 _ rfl w.heap.size 5 (fun _ => by rfl) _ (fun w1 hR => rangeAt_blk [Value.int .i64 1, .int .i64 1, .int .i64 p1, .int .i64 p2, .int .i64 p3] [Value.int .i64 s1, .int .i64 s2, .int .i64 s3] [Value.int .i64 qk, .int .i64 a, .int .i64 b, .int .i64 c, .int .i64 d, .int .i64 e1, .int .i64 f, .int .i64 g, .int .i64 x, .int .i64 y] (Hb.out.same (RT.same hR))) Tryz.underlying25 rfl (by kernel_rfl) ?_ ?_
  rotate_left
  · intro e; simp only [Act.put, List.setIfInBounds_toArray, List.set_cons_zero, List.set_cons_succ]; rfl
  iterate 1 (
      (refine mix_lit ?_ ?_ (fun w => RkT.of_same (Chg.refl _ w)) ?_ ?_ ?_ ?_
       rotate_left; rotate_left
       · intro e w1 hR hF K hK; (skip); go_simp; (refine hK _ _ (RkT.of_same (Chg.refl _ _)) ?_; rfl)
       · intro e; simp only [Act.put, List.setIfInBounds_toArray, List.set_cons_zero, List.set_cons_succ]; rfl
       · exact Loc.const _ _))
  refine mix_ld [Value.int .i64 qk, .int .i64 a, .int .i64 b, .int .i64 c, .int .i64 d, .int .i64 e1, .int .i64 f, .int .i64 g, .int .i64 x, .int .i64 y] ?_ (fun w => RkT.of_same (Chg.refl _ w)) (fun _ => by rfl) 33 _ rfl w.heap.size 8 (fun _ => by rfl) _ (fun w1 hR => rangeAt_blk [Value.int .i64 1, .int .i64 1, .int .i64 p1, .int .i64 p2, .int .i64 p3, .int .i64 s1, .int .i64 s2, .int .i64 s3] [Value.int .i64 qk, .int .i64 a, .int .i64 b, .int .i64 c, .int .i64 d, .int .i64 e1, .int .i64 f, .int .i64 g, .int .i64 x, .int .i64 y] [] (Hb.out.same (RT.same hR))) Tryz.underlying33 rfl (by kernel_rfl) ?_ ?_
  rotate_left
  · intro e; simp only [Act.put, List.setIfInBounds_toArray, List.set_cons_zero, List.set_cons_succ]; rfl
  refine mix_let (fun _ v w9 => NewB w0 23 3 v w9) ?_ (by exact Loc.const _ _) (fun i _ _ e u w w' hr h => h.keep hr.keep) ?_ ?_ ?_ ?_
  rotate_left
  · intro e; rfl
  · intro e w9 hR hF K hK; go_simp; exact hK _ _ _ (RkT.of_same ((Chg.refl _ _).alloc _)) ⟨_, rfl, Chg.size hR, _, rfl, Blk.new _ _ _⟩ (by simp only [Act.put, List.setIfInBounds_toArray, List.set_cons_zero, List.set_cons_succ])
  · intro e; simp only [Act.put, List.setIfInBounds_toArray, List.set_cons_zero, List.set_cons_succ]; rfl
  refine mix_let (fun _ v w9 => NewB w0 25 3 v w9) ?_ (by exact Loc.const _ _) (fun i _ _ e u w w' hr h => h.keep hr.keep) ?_ ?_ ?_ ?_
  rotate_left
  · intro e; rfl
  · intro e w9 hR hF K hK; go_simp; exact hK _ _ _ (RkT.of_same ((Chg.refl _ _).alloc _)) ⟨_, rfl, Chg.size hR, _, rfl, Blk.new _ _ _⟩ (by simp only [Act.put, List.setIfInBounds_toArray, List.set_cons_zero, List.set_cons_succ])
  · intro e; simp only [Act.put, List.setIfInBounds_toArray, List.set_cons_zero, List.set_cons_succ]; rfl
  refine mix_let (fun _ v w9 => NewB w0 33 10 v w9) ?_ (by exact Loc.const _ _) (fun i _ _ e u w w' hr h => h.keep hr.keep) ?_ ?_ ?_ ?_
  rotate_left
  · intro e; rfl
  · intro e w9 hR hF K hK; go_simp; exact hK _ _ _ (RkT.of_same ((Chg.refl _ _).alloc _)) ⟨_, rfl, Chg.size hR, _, rfl, Blk.new _ _ _⟩ (by simp only [Act.put, List.setIfInBounds_toArray, List.set_cons_zero, List.set_cons_succ])
  · intro e; simp only [Act.put, List.setIfInBounds_toArray, List.set_cons_zero, List.set_cons_succ]; rfl
  refine mt_st 8 23 3 [Value.int .i64 p1, .int .i64 p2, .int .i64 p3] ?_ (by rfl) rowPt.sz HP.out.len HP.out.one (fun _ => by rfl) (fun _ => by rfl) (fun _ => by rfl) (by kernel_rfl) (fun e w h => h) (by rfl) (by intro i hi h; (repeat' split at h) <;> first | omega | (cases h; done) | exact absurd h (by decide)) ?_ ?_
  rotate_left
  · intro e; rfl
  refine mt_st 9 25 3 [Value.int .i64 s1, .int .i64 s2, .int .i64 s3] ?_ (by rfl) rowSp.sz HSp.out.len HSp.out.one (fun _ => by rfl) (fun _ => by rfl) (fun _ => by rfl) (by kernel_rfl) (fun e w h => h) (by rfl) (by intro i hi h; (repeat' split at h) <;> first | omega | (cases h; done) | exact absurd h (by decide)) ?_ ?_
  rotate_left
  · intro e; rfl
  refine mt_st 10 33 10 [Value.int .i64 qk, .int .i64 a, .int .i64 b, .int .i64 c, .int .i64 d, .int .i64 e1, .int .i64 f, .int .i64 g, .int .i64 x, .int .i64 y] ?_ (by rfl) rowQry.sz HQ.out.len HQ.out.one (fun _ => by rfl) (fun _ => by rfl) (fun _ => by rfl) (by kernel_rfl) (fun e w h => h) (by rfl) (by intro i hi h; (repeat' split at h) <;> first | omega | (cases h; done) | exact absurd h (by decide)) ?_ ?_
  rotate_left
  · intro e; rfl
  refine mix_nil fun e w3 hR hF => hFin _ _ ?_
  simp only [List.drop_succ_cons, List.drop_zero]
  obtain ⟨b4, h4, hz4, hB4⟩ := (show PutB w0 23 [Value.int .i64 p1, .int .i64 p2, .int .i64 p3] (e 8) w3 from hF 11 (by decide))
  obtain ⟨b5, h5, hz5, hB5⟩ := (show PutB w0 25 [Value.int .i64 s1, .int .i64 s2, .int .i64 s3] (e 9) w3 from hF 12 (by decide))
  obtain ⟨b6, h6, hz6, hB6⟩ := (show PutB w0 33 [Value.int .i64 qk, .int .i64 a, .int .i64 b, .int .i64 c, .int .i64 d, .int .i64 e1, .int .i64 f, .int .i64 g, .int .i64 x, .int .i64 y] (e 10) w3 from hF 13 (by decide))
  rw [h4, h5, h6]
  have hsm := RT.same hR
  have HB := hide (Hb.out.same hsm)
  have H4 := hide hB4
  have H5 := hide hB5
  have H6 := hide hB6
  have HS := hide (Same.trans Hs.out hsm)
  have hlb := HB.out.lt
  have hl4 := hB4.lt
  have hl5 := hB5.lt
  have hl6 := hB6.lt
  have hx41 : b4 < w3.heap.size + 1 := by omega
  have hx42 : b4 < w3.heap.size + 1 + 1 := by omega
  have hx43 : b4 < w3.heap.size + 1 + 1 + 1 := by omega
  have hx44 : b4 < w3.heap.size + 1 + 1 + 1 + 1 := by omega
  have hx45 : b4 < w3.heap.size + 1 + 1 + 1 + 1 + 1 := by omega
  have hx46 : b4 < w3.heap.size + 1 + 1 + 1 + 1 + 1 + 1 := by omega
  have hx51 : b5 < w3.heap.size + 1 := by omega
  have hx52 : b5 < w3.heap.size + 1 + 1 := by omega
  have hx53 : b5 < w3.heap.size + 1 + 1 + 1 := by omega
  have hx54 : b5 < w3.heap.size + 1 + 1 + 1 + 1 := by omega
  have hx55 : b5 < w3.heap.size + 1 + 1 + 1 + 1 + 1 := by omega
  have hx56 : b5 < w3.heap.size + 1 + 1 + 1 + 1 + 1 + 1 := by omega
  have hxb1 : w.heap.size < w3.heap.size + 1 := by omega
  have hxb2 : w.heap.size < w3.heap.size + 1 + 1 := by omega
  have hxb3 : w.heap.size < w3.heap.size + 1 + 1 + 1 := by omega
  have hxb4 : w.heap.size < w3.heap.size + 1 + 1 + 1 + 1 := by omega
  have hxb5 : w.heap.size < w3.heap.size + 1 + 1 + 1 + 1 + 1 := by omega
  have hxb6 : w.heap.size < w3.heap.size + 1 + 1 + 1 + 1 + 1 + 1 := by omega
  have kb0 : w3.cell? ⟨w.heap.size, 0, none⟩ = some (Value.int .i64 1) := HB.out.cell 0
  have kb1 : w3.cell? ⟨w.heap.size, 1, none⟩ = some (Value.int .i64 1) := HB.out.cell 1
  have k40 : w3.cell? ⟨b4, 0, none⟩ = some (Value.int .i64 p1) := H4.out.cell 0
  have k41 : w3.cell? ⟨b4, 1, none⟩ = some (Value.int .i64 p2) := H4.out.cell 1
  have k42 : w3.cell? ⟨b4, 2, none⟩ = some (Value.int .i64 p3) := H4.out.cell 2
  have k50 : w3.cell? ⟨b5, 0, none⟩ = some (Value.int .i64 s1) := H5.out.cell 0
  have k51 : w3.cell? ⟨b5, 1, none⟩ = some (Value.int .i64 s2) := H5.out.cell 1
  have k52 : w3.cell? ⟨b5, 2, none⟩ = some (Value.int .i64 s3) := H5.out.cell 2
  clear hR hF hFin h4 h5 h6 hB4 hB5 hB6 hz4 hz5 hz6 hsm e Hb Hs HP HSp HQ
  go_wp2_with fail
  go_ret
  refine ⟨⟨_, rfl, ?_⟩, ((((((HS.out.alloc _).alloc _).alloc _).alloc _).alloc _).alloc _)⟩
  have h9 := Blk.new (w3.alloc (.cells #[] 3)) 3 #[Value.int .i64 p1, .int .i64 p2, .int .i64 p3]
  simp only [World.size_alloc] at h9
  exact (((((rd_blk h9).alloc _).alloc _).alloc _).alloc _)
set_option maxRecDepth 100000 in
set_option maxHeartbeats 8000000 in
theorem nums_2 (qk p1 p2 p3 s1 s2 s3 a b c d e1 f g x y : Int) (w : World) :
    Calls Tryz.prog 26 #[.agg #[Value.int .i64 1, .int .i64 2, .int .i64 p1, .int .i64 p2, .int .i64 p3, .int .i64 s1, .int .i64 s2, .int .i64 s3, .int .i64 qk, .int .i64 a, .int .i64 b, .int .i64 c, .int .i64 d, .int .i64 e1, .int .i64 f, .int .i64 g, .int .i64 x, .int .i64 y]] w (NumEnd [p1] w) := by
  have Hb := hide (Blk.new w 35 #[Value.int .i64 1, .int .i64 2, .int .i64 p1, .int .i64 p2, .int .i64 p3, .int .i64 s1, .int .i64 s2, .int .i64 s3, .int .i64 qk, .int .i64 a, .int .i64 b, .int .i64 c, .int .i64 d, .int .i64 e1, .int .i64 f, .int .i64 g, .int .i64 x, .int .i64 y])
  have Hs := hide ((Chg.refl (fun _ => False) w).alloc (.cells #[Value.int .i64 1, .int .i64 2, .int .i64 p1, .int .i64 p2, .int .i64 p3, .int .i64 s1, .int .i64 s2, .int .i64 s3, .int .i64 qk, .int .i64 a, .int .i64 b, .int .i64 c, .int .i64 d, .int .i64 e1, .int .i64 f, .int .i64 g, .int .i64 x, .int .i64 y] 35))
  have HP := hide (RowL.lit rfl rfl : RowL [Value.int .i64 p1, .int .i64 p2, .int .i64 p3] 3)
  have HSp := hide (RowL.lit rfl rfl : RowL [Value.int .i64 s1, .int .i64 s2, .int .i64 s3] 3)
  have HQ := hide (RowL.lit rfl rfl : RowL [Value.int .i64 qk, .int .i64 a, .int .i64 b, .int .i64 c, .int .i64 d, .int .i64 e1, .int .i64 f, .int .i64 g, .int .i64 x, .int .i64 y] 10)
  go_enter Tryz.func26, Tryz.ntmps26
  go_wp2_with fail
  generalize w.alloc (.cells #[Value.int .i64 1, .int .i64 2, .int .i64 p1, .int .i64 p2, .int .i64 p3, .int .i64 s1, .int .i64 s2, .int .i64 s3, .int .i64 qk, .int .i64 a, .int .i64 b, .int .i64 c, .int .i64 d, .int .i64 e1, .int .i64 f, .int .i64 g, .int .i64 x, .int .i64 y] 35) = w0 at *
  refine wp_region_mixT (fun k => if k = 11 then some 23 else if k = 12 then some 25 else if k = 13 then some 33 else none) 14 (by kernel_rfl) (by kernel_rfl) fun Fin hFin => ?_
  simp only [List.take_succ_cons, List.take_zero]
  iterate 2 (
      (refine mix_lit ?_ ?_ (fun w => RkT.of_same (Chg.refl _ w)) ?_ ?_ ?_ ?_
       rotate_left; rotate_left
       · intro e w1 hR hF K hK; (skip); go_simp; (refine hK _ _ (RkT.of_same (Chg.refl _ _)) ?_; rfl)
       · intro e; simp only [Act.put, List.setIfInBounds_toArray, List.set_cons_zero, List.set_cons_succ]; rfl
       · exact Loc.const _ _))
  refine mix_ld [Value.int .i64 p1, .int .i64 p2, .int .i64 p3] ?_ (fun w => RkT.of_same (Chg.refl _ w)) (fun _ => by rfl) 23 _ rfl w.heap.size 2 (fun _ => by rfl) _ (fun w1 hR => rangeAt_blk [Value.int .i64 1, .int .i64 2] [Value.int .i64 p1, .int .i64 p2, .int .i64 p3] [Value.int .i64 s1, .int .i64 s2, .int .i64 s3, .int .i64 qk, .int .i64 a, .int .i64 b, .int .i64 c, .int .i64 d, .int .i64 e1, .int .i64 f, .int .i64 g, .int .i64 x, .int .i64 y] (Hb.out.same (RT.same hR))) Tryz.underlying23 rfl (by kernel_rfl) ?_ ?_
  rotate_left
  · intro e; simp only [Act.put, List.setIfInBounds_toArray, List.set_cons_zero, List.set_cons_succ]; rfl
  iterate 2 (
      (refine mix_lit ?_ ?_ (fun w => RkT.of_same (Chg.refl _ w)) ?_ ?_ ?_ ?_
       rotate_left; rotate_left
       · intro e w1 hR hF K hK; (skip); go_simp; (refine hK _ _ (RkT.of_same (Chg.refl _ _)) ?_; rfl)
       · intro e; simp only [Act.put, List.setIfInBounds_toArray, List.set_cons_zero, List.set_cons_succ]; rfl
       · exact Loc.const _ _))
  refine mix_ld [Value.int .i64 s1, .int .i64 s2, .int .i64 s3] ?_ (fun w => RkT.of_same (Chg.refl _ w)) (fun _ => by rfl) 25 _ rfl w.heap.size 5 (fun _ => by rfl) _ (fun w1 hR => rangeAt_blk [Value.int .i64 1, .int .i64 2, .int .i64 p1, .int .i64 p2, .int .i64 p3] [Value.int .i64 s1, .int .i64 s2, .int .i64 s3] [Value.int .i64 qk, .int .i64 a, .int .i64 b, .int .i64 c, .int .i64 d, .int .i64 e1, .int .i64 f, .int .i64 g, .int .i64 x, .int .i64 y] (Hb.out.same (RT.same hR))) Tryz.underlying25 rfl (by kernel_rfl) ?_ ?_
  rotate_left
  · intro e; simp only [Act.put, List.setIfInBounds_toArray, List.set_cons_zero, List.set_cons_succ]; rfl
  iterate 1 (
      (refine mix_lit ?_ ?_ (fun w => RkT.of_same (Chg.refl _ w)) ?_ ?_ ?_ ?_
       rotate_left; rotate_left
       · intro e w1 hR hF K hK; (skip); go_simp; (refine hK _ _ (RkT.of_same (Chg.refl _ _)) ?_; rfl)
       · intro e; simp only [Act.put, List.setIfInBounds_toArray, List.set_cons_zero, List.set_cons_succ]; rfl
       · exact Loc.const _ _))
  refine mix_ld [Value.int .i64 qk, .int .i64 a, .int .i64 b, .int .i64 c, .int .i64 d, .int .i64 e1, .int .i64 f, .int .i64 g, .int .i64 x, .int .i64 y] ?_ (fun w => RkT.of_same (Chg.refl _ w)) (fun _ => by rfl) 33 _ rfl w.heap.size 8 (fun _ => by rfl) _ (fun w1 hR => rangeAt_blk [Value.int .i64 1, .int .i64 2, .int .i64 p1, .int .i64 p2, .int .i64 p3, .int .i64 s1, .int .i64 s2, .int .i64 s3] [Value.int .i64 qk, .int .i64 a, .int .i64 b, .int .i64 c, .int .i64 d, .int .i64 e1, .int .i64 f, .int .i64 g, .int .i64 x, .int .i64 y] [] (Hb.out.same (RT.same hR))) Tryz.underlying33 rfl (by kernel_rfl) ?_ ?_
  rotate_left
  · intro e; simp only [Act.put, List.setIfInBounds_toArray, List.set_cons_zero, List.set_cons_succ]; rfl
  refine mix_let (fun _ v w9 => NewB w0 23 3 v w9) ?_ (by exact Loc.const _ _) (fun i _ _ e u w w' hr h => h.keep hr.keep) ?_ ?_ ?_ ?_
  rotate_left
  · intro e; rfl
  · intro e w9 hR hF K hK; go_simp; exact hK _ _ _ (RkT.of_same ((Chg.refl _ _).alloc _)) ⟨_, rfl, Chg.size hR, _, rfl, Blk.new _ _ _⟩ (by simp only [Act.put, List.setIfInBounds_toArray, List.set_cons_zero, List.set_cons_succ])
  · intro e; simp only [Act.put, List.setIfInBounds_toArray, List.set_cons_zero, List.set_cons_succ]; rfl
  refine mix_let (fun _ v w9 => NewB w0 25 3 v w9) ?_ (by exact Loc.const _ _) (fun i _ _ e u w w' hr h => h.keep hr.keep) ?_ ?_ ?_ ?_
  rotate_left
  · intro e; rfl
  · intro e w9 hR hF K hK; go_simp; exact hK _ _ _ (RkT.of_same ((Chg.refl _ _).alloc _)) ⟨_, rfl, Chg.size hR, _, rfl, Blk.new _ _ _⟩ (by simp only [Act.put, List.setIfInBounds_toArray, List.set_cons_zero, List.set_cons_succ])
  · intro e; simp only [Act.put, List.setIfInBounds_toArray, List.set_cons_zero, List.set_cons_succ]; rfl
  refine mix_let (fun _ v w9 => NewB w0 33 10 v w9) ?_ (by exact Loc.const _ _) (fun i _ _ e u w w' hr h => h.keep hr.keep) ?_ ?_ ?_ ?_
  rotate_left
  · intro e; rfl
  · intro e w9 hR hF K hK; go_simp; exact hK _ _ _ (RkT.of_same ((Chg.refl _ _).alloc _)) ⟨_, rfl, Chg.size hR, _, rfl, Blk.new _ _ _⟩ (by simp only [Act.put, List.setIfInBounds_toArray, List.set_cons_zero, List.set_cons_succ])
  · intro e; simp only [Act.put, List.setIfInBounds_toArray, List.set_cons_zero, List.set_cons_succ]; rfl
  refine mt_st 8 23 3 [Value.int .i64 p1, .int .i64 p2, .int .i64 p3] ?_ (by rfl) rowPt.sz HP.out.len HP.out.one (fun _ => by rfl) (fun _ => by rfl) (fun _ => by rfl) (by kernel_rfl) (fun e w h => h) (by rfl) (by intro i hi h; (repeat' split at h) <;> first | omega | (cases h; done) | exact absurd h (by decide)) ?_ ?_
  rotate_left
  · intro e; rfl
  refine mt_st 9 25 3 [Value.int .i64 s1, .int .i64 s2, .int .i64 s3] ?_ (by rfl) rowSp.sz HSp.out.len HSp.out.one (fun _ => by rfl) (fun _ => by rfl) (fun _ => by rfl) (by kernel_rfl) (fun e w h => h) (by rfl) (by intro i hi h; (repeat' split at h) <;> first | omega | (cases h; done) | exact absurd h (by decide)) ?_ ?_
  rotate_left
  · intro e; rfl
  refine mt_st 10 33 10 [Value.int .i64 qk, .int .i64 a, .int .i64 b, .int .i64 c, .int .i64 d, .int .i64 e1, .int .i64 f, .int .i64 g, .int .i64 x, .int .i64 y] ?_ (by rfl) rowQry.sz HQ.out.len HQ.out.one (fun _ => by rfl) (fun _ => by rfl) (fun _ => by rfl) (by kernel_rfl) (fun e w h => h) (by rfl) (by intro i hi h; (repeat' split at h) <;> first | omega | (cases h; done) | exact absurd h (by decide)) ?_ ?_
  rotate_left
  · intro e; rfl
  refine mix_nil fun e w3 hR hF => hFin _ _ ?_
  simp only [List.drop_succ_cons, List.drop_zero]
  obtain ⟨b4, h4, hz4, hB4⟩ := (show PutB w0 23 [Value.int .i64 p1, .int .i64 p2, .int .i64 p3] (e 8) w3 from hF 11 (by decide))
  obtain ⟨b5, h5, hz5, hB5⟩ := (show PutB w0 25 [Value.int .i64 s1, .int .i64 s2, .int .i64 s3] (e 9) w3 from hF 12 (by decide))
  obtain ⟨b6, h6, hz6, hB6⟩ := (show PutB w0 33 [Value.int .i64 qk, .int .i64 a, .int .i64 b, .int .i64 c, .int .i64 d, .int .i64 e1, .int .i64 f, .int .i64 g, .int .i64 x, .int .i64 y] (e 10) w3 from hF 13 (by decide))
  rw [h4, h5, h6]
  have hsm := RT.same hR
  have HB := hide (Hb.out.same hsm)
  have H4 := hide hB4
  have H5 := hide hB5
  have H6 := hide hB6
  have HS := hide (Same.trans Hs.out hsm)
  have hlb := HB.out.lt
  have hl4 := hB4.lt
  have hl5 := hB5.lt
  have hl6 := hB6.lt
  have hx41 : b4 < w3.heap.size + 1 := by omega
  have hx42 : b4 < w3.heap.size + 1 + 1 := by omega
  have hx43 : b4 < w3.heap.size + 1 + 1 + 1 := by omega
  have hx44 : b4 < w3.heap.size + 1 + 1 + 1 + 1 := by omega
  have hx45 : b4 < w3.heap.size + 1 + 1 + 1 + 1 + 1 := by omega
  have hx46 : b4 < w3.heap.size + 1 + 1 + 1 + 1 + 1 + 1 := by omega
  have hx51 : b5 < w3.heap.size + 1 := by omega
  have hx52 : b5 < w3.heap.size + 1 + 1 := by omega
  have hx53 : b5 < w3.heap.size + 1 + 1 + 1 := by omega
  have hx54 : b5 < w3.heap.size + 1 + 1 + 1 + 1 := by omega
  have hx55 : b5 < w3.heap.size + 1 + 1 + 1 + 1 + 1 := by omega
  have hx56 : b5 < w3.heap.size + 1 + 1 + 1 + 1 + 1 + 1 := by omega
  have hxb1 : w.heap.size < w3.heap.size + 1 := by omega
  have hxb2 : w.heap.size < w3.heap.size + 1 + 1 := by omega
  have hxb3 : w.heap.size < w3.heap.size + 1 + 1 + 1 := by omega
  have hxb4 : w.heap.size < w3.heap.size + 1 + 1 + 1 + 1 := by omega
  have hxb5 : w.heap.size < w3.heap.size + 1 + 1 + 1 + 1 + 1 := by omega
  have hxb6 : w.heap.size < w3.heap.size + 1 + 1 + 1 + 1 + 1 + 1 := by omega
  have kb0 : w3.cell? ⟨w.heap.size, 0, none⟩ = some (Value.int .i64 1) := HB.out.cell 0
  have kb1 : w3.cell? ⟨w.heap.size, 1, none⟩ = some (Value.int .i64 2) := HB.out.cell 1
  have k40 : w3.cell? ⟨b4, 0, none⟩ = some (Value.int .i64 p1) := H4.out.cell 0
  have k41 : w3.cell? ⟨b4, 1, none⟩ = some (Value.int .i64 p2) := H4.out.cell 1
  have k42 : w3.cell? ⟨b4, 2, none⟩ = some (Value.int .i64 p3) := H4.out.cell 2
  have k50 : w3.cell? ⟨b5, 0, none⟩ = some (Value.int .i64 s1) := H5.out.cell 0
  have k51 : w3.cell? ⟨b5, 1, none⟩ = some (Value.int .i64 s2) := H5.out.cell 1
  have k52 : w3.cell? ⟨b5, 2, none⟩ = some (Value.int .i64 s3) := H5.out.cell 2
  clear hR hF hFin h4 h5 h6 hB4 hB5 hB6 hz4 hz5 hz6 hsm e Hb Hs HP HSp HQ
  go_wp2_with fail
  go_ret
  refine ⟨⟨_, rfl, ?_⟩, ((((((HS.out.alloc _).alloc _).alloc _).alloc _).alloc _).alloc _)⟩
  have h9 := Blk.new ((w3.alloc (.cells #[] 3)).alloc (.cells #[Value.int .i64 p1, .int .i64 p2, .int .i64 p3] 3)) 3 #[Value.int .i64 p1]
  simp only [World.size_alloc] at h9
  exact ((((rd_blk h9).alloc _).alloc _).alloc _)
set_option maxRecDepth 100000 in
set_option maxHeartbeats 8000000 in
theorem nums_3 (qk p1 p2 p3 s1 s2 s3 a b c d e1 f g x y : Int) (w : World) :
    Calls Tryz.prog 26 #[.agg #[Value.int .i64 1, .int .i64 3, .int .i64 p1, .int .i64 p2, .int .i64 p3, .int .i64 s1, .int .i64 s2, .int .i64 s3, .int .i64 qk, .int .i64 a, .int .i64 b, .int .i64 c, .int .i64 d, .int .i64 e1, .int .i64 f, .int .i64 g, .int .i64 x, .int .i64 y]] w (NumEnd [s1, s2, s3] w) := by
  have Hb := hide (Blk.new w 35 #[Value.int .i64 1, .int .i64 3, .int .i64 p1, .int .i64 p2, .int .i64 p3, .int .i64 s1, .int .i64 s2, .int .i64 s3, .int .i64 qk, .int .i64 a, .int .i64 b, .int .i64 c, .int .i64 d, .int .i64 e1, .int .i64 f, .int .i64 g, .int .i64 x, .int .i64 y])
  have Hs := hide ((Chg.refl (fun _ => False) w).alloc (.cells #[Value.int .i64 1, .int .i64 3, .int .i64 p1, .int .i64 p2, .int .i64 p3, .int .i64 s1, .int .i64 s2, .int .i64 s3, .int .i64 qk, .int .i64 a, .int .i64 b, .int .i64 c, .int .i64 d, .int .i64 e1, .int .i64 f, .int .i64 g, .int .i64 x, .int .i64 y] 35))
  have HP := hide (RowL.lit rfl rfl : RowL [Value.int .i64 p1, .int .i64 p2, .int .i64 p3] 3)
  have HSp := hide (RowL.lit rfl rfl : RowL [Value.int .i64 s1, .int .i64 s2, .int .i64 s3] 3)
  have HQ := hide (RowL.lit rfl rfl : RowL [Value.int .i64 qk, .int .i64 a, .int .i64 b, .int .i64 c, .int .i64 d, .int .i64 e1, .int .i64 f, .int .i64 g, .int .i64 x, .int .i64 y] 10)
  go_enter Tryz.func26, Tryz.ntmps26
  go_wp2_with fail
  generalize w.alloc (.cells #[Value.int .i64 1, .int .i64 3, .int .i64 p1, .int .i64 p2, .int .i64 p3, .int .i64 s1, .int .i64 s2, .int .i64 s3, .int .i64 qk, .int .i64 a, .int .i64 b, .int .i64 c, .int .i64 d, .int .i64 e1, .int .i64 f, .int .i64 g, .int .i64 x, .int .i64 y] 35) = w0 at *
  refine wp_region_mixT (fun k => if k = 11 then some 23 else if k = 12 then some 25 else if k = 13 then some 33 else none) 14 (by kernel_rfl) (by kernel_rfl) fun Fin hFin => ?_
  simp only [List.take_succ_cons, List.take_zero]
  iterate 2 (
      (refine mix_lit ?_ ?_ (fun w => RkT.of_same (Chg.refl _ w)) ?_ ?_ ?_ ?_
       rotate_left; rotate_left
       · intro e w1 hR hF K hK; (skip); go_simp; (refine hK _ _ (RkT.of_same (Chg.refl _ _)) ?_; rfl)
       · intro e; simp only [Act.put, List.setIfInBounds_toArray, List.set_cons_zero, List.set_cons_succ]; rfl
       · exact Loc.const _ _))
  refine mix_ld [Value.int .i64 p1, .int .i64 p2, .int .i64 p3] ?_ (fun w => RkT.of_same (Chg.refl _ w)) (fun _ => by rfl) 23 _ rfl w.heap.size 2 (fun _ => by rfl) _ (fun w1 hR => rangeAt_blk [Value.int .i64 1, .int .i64 3] [Value.int .i64 p1, .int .i64 p2, .int .i64 p3] [Value.int .i64 s1, .int .i64 s2, .int .i64 s3, .int .i64 qk, .int .i64 a, .int .i64 b, .int .i64 c, .int .i64 d, .int .i64 e1, .int .i64 f, .int .i64 g, .int .i64 x, .int .i64 y] (Hb.out.same (RT.same hR))) Tryz.underlying23 rfl (by kernel_rfl) ?_ ?_
  rotate_left
  · intro e; simp only [Act.put, List.setIfInBounds_toArray, List.set_cons_zero, List.set_cons_succ]; rfl
  iterate 2 (
      (refine mix_lit ?_ ?_ (fun w => RkT.of_same (Chg.refl _ w)) ?_ ?_ ?_ ?_
       rotate_left; rotate_left
       · intro e w1 hR hF K hK; (skip); go_simp; (refine hK _ _ (RkT.of_same (Chg.refl _ _)) ?_; rfl)
       · intro e; simp only [Act.put, List.setIfInBounds_toArray, List.set_cons_zero, List.set_cons_succ]; rfl
       · exact Loc.const _ _))
  refine mix_ld [Value.int .i64 s1, .int .i64 s2, .int .i64 s3] ?_ (fun w => RkT.of_same (Chg.refl _ w)) (fun _ => by rfl) 25 _ rfl w.heap.size 5 (fun _ => by rfl) _ (fun w1 hR => rangeAt_blk [Value.int .i64 1, .int .i64 3, .int .i64 p1, .int .i64 p2, .int .i64 p3] [Value.int .i64 s1, .int .i64 s2, .int .i64 s3] [Value.int .i64 qk, .int .i64 a, .int .i64 b, .int .i64 c, .int .i64 d, .int .i64 e1, .int .i64 f, .int .i64 g, .int .i64 x, .int .i64 y] (Hb.out.same (RT.same hR))) Tryz.underlying25 rfl (by kernel_rfl) ?_ ?_
  rotate_left
  · intro e; simp only [Act.put, List.setIfInBounds_toArray, List.set_cons_zero, List.set_cons_succ]; rfl
  iterate 1 (
      (refine mix_lit ?_ ?_ (fun w => RkT.of_same (Chg.refl _ w)) ?_ ?_ ?_ ?_
       rotate_left; rotate_left
       · intro e w1 hR hF K hK; (skip); go_simp; (refine hK _ _ (RkT.of_same (Chg.refl _ _)) ?_; rfl)
       · intro e; simp only [Act.put, List.setIfInBounds_toArray, List.set_cons_zero, List.set_cons_succ]; rfl
       · exact Loc.const _ _))
  refine mix_ld [Value.int .i64 qk, .int .i64 a, .int .i64 b, .int .i64 c, .int .i64 d, .int .i64 e1, .int .i64 f, .int .i64 g, .int .i64 x, .int .i64 y] ?_ (fun w => RkT.of_same (Chg.refl _ w)) (fun _ => by rfl) 33 _ rfl w.heap.size 8 (fun _ => by rfl) _ (fun w1 hR => rangeAt_blk [Value.int .i64 1, .int .i64 3, .int .i64 p1, .int .i64 p2, .int .i64 p3, .int .i64 s1, .int .i64 s2, .int .i64 s3] [Value.int .i64 qk, .int .i64 a, .int .i64 b, .int .i64 c, .int .i64 d, .int .i64 e1, .int .i64 f, .int .i64 g, .int .i64 x, .int .i64 y] [] (Hb.out.same (RT.same hR))) Tryz.underlying33 rfl (by kernel_rfl) ?_ ?_
  rotate_left
  · intro e; simp only [Act.put, List.setIfInBounds_toArray, List.set_cons_zero, List.set_cons_succ]; rfl
  refine mix_let (fun _ v w9 => NewB w0 23 3 v w9) ?_ (by exact Loc.const _ _) (fun i _ _ e u w w' hr h => h.keep hr.keep) ?_ ?_ ?_ ?_
  rotate_left
  · intro e; rfl
  · intro e w9 hR hF K hK; go_simp; exact hK _ _ _ (RkT.of_same ((Chg.refl _ _).alloc _)) ⟨_, rfl, Chg.size hR, _, rfl, Blk.new _ _ _⟩ (by simp only [Act.put, List.setIfInBounds_toArray, List.set_cons_zero, List.set_cons_succ])
  · intro e; simp only [Act.put, List.setIfInBounds_toArray, List.set_cons_zero, List.set_cons_succ]; rfl
  refine mix_let (fun _ v w9 => NewB w0 25 3 v w9) ?_ (by exact Loc.const _ _) (fun i _ _ e u w w' hr h => h.keep hr.keep) ?_ ?_ ?_ ?_
  rotate_left
  · intro e; rfl
  · intro e w9 hR hF K hK; go_simp; exact hK _ _ _ (RkT.of_same ((Chg.refl _ _).alloc _)) ⟨_, rfl, Chg.size hR, _, rfl, Blk.new _ _ _⟩ (by simp only [Act.put, List.setIfInBounds_toArray, List.set_cons_zero, List.set_cons_succ])
  · intro e; simp only [Act.put, List.setIfInBounds_toArray, List.set_cons_zero, List.set_cons_succ]; rfl
  refine mix_let (fun _ v w9 => NewB w0 33 10 v w9) ?_ (by exact Loc.const _ _) (fun i _ _ e u w w' hr h => h.keep hr.keep) ?_ ?_ ?_ ?_
  rotate_left
  · intro e; rfl
  · intro e w9 hR hF K hK; go_simp; exact hK _ _ _ (RkT.of_same ((Chg.refl _ _).alloc _)) ⟨_, rfl, Chg.size hR, _, rfl, Blk.new _ _ _⟩ (by simp only [Act.put, List.setIfInBounds_toArray, List.set_cons_zero, List.set_cons_succ])
  · intro e; simp only [Act.put, List.setIfInBounds_toArray, List.set_cons_zero, List.set_cons_succ]; rfl
  refine mt_st 8 23 3 [Value.int .i64 p1, .int .i64 p2, .int .i64 p3] ?_ (by rfl) rowPt.sz HP.out.len HP.out.one (fun _ => by rfl) (fun _ => by rfl) (fun _ => by rfl) (by kernel_rfl) (fun e w h => h) (by rfl) (by intro i hi h; (repeat' split at h) <;> first | omega | (cases h; done) | exact absurd h (by decide)) ?_ ?_
  rotate_left
  · intro e; rfl
  refine mt_st 9 25 3 [Value.int .i64 s1, .int .i64 s2, .int .i64 s3] ?_ (by rfl) rowSp.sz HSp.out.len HSp.out.one (fun _ => by rfl) (fun _ => by rfl) (fun _ => by rfl) (by kernel_rfl) (fun e w h => h) (by rfl) (by intro i hi h; (repeat' split at h) <;> first | omega | (cases h; done) | exact absurd h (by decide)) ?_ ?_
  rotate_left
  · intro e; rfl
  refine mt_st 10 33 10 [Value.int .i64 qk, .int .i64 a, .int .i64 b, .int .i64 c, .int .i64 d, .int .i64 e1, .int .i64 f, .int .i64 g, .int .i64 x, .int .i64 y] ?_ (by rfl) rowQry.sz HQ.out.len HQ.out.one (fun _ => by rfl) (fun _ => by rfl) (fun _ => by rfl) (by kernel_rfl) (fun e w h => h) (by rfl) (by intro i hi h; (repeat' split at h) <;> first | omega | (cases h; done) | exact absurd h (by decide)) ?_ ?_
  rotate_left
  · intro e; rfl
  refine mix_nil fun e w3 hR hF => hFin _ _ ?_
  simp only [List.drop_succ_cons, List.drop_zero]
  obtain ⟨b4, h4, hz4, hB4⟩ := (show PutB w0 23 [Value.int .i64 p1, .int .i64 p2, .int .i64 p3] (e 8) w3 from hF 11 (by decide))
  obtain ⟨b5, h5, hz5, hB5⟩ := (show PutB w0 25 [Value.int .i64 s1, .int .i64 s2, .int .i64 s3] (e 9) w3 from hF 12 (by decide))
  obtain ⟨b6, h6, hz6, hB6⟩ := (show PutB w0 33 [Value.int .i64 qk, .int .i64 a, .int .i64 b, .int .i64 c, .int .i64 d, .int .i64 e1, .int .i64 f, .int .i64 g, .int .i64 x, .int .i64 y] (e 10) w3 from hF 13 (by decide))
  rw [h4, h5, h6]
  have hsm := RT.same hR
  have HB := hide (Hb.out.same hsm)
  have H4 := hide hB4
  have H5 := hide hB5
  have H6 := hide hB6
  have HS := hide (Same.trans Hs.out hsm)
  have hlb := HB.out.lt
  have hl4 := hB4.lt
  have hl5 := hB5.lt
  have hl6 := hB6.lt
  have hx41 : b4 < w3.heap.size + 1 := by omega
  have hx42 : b4 < w3.heap.size + 1 + 1 := by omega
  have hx43 : b4 < w3.heap.size + 1 + 1 + 1 := by omega
  have hx44 : b4 < w3.heap.size + 1 + 1 + 1 + 1 := by omega
  have hx45 : b4 < w3.heap.size + 1 + 1 + 1 + 1 + 1 := by omega
  have hx46 : b4 < w3.heap.size + 1 + 1 + 1 + 1 + 1 + 1 := by omega
  have hx51 : b5 < w3.heap.size + 1 := by omega
  have hx52 : b5 < w3.heap.size + 1 + 1 := by omega
  have hx53 : b5 < w3.heap.size + 1 + 1 + 1 := by omega
  have hx54 : b5 < w3.heap.size + 1 + 1 + 1 + 1 := by omega
  have hx55 : b5 < w3.heap.size + 1 + 1 + 1 + 1 + 1 := by omega
  have hx56 : b5 < w3.heap.size + 1 + 1 + 1 + 1 + 1 + 1 := by omega
  have hxb1 : w.heap.size < w3.heap.size + 1 := by omega
  have hxb2 : w.heap.size < w3.heap.size + 1 + 1 := by omega
  have hxb3 : w.heap.size < w3.heap.size + 1 + 1 + 1 := by omega
  have hxb4 : w.heap.size < w3.heap.size + 1 + 1 + 1 + 1 := by omega
  have hxb5 : w.heap.size < w3.heap.size + 1 + 1 + 1 + 1 + 1 := by omega
  have hxb6 : w.heap.size < w3.heap.size + 1 + 1 + 1 + 1 + 1 + 1 := by omega
  have kb0 : w3.cell? ⟨w.heap.size, 0, none⟩ = some (Value.int .i64 1) := HB.out.cell 0
  have kb1 : w3.cell? ⟨w.heap.size, 1, none⟩ = some (Value.int .i64 3) := HB.out.cell 1
  have k40 : w3.cell? ⟨b4, 0, none⟩ = some (Value.int .i64 p1) := H4.out.cell 0
  have k41 : w3.cell? ⟨b4, 1, none⟩ = some (Value.int .i64 p2) := H4.out.cell 1
  have k42 : w3.cell? ⟨b4, 2, none⟩ = some (Value.int .i64 p3) := H4.out.cell 2
  have k50 : w3.cell? ⟨b5, 0, none⟩ = some (Value.int .i64 s1) := H5.out.cell 0
  have k51 : w3.cell? ⟨b5, 1, none⟩ = some (Value.int .i64 s2) := H5.out.cell 1
  have k52 : w3.cell? ⟨b5, 2, none⟩ = some (Value.int .i64 s3) := H5.out.cell 2
  clear hR hF hFin h4 h5 h6 hB4 hB5 hB6 hz4 hz5 hz6 hsm e Hb Hs HP HSp HQ
  go_wp2_with fail
  go_ret
  refine ⟨⟨_, rfl, ?_⟩, ((((((HS.out.alloc _).alloc _).alloc _).alloc _).alloc _).alloc _)⟩
  have h9 := Blk.new (((w3.alloc (.cells #[] 3)).alloc (.cells #[Value.int .i64 p1, .int .i64 p2, .int .i64 p3] 3)).alloc (.cells #[Value.int .i64 p1] 3)) 3 #[Value.int .i64 s1, .int .i64 s2, .int .i64 s3]
  simp only [World.size_alloc] at h9
  exact (((rd_blk h9).alloc _).alloc _)
set_option maxRecDepth 100000 in
set_option maxHeartbeats 8000000 in
theorem nums_4 (qk p1 p2 p3 s1 s2 s3 a b c d e1 f g x y : Int) (w : World) :
    Calls Tryz.prog 26 #[.agg #[Value.int .i64 1, .int .i64 4, .int .i64 p1, .int .i64 p2, .int .i64 p3, .int .i64 s1, .int .i64 s2, .int .i64 s3, .int .i64 qk, .int .i64 a, .int .i64 b, .int .i64 c, .int .i64 d, .int .i64 e1, .int .i64 f, .int .i64 g, .int .i64 x, .int .i64 y]] w (NumEnd [s1] w) := by
  have Hb := hide (Blk.new w 35 #[Value.int .i64 1, .int .i64 4, .int .i64 p1, .int .i64 p2, .int .i64 p3, .int .i64 s1, .int .i64 s2, .int .i64 s3, .int .i64 qk, .int .i64 a, .int .i64 b, .int .i64 c, .int .i64 d, .int .i64 e1, .int .i64 f, .int .i64 g, .int .i64 x, .int .i64 y])
  have Hs := hide ((Chg.refl (fun _ => False) w).alloc (.cells #[Value.int .i64 1, .int .i64 4, .int .i64 p1, .int .i64 p2, .int .i64 p3, .int .i64 s1, .int .i64 s2, .int .i64 s3, .int .i64 qk, .int .i64 a, .int .i64 b, .int .i64 c, .int .i64 d, .int .i64 e1, .int .i64 f, .int .i64 g, .int .i64 x, .int .i64 y] 35))
  have HP := hide (RowL.lit rfl rfl : RowL [Value.int .i64 p1, .int .i64 p2, .int .i64 p3] 3)
  have HSp := hide (RowL.lit rfl rfl : RowL [Value.int .i64 s1, .int .i64 s2, .int .i64 s3] 3)
  have HQ := hide (RowL.lit rfl rfl : RowL [Value.int .i64 qk, .int .i64 a, .int .i64 b, .int .i64 c, .int .i64 d, .int .i64 e1, .int .i64 f, .int .i64 g, .int .i64 x, .int .i64 y] 10)
  go_enter Tryz.func26, Tryz.ntmps26
  go_wp2_with fail
  generalize w.alloc (.cells #[Value.int .i64 1, .int .i64 4, .int .i64 p1, .int .i64 p2, .int .i64 p3, .int .i64 s1, .int .i64 s2, .int .i64 s3, .int .i64 qk, .int .i64 a, .int .i64 b, .int .i64 c, .int .i64 d, .int .i64 e1, .int .i64 f, .int .i64 g, .int .i64 x, .int .i64 y] 35) = w0 at *
  refine wp_region_mixT (fun k => if k = 11 then some 23 else if k = 12 then some 25 else if k = 13 then some 33 else none) 14 (by kernel_rfl) (by kernel_rfl) fun Fin hFin => ?_
  simp only [List.take_succ_cons, List.take_zero]
  iterate 2 (
      (refine mix_lit ?_ ?_ (fun w => RkT.of_same (Chg.refl _ w)) ?_ ?_ ?_ ?_
       rotate_left; rotate_left
       · intro e w1 hR hF K hK; (skip); go_simp; (refine hK _ _ (RkT.of_same (Chg.refl _ _)) ?_; rfl)
       · intro e; simp only [Act.put, List.setIfInBounds_toArray, List.set_cons_zero, List.set_cons_succ]; rfl
       · exact Loc.const _ _))
  refine mix_ld [Value.int .i64 p1, .int .i64 p2, .int .i64 p3] ?_ (fun w => RkT.of_same (Chg.refl _ w)) (fun _ => by rfl) 23 _ rfl w.heap.size 2 (fun _ => by rfl) _ (fun w1 hR => rangeAt_blk [Value.int .i64 1, .int .i64 4] [Value.int .i64 p1, .int .i64 p2, .int .i64 p3] [Value.int .i64 s1, .int .i64 s2, .int .i64 s3, .int .i64 qk, .int .i64 a, .int .i64 b, .int .i64 c, .int .i64 d, .int .i64 e1, .int .i64 f, .int .i64 g, .int .i64 x, .int .i64 y] (Hb.out.same (RT.same hR))) Tryz.underlying23 rfl (by kernel_rfl) ?_ ?_
  rotate_left
  · intro e; simp only [Act.put, List.setIfInBounds_toArray, List.set_cons_zero, List.set_cons_succ]; rfl
  iterate 2 (
      (refine mix_lit ?_ ?_ (fun w => RkT.of_same (Chg.refl _ w)) ?_ ?_ ?_ ?_
       rotate_left; rotate_left
       · intro e w1 hR hF K hK; (skip); go_simp; (refine hK _ _ (RkT.of_same (Chg.refl _ _)) ?_; rfl)
       · intro e; simp only [Act.put, List.setIfInBounds_toArray, List.set_cons_zero, List.set_cons_succ]; rfl
       · exact Loc.const _ _))
  refine mix_ld [Value.int .i64 s1, .int .i64 s2, .int .i64 s3] ?_ (fun w => RkT.of_same (Chg.refl _ w)) (fun _ => by rfl) 25 _ rfl w.heap.size 5 (fun _ => by rfl) _ (fun w1 hR => rangeAt_blk [Value.int .i64 1, .int .i64 4, .int .i64 p1, .int .i64 p2, .int .i64 p3] [Value.int .i64 s1, .int .i64 s2, .int .i64 s3] [Value.int .i64 qk, .int .i64 a, .int .i64 b, .int .i64 c, .int .i64 d, .int .i64 e1, .int .i64 f, .int .i64 g, .int .i64 x, .int .i64 y] (Hb.out.same (RT.same hR))) Tryz.underlying25 rfl (by kernel_rfl) ?_ ?_
  rotate_left
  · intro e; simp only [Act.put, List.setIfInBounds_toArray, List.set_cons_zero, List.set_cons_succ]; rfl
  iterate 1 (
      (refine mix_lit ?_ ?_ (fun w => RkT.of_same (Chg.refl _ w)) ?_ ?_ ?_ ?_
       rotate_left; rotate_left
       · intro e w1 hR hF K hK; (skip); go_simp; (refine hK _ _ (RkT.of_same (Chg.refl _ _)) ?_; rfl)
       · intro e; simp only [Act.put, List.setIfInBounds_toArray, List.set_cons_zero, List.set_cons_succ]; rfl
       · exact Loc.const _ _))
  refine mix_ld [Value.int .i64 qk, .int .i64 a, .int .i64 b, .int .i64 c, .int .i64 d, .int .i64 e1, .int .i64 f, .int .i64 g, .int .i64 x, .int .i64 y] ?_ (fun w => RkT.of_same (Chg.refl _ w)) (fun _ => by rfl) 33 _ rfl w.heap.size 8 (fun _ => by rfl) _ (fun w1 hR => rangeAt_blk [Value.int .i64 1, .int .i64 4, .int .i64 p1, .int .i64 p2, .int .i64 p3, .int .i64 s1, .int .i64 s2, .int .i64 s3] [Value.int .i64 qk, .int .i64 a, .int .i64 b, .int .i64 c, .int .i64 d, .int .i64 e1, .int .i64 f, .int .i64 g, .int .i64 x, .int .i64 y] [] (Hb.out.same (RT.same hR))) Tryz.underlying33 rfl (by kernel_rfl) ?_ ?_
  rotate_left
  · intro e; simp only [Act.put, List.setIfInBounds_toArray, List.set_cons_zero, List.set_cons_succ]; rfl
  refine mix_let (fun _ v w9 => NewB w0 23 3 v w9) ?_ (by exact Loc.const _ _) (fun i _ _ e u w w' hr h => h.keep hr.keep) ?_ ?_ ?_ ?_
  rotate_left
  · intro e; rfl
  · intro e w9 hR hF K hK; go_simp; exact hK _ _ _ (RkT.of_same ((Chg.refl _ _).alloc _)) ⟨_, rfl, Chg.size hR, _, rfl, Blk.new _ _ _⟩ (by simp only [Act.put, List.setIfInBounds_toArray, List.set_cons_zero, List.set_cons_succ])
  · intro e; simp only [Act.put, List.setIfInBounds_toArray, List.set_cons_zero, List.set_cons_succ]; rfl
  refine mix_let (fun _ v w9 => NewB w0 25 3 v w9) ?_ (by exact Loc.const _ _) (fun i _ _ e u w w' hr h => h.keep hr.keep) ?_ ?_ ?_ ?_
  rotate_left
  · intro e; rfl
  · intro e w9 hR hF K hK; go_simp; exact hK _ _ _ (RkT.of_same ((Chg.refl _ _).alloc _)) ⟨_, rfl, Chg.size hR, _, rfl, Blk.new _ _ _⟩ (by simp only [Act.put, List.setIfInBounds_toArray, List.set_cons_zero, List.set_cons_succ])
  · intro e; simp only [Act.put, List.setIfInBounds_toArray, List.set_cons_zero, List.set_cons_succ]; rfl
  refine mix_let (fun _ v w9 => NewB w0 33 10 v w9) ?_ (by exact Loc.const _ _) (fun i _ _ e u w w' hr h => h.keep hr.keep) ?_ ?_ ?_ ?_
  rotate_left
  · intro e; rfl
  · intro e w9 hR hF K hK; go_simp; exact hK _ _ _ (RkT.of_same ((Chg.refl _ _).alloc _)) ⟨_, rfl, Chg.size hR, _, rfl, Blk.new _ _ _⟩ (by simp only [Act.put, List.setIfInBounds_toArray, List.set_cons_zero, List.set_cons_succ])
  · intro e; simp only [Act.put, List.setIfInBounds_toArray, List.set_cons_zero, List.set_cons_succ]; rfl
  refine mt_st 8 23 3 [Value.int .i64 p1, .int .i64 p2, .int .i64 p3] ?_ (by rfl) rowPt.sz HP.out.len HP.out.one (fun _ => by rfl) (fun _ => by rfl) (fun _ => by rfl) (by kernel_rfl) (fun e w h => h) (by rfl) (by intro i hi h; (repeat' split at h) <;> first | omega | (cases h; done) | exact absurd h (by decide)) ?_ ?_
  rotate_left
  · intro e; rfl
  refine mt_st 9 25 3 [Value.int .i64 s1, .int .i64 s2, .int .i64 s3] ?_ (by rfl) rowSp.sz HSp.out.len HSp.out.one (fun _ => by rfl) (fun _ => by rfl) (fun _ => by rfl) (by kernel_rfl) (fun e w h => h) (by rfl) (by intro i hi h; (repeat' split at h) <;> first | omega | (cases h; done) | exact absurd h (by decide)) ?_ ?_
  rotate_left
  · intro e; rfl
  refine mt_st 10 33 10 [Value.int .i64 qk, .int .i64 a, .int .i64 b, .int .i64 c, .int .i64 d, .int .i64 e1, .int .i64 f, .int .i64 g, .int .i64 x, .int .i64 y] ?_ (by rfl) rowQry.sz HQ.out.len HQ.out.one (fun _ => by rfl) (fun _ => by rfl) (fun _ => by rfl) (by kernel_rfl) (fun e w h => h) (by rfl) (by intro i hi h; (repeat' split at h) <;> first | omega | (cases h; done) | exact absurd h (by decide)) ?_ ?_
  rotate_left
  · intro e; rfl
  refine mix_nil fun e w3 hR hF => hFin _ _ ?_
  simp only [List.drop_succ_cons, List.drop_zero]
  obtain ⟨b4, h4, hz4, hB4⟩ := (show PutB w0 23 [Value.int .i64 p1, .int .i64 p2, .int .i64 p3] (e 8) w3 from hF 11 (by decide))
  obtain ⟨b5, h5, hz5, hB5⟩ := (show PutB w0 25 [Value.int .i64 s1, .int .i64 s2, .int .i64 s3] (e 9) w3 from hF 12 (by decide))
  obtain ⟨b6, h6, hz6, hB6⟩ := (show PutB w0 33 [Value.int .i64 qk, .int .i64 a, .int .i64 b, .int .i64 c, .int .i64 d, .int .i64 e1, .int .i64 f, .int .i64 g, .int .i64 x, .int .i64 y] (e 10) w3 from hF 13 (by decide))
  rw [h4, h5, h6]
  have hsm := RT.same hR
  have HB := hide (Hb.out.same hsm)
  have H4 := hide hB4
  have H5 := hide hB5
  have H6 := hide hB6
  have HS := hide (Same.trans Hs.out hsm)
  have hlb := HB.out.lt
  have hl4 := hB4.lt
  have hl5 := hB5.lt
  have hl6 := hB6.lt
  have hx41 : b4 < w3.heap.size + 1 := by omega
  have hx42 : b4 < w3.heap.size + 1 + 1 := by omega
  have hx43 : b4 < w3.heap.size + 1 + 1 + 1 := by omega
  have hx44 : b4 < w3.heap.size + 1 + 1 + 1 + 1 := by omega
  have hx45 : b4 < w3.heap.size + 1 + 1 + 1 + 1 + 1 := by omega
  have hx46 : b4 < w3.heap.size + 1 + 1 + 1 + 1 + 1 + 1 := by omega
  have hx51 : b5 < w3.heap.size + 1 := by omega
  have hx52 : b5 < w3.heap.size + 1 + 1 := by omega
  have hx53 : b5 < w3.heap.size + 1 + 1 + 1 := by omega
  have hx54 : b5 < w3.heap.size + 1 + 1 + 1 + 1 := by omega
  have hx55 : b5 < w3.heap.size + 1 + 1 + 1 + 1 + 1 := by omega
  have hx56 : b5 < w3.heap.size + 1 + 1 + 1 + 1 + 1 + 1 := by omega
  have hxb1 : w.heap.size < w3.heap.size + 1 := by omega
  have hxb2 : w.heap.size < w3.heap.size + 1 + 1 := by omega
  have hxb3 : w.heap.size < w3.heap.size + 1 + 1 + 1 := by omega
  have hxb4 : w.heap.size < w3.heap.size + 1 + 1 + 1 + 1 := by omega
  have hxb5 : w.heap.size < w3.heap.size + 1 + 1 + 1 + 1 + 1 := by omega
  have hxb6 : w.heap.size < w3.heap.size + 1 + 1 + 1 + 1 + 1 + 1 := by omega
  have kb0 : w3.cell? ⟨w.heap.size, 0, none⟩ = some (Value.int .i64 1) := HB.out.cell 0
  have kb1 : w3.cell? ⟨w.heap.size, 1, none⟩ = some (Value.int .i64 4) := HB.out.cell 1
  have k40 : w3.cell? ⟨b4, 0, none⟩ = some (Value.int .i64 p1) := H4.out.cell 0
  have k41 : w3.cell? ⟨b4, 1, none⟩ = some (Value.int .i64 p2) := H4.out.cell 1
  have k42 : w3.cell? ⟨b4, 2, none⟩ = some (Value.int .i64 p3) := H4.out.cell 2
  have k50 : w3.cell? ⟨b5, 0, none⟩ = some (Value.int .i64 s1) := H5.out.cell 0
  have k51 : w3.cell? ⟨b5, 1, none⟩ = some (Value.int .i64 s2) := H5.out.cell 1
  have k52 : w3.cell? ⟨b5, 2, none⟩ = some (Value.int .i64 s3) := H5.out.cell 2
  clear hR hF hFin h4 h5 h6 hB4 hB5 hB6 hz4 hz5 hz6 hsm e Hb Hs HP HSp HQ
  go_wp2_with fail
  go_ret
  refine ⟨⟨_, rfl, ?_⟩, ((((((HS.out.alloc _).alloc _).alloc _).alloc _).alloc _).alloc _)⟩
  have h9 := Blk.new ((((w3.alloc (.cells #[] 3)).alloc (.cells #[Value.int .i64 p1, .int .i64 p2, .int .i64 p3] 3)).alloc (.cells #[Value.int .i64 p1] 3)).alloc (.cells #[Value.int .i64 s1, .int .i64 s2, .int .i64 s3] 3)) 3 #[Value.int .i64 s1]
  simp only [World.size_alloc] at h9
  exact ((rd_blk h9).alloc _)
set_option maxRecDepth 100000 in
set_option maxHeartbeats 8000000 in
theorem nums_11 (ck p1 p2 p3 s1 s2 s3 a b c d e1 f g x y : Int) (w : World) :
    Calls Tryz.prog 26 #[.agg #[Value.int .i64 2, .int .i64 ck, .int .i64 p1, .int .i64 p2, .int .i64 p3, .int .i64 s1, .int .i64 s2, .int .i64 s3, .int .i64 1, .int .i64 a, .int .i64 b, .int .i64 c, .int .i64 d, .int .i64 e1, .int .i64 f, .int .i64 g, .int .i64 x, .int .i64 y]] w (NumEnd [a, b, c, d] w) := by
  have Hb := hide (Blk.new w 35 #[Value.int .i64 2, .int .i64 ck, .int .i64 p1, .int .i64 p2, .int .i64 p3, .int .i64 s1, .int .i64 s2, .int .i64 s3, .int .i64 1, .int .i64 a, .int .i64 b, .int .i64 c, .int .i64 d, .int .i64 e1, .int .i64 f, .int .i64 g, .int .i64 x, .int .i64 y])
  have Hs := hide ((Chg.refl (fun _ => False) w).alloc (.cells #[Value.int .i64 2, .int .i64 ck, .int .i64 p1, .int .i64 p2, .int .i64 p3, .int .i64 s1, .int .i64 s2, .int .i64 s3, .int .i64 1, .int .i64 a, .int .i64 b, .int .i64 c, .int .i64 d, .int .i64 e1, .int .i64 f, .int .i64 g, .int .i64 x, .int .i64 y] 35))
  have HP := hide (RowL.lit rfl rfl : RowL [Value.int .i64 p1, .int .i64 p2, .int .i64 p3] 3)
  have HSp := hide (RowL.lit rfl rfl : RowL [Value.int .i64 s1, .int .i64 s2, .int .i64 s3] 3)
  have HQ := hide (RowL.lit rfl rfl : RowL [Value.int .i64 1, .int .i64 a, .int .i64 b, .int .i64 c, .int .i64 d, .int .i64 e1, .int .i64 f, .int .i64 g, .int .i64 x, .int .i64 y] 10)
  go_enter Tryz.func26, Tryz.ntmps26
  go_wp2_with fail
  generalize w.alloc (.cells #[Value.int .i64 2, .int .i64 ck, .int .i64 p1, .int .i64 p2, .int .i64 p3, .int .i64 s1, .int .i64 s2, .int .i64 s3, .int .i64 1, .int .i64 a, .int .i64 b, .int .i64 c, .int .i64 d, .int .i64 e1, .int .i64 f, .int .i64 g, .int .i64 x, .int .i64 y] 35) = w0 at *
  refine wp_region_mixT (fun k => if k = 11 then some 23 else if k = 12 then some 25 else if k = 13 then some 33 else none) 14 (by kernel_rfl) (by kernel_rfl) fun Fin hFin => ?_
  simp only [List.take_succ_cons, List.take_zero]
  iterate 2 (
      (refine mix_lit ?_ ?_ (fun w => RkT.of_same (Chg.refl _ w)) ?_ ?_ ?_ ?_
       rotate_left; rotate_left
       · intro e w1 hR hF K hK; (skip); go_simp; (refine hK _ _ (RkT.of_same (Chg.refl _ _)) ?_; rfl)
       · intro e; simp only [Act.put, List.setIfInBounds_toArray, List.set_cons_zero, List.set_cons_succ]; rfl
       · exact Loc.const _ _))
  refine mix_ld [Value.int .i64 p1, .int .i64 p2, .int .i64 p3] ?_ (fun w => RkT.of_same (Chg.refl _ w)) (fun _ => by rfl) 23 _ rfl w.heap.size 2 (fun _ => by rfl) _ (fun w1 hR => rangeAt_blk [Value.int .i64 2, .int .i64 ck] [Value.int .i64 p1, .int .i64 p2, .int .i64 p3] [Value.int .i64 s1, .int .i64 s2, .int .i64 s3, .int .i64 1, .int .i64 a, .int .i64 b, .int .i64 c, .int .i64 d, .int .i64 e1, .int .i64 f, .int .i64 g, .int .i64 x, .int .i64 y] (Hb.out.same (RT.same hR))) Tryz.underlying23 rfl (by kernel_rfl) ?_ ?_
  rotate_left
  · intro e; simp only [Act.put, List.setIfInBounds_toArray, List.set_cons_zero, List.set_cons_succ]; rfl
  iterate 2 (
      (refine mix_lit ?_ ?_ (fun w => RkT.of_same (Chg.refl _ w)) ?_ ?_ ?_ ?_
       rotate_left; rotate_left
       · intro e w1 hR hF K hK; (skip); go_simp; (refine hK _ _ (RkT.of_same (Chg.refl _ _)) ?_; rfl)
       · intro e; simp only [Act.put, List.setIfInBounds_toArray, List.set_cons_zero, List.set_cons_succ]; rfl
       · exact Loc.const _ _))
  refine mix_ld [Value.int .i64 s1, .int .i64 s2, .int .i64 s3] ?_ (fun w => RkT.of_same (Chg.refl _ w)) (fun _ => by rfl) 25 _ rfl w.heap.size 5 (fun _ => by rfl) _ (fun w1 hR => rangeAt_blk [Value.int .i64 2, .int .i64 ck, .int .i64 p1, .int .i64 p2, .int .i64 p3] [Value.int .i64 s1, .int .i64 s2, .int .i64 s3] [Value.int .i64 1, .int .i64 a, .int .i64 b, .int .i64 c, .int .i64 d, .int .i64 e1, .int .i64 f, .int .i64 g, .int .i64 x, .int .i64 y] (Hb.out.same (RT.same hR))) Tryz.underlying25 rfl (by kernel_rfl) ?_ ?_
  rotate_left
  · intro e; simp only [Act.put, List.setIfInBounds_toArray, List.set_cons_zero, List.set_cons_succ]; rfl
  iterate 1 (
      (refine mix_lit ?_ ?_ (fun w => RkT.of_same (Chg.refl _ w)) ?_ ?_ ?_ ?_
       rotate_left; rotate_left
       · intro e w1 hR hF K hK; (skip); go_simp; (refine hK _ _ (RkT.of_same (Chg.refl _ _)) ?_; rfl)
       · intro e; simp only [Act.put, List.setIfInBounds_toArray, List.set_cons_zero, List.set_cons_succ]; rfl
       · exact Loc.const _ _))
  refine mix_ld [Value.int .i64 1, .int .i64 a, .int .i64 b, .int .i64 c, .int .i64 d, .int .i64 e1, .int .i64 f, .int .i64 g, .int .i64 x, .int .i64 y] ?_ (fun w => RkT.of_same (Chg.refl _ w)) (fun _ => by rfl) 33 _ rfl w.heap.size 8 (fun _ => by rfl) _ (fun w1 hR => rangeAt_blk [Value.int .i64 2, .int .i64 ck, .int .i64 p1, .int .i64 p2, .int .i64 p3, .int .i64 s1, .int .i64 s2, .int .i64 s3] [Value.int .i64 1, .int .i64 a, .int .i64 b, .int .i64 c, .int .i64 d, .int .i64 e1, .int .i64 f, .int .i64 g, .int .i64 x, .int .i64 y] [] (Hb.out.same (RT.same hR))) Tryz.underlying33 rfl (by kernel_rfl) ?_ ?_
  rotate_left
  · intro e; simp only [Act.put, List.setIfInBounds_toArray, List.set_cons_zero, List.set_cons_succ]; rfl
  refine mix_let (fun _ v w9 => NewB w0 23 3 v w9) ?_ (by exact Loc.const _ _) (fun i _ _ e u w w' hr h => h.keep hr.keep) ?_ ?_ ?_ ?_
  rotate_left
  · intro e; rfl
  · intro e w9 hR hF K hK; go_simp; exact hK _ _ _ (RkT.of_same ((Chg.refl _ _).alloc _)) ⟨_, rfl, Chg.size hR, _, rfl, Blk.new _ _ _⟩ (by simp only [Act.put, List.setIfInBounds_toArray, List.set_cons_zero, List.set_cons_succ])
  · intro e; simp only [Act.put, List.setIfInBounds_toArray, List.set_cons_zero, List.set_cons_succ]; rfl
  refine mix_let (fun _ v w9 => NewB w0 25 3 v w9) ?_ (by exact Loc.const _ _) (fun i _ _ e u w w' hr h => h.keep hr.keep) ?_ ?_ ?_ ?_
  rotate_left
  · intro e; rfl
  · intro e w9 hR hF K hK; go_simp; exact hK _ _ _ (RkT.of_same ((Chg.refl _ _).alloc _)) ⟨_, rfl, Chg.size hR, _, rfl, Blk.new _ _ _⟩ (by simp only [Act.put, List.setIfInBounds_toArray, List.set_cons_zero, List.set_cons_succ])
  · intro e; simp only [Act.put, List.setIfInBounds_toArray, List.set_cons_zero, List.set_cons_succ]; rfl
  refine mix_let (fun _ v w9 => NewB w0 33 10 v w9) ?_ (by exact Loc.const _ _) (fun i _ _ e u w w' hr h => h.keep hr.keep) ?_ ?_ ?_ ?_
  rotate_left
  · intro e; rfl
  · intro e w9 hR hF K hK; go_simp; exact hK _ _ _ (RkT.of_same ((Chg.refl _ _).alloc _)) ⟨_, rfl, Chg.size hR, _, rfl, Blk.new _ _ _⟩ (by simp only [Act.put, List.setIfInBounds_toArray, List.set_cons_zero, List.set_cons_succ])
  · intro e; simp only [Act.put, List.setIfInBounds_toArray, List.set_cons_zero, List.set_cons_succ]; rfl
  refine mt_st 8 23 3 [Value.int .i64 p1, .int .i64 p2, .int .i64 p3] ?_ (by rfl) rowPt.sz HP.out.len HP.out.one (fun _ => by rfl) (fun _ => by rfl) (fun _ => by rfl) (by kernel_rfl) (fun e w h => h) (by rfl) (by intro i hi h; (repeat' split at h) <;> first | omega | (cases h; done) | exact absurd h (by decide)) ?_ ?_
  rotate_left
  · intro e; rfl
  refine mt_st 9 25 3 [Value.int .i64 s1, .int .i64 s2, .int .i64 s3] ?_ (by rfl) rowSp.sz HSp.out.len HSp.out.one (fun _ => by rfl) (fun _ => by rfl) (fun _ => by rfl) (by kernel_rfl) (fun e w h => h) (by rfl) (by intro i hi h; (repeat' split at h) <;> first | omega | (cases h; done) | exact absurd h (by decide)) ?_ ?_
  rotate_left
  · intro e; rfl
  refine mt_st 10 33 10 [Value.int .i64 1, .int .i64 a, .int .i64 b, .int .i64 c, .int .i64 d, .int .i64 e1, .int .i64 f, .int .i64 g, .int .i64 x, .int .i64 y] ?_ (by rfl) rowQry.sz HQ.out.len HQ.out.one (fun _ => by rfl) (fun _ => by rfl) (fun _ => by rfl) (by kernel_rfl) (fun e w h => h) (by rfl) (by intro i hi h; (repeat' split at h) <;> first | omega | (cases h; done) | exact absurd h (by decide)) ?_ ?_
  rotate_left
  · intro e; rfl
  refine mix_nil fun e w3 hR hF => hFin _ _ ?_
  simp only [List.drop_succ_cons, List.drop_zero]
  obtain ⟨b4, h4, hz4, hB4⟩ := (show PutB w0 23 [Value.int .i64 p1, .int .i64 p2, .int .i64 p3] (e 8) w3 from hF 11 (by decide))
  obtain ⟨b5, h5, hz5, hB5⟩ := (show PutB w0 25 [Value.int .i64 s1, .int .i64 s2, .int .i64 s3] (e 9) w3 from hF 12 (by decide))
  obtain ⟨b6, h6, hz6, hB6⟩ := (show PutB w0 33 [Value.int .i64 1, .int .i64 a, .int .i64 b, .int .i64 c, .int .i64 d, .int .i64 e1, .int .i64 f, .int .i64 g, .int .i64 x, .int .i64 y] (e 10) w3 from hF 13 (by decide))
  rw [h4, h5, h6]
  have hsm := RT.same hR
  have HB := hide (Hb.out.same hsm)
  have H4 := hide hB4
  have H5 := hide hB5
  have H6 := hide hB6
  have HS := hide (Same.trans Hs.out hsm)
  have hlb := HB.out.lt
  have hl4 := hB4.lt
  have hl5 := hB5.lt
  have hl6 := hB6.lt
  have kb0 : w3.cell? ⟨w.heap.size, 0, none⟩ = some (Value.int .i64 2) := HB.out.cell 0
  have k60 : w3.cell? ⟨b6, 0, none⟩ = some (Value.int .i64 1) := H6.out.cell 0
  have k61 : w3.cell? ⟨b6, 1, none⟩ = some (Value.int .i64 a) := H6.out.cell 1
  have k62 : w3.cell? ⟨b6, 2, none⟩ = some (Value.int .i64 b) := H6.out.cell 2
  have k63 : w3.cell? ⟨b6, 3, none⟩ = some (Value.int .i64 c) := H6.out.cell 3
  have k64 : w3.cell? ⟨b6, 4, none⟩ = some (Value.int .i64 d) := H6.out.cell 4
  clear hR hF hFin h4 h5 h6 hB4 hB5 hB6 hz4 hz5 hz6 hsm e Hb Hs HP HSp HQ
  go_wp2_with fail
  go_ret
  exact ⟨⟨_, rfl, rd_blk (Blk.new w3 3 #[Value.int .i64 a, .int .i64 b, .int .i64 c, .int .i64 d])⟩, HS.out.alloc _⟩
set_option maxRecDepth 100000 in
set_option maxHeartbeats 8000000 in
theorem nums_12 (ck p1 p2 p3 s1 s2 s3 a b c d e1 f g x y : Int) (w : World) :
    Calls Tryz.prog 26 #[.agg #[Value.int .i64 2, .int .i64 ck, .int .i64 p1, .int .i64 p2, .int .i64 p3, .int .i64 s1, .int .i64 s2, .int .i64 s3, .int .i64 2, .int .i64 a, .int .i64 b, .int .i64 c, .int .i64 d, .int .i64 e1, .int .i64 f, .int .i64 g, .int .i64 x, .int .i64 y]] w (NumEnd [a, b, c, d] w) := by
  have Hb := hide (Blk.new w 35 #[Value.int .i64 2, .int .i64 ck, .int .i64 p1, .int .i64 p2, .int .i64 p3, .int .i64 s1, .int .i64 s2, .int .i64 s3, .int .i64 2, .int .i64 a, .int .i64 b, .int .i64 c, .int .i64 d, .int .i64 e1, .int .i64 f, .int .i64 g, .int .i64 x, .int .i64 y])
  have Hs := hide ((Chg.refl (fun _ => False) w).alloc (.cells #[Value.int .i64 2, .int .i64 ck, .int .i64 p1, .int .i64 p2, .int .i64 p3, .int .i64 s1, .int .i64 s2, .int .i64 s3, .int .i64 2, .int .i64 a, .int .i64 b, .int .i64 c, .int .i64 d, .int .i64 e1, .int .i64 f, .int .i64 g, .int .i64 x, .int .i64 y] 35))
  have HP := hide (RowL.lit rfl rfl : RowL [Value.int .i64 p1, .int .i64 p2, .int .i64 p3] 3)
  have HSp := hide (RowL.lit rfl rfl : RowL [Value.int .i64 s1, .int .i64 s2, .int .i64 s3] 3)
  have HQ := hide (RowL.lit rfl rfl : RowL [Value.int .i64 2, .int .i64 a, .int .i64 b, .int .i64 c, .int .i64 d, .int .i64 e1, .int .i64 f, .int .i64 g, .int .i64 x, .int .i64 y] 10)
  go_enter Tryz.func26, Tryz.ntmps26
  go_wp2_with fail
  generalize w.alloc (.cells #[Value.int .i64 2, .int .i64 ck, .int .i64 p1, .int .i64 p2, .int .i64 p3, .int .i64 s1, .int .i64 s2, .int .i64 s3, .int .i64 2, .int .i64 a, .int .i64 b, .int .i64 c, .int .i64 d, .int .i64 e1, .int .i64 f, .int .i64 g, .int .i64 x, .int .i64 y] 35) = w0 at *
  refine wp_region_mixT (fun k => if k = 11 then some 23 else if k = 12 then some 25 else if k = 13 then some 33 else none) 14 (by kernel_rfl) (by kernel_rfl) fun Fin hFin => ?_
  simp only [List.take_succ_cons, List.take_zero]
  iterate 2 (
      (refine mix_lit ?_ ?_ (fun w => RkT.of_same (Chg.refl _ w)) ?_ ?_ ?_ ?_
       rotate_left; rotate_left
       · intro e w1 hR hF K hK; (skip); go_simp; (refine hK _ _ (RkT.of_same (Chg.refl _ _)) ?_; rfl)
       · intro e; simp only [Act.put, List.setIfInBounds_toArray, List.set_cons_zero, List.set_cons_succ]; rfl
       · exact Loc.const _ _))
  refine mix_ld [Value.int .i64 p1, .int .i64 p2, .int .i64 p3] ?_ (fun w => RkT.of_same (Chg.refl _ w)) (fun _ => by rfl) 23 _ rfl w.heap.size 2 (fun _ => by rfl) _ (fun w1 hR => rangeAt_blk [Value.int .i64 2, .int .i64 ck] [Value.int .i64 p1, .int .i64 p2, .int .i64 p3] [Value.int .i64 s1, .int .i64 s2, .int .i64 s3, .int .i64 2, .int .i64 a, .int .i64 b, .int .i64 c, .int .i64 d, .int .i64 e1, .int .i64 f, .int .i64 g, .int .i64 x, .int .i64 y] (Hb.out.same (RT.same hR))) Tryz.underlying23 rfl (by kernel_rfl) ?_ ?_
  rotate_left
  · intro e; simp only [Act.put, List.setIfInBounds_toArray, List.set_cons_zero, List.set_cons_succ]; rfl
  iterate 2 (
      (refine mix_lit ?_ ?_ (fun w => RkT.of_same (Chg.refl _ w)) ?_ ?_ ?_ ?_
       rotate_left; rotate_left
       · intro e w1 hR hF K hK; (skip); go_simp; (refine hK _ _ (RkT.of_same (Chg.refl _ _)) ?_; rfl)
       · intro e; simp only [Act.put, List.setIfInBounds_toArray, List.set_cons_zero, List.set_cons_succ]; rfl
       · exact Loc.const _ _))
  refine mix_ld [Value.int .i64 s1, .int .i64 s2, .int .i64 s3] ?_ (fun w => RkT.of_same (Chg.refl _ w)) (fun _ => by rfl) 25 _ rfl w.heap.size 5 (fun _ => by rfl) _ (fun w1 hR => rangeAt_blk [Value.int .i64 2, .int .i64 ck, .int .i64 p1, .int .i64 p2, .int .i64 p3] [Value.int .i64 s1, .int .i64 s2, .int .i64 s3] [Value.int .i64 2, .int .i64 a, .int .i64 b, .int .i64 c, .int .i64 d, .int .i64 e1, .int .i64 f, .int .i64 g, .int .i64 x, .int .i64 y] (Hb.out.same (RT.same hR))) Tryz.underlying25 rfl (by kernel_rfl) ?_ ?_
  rotate_left
  · intro e; simp only [Act.put, List.setIfInBounds_toArray, List.set_cons_zero, List.set_cons_succ]; rfl
  iterate 1 (
      (refine mix_lit ?_ ?_ (fun w => RkT.of_same (Chg.refl _ w)) ?_ ?_ ?_ ?_
       rotate_left; rotate_left
       · intro e w1 hR hF K hK; (skip); go_simp; (refine hK _ _ (RkT.of_same (Chg.refl _ _)) ?_; rfl)
       · intro e; simp only [Act.put, List.setIfInBounds_toArray, List.set_cons_zero, List.set_cons_succ]; rfl
       · exact Loc.const _ _))
  refine mix_ld [Value.int .i64 2, .int .i64 a, .int .i64 b, .int .i64 c, .int .i64 d, .int .i64 e1, .int .i64 f, .int .i64 g, .int .i64 x, .int .i64 y] ?_ (fun w => RkT.of_same (Chg.refl _ w)) (fun _ => by rfl) 33 _ rfl w.heap.size 8 (fun _ => by rfl) _ (fun w1 hR => rangeAt_blk [Value.int .i64 2, .int .i64 ck, .int .i64 p1, .int .i64 p2, .int .i64 p3, .int .i64 s1, .int .i64 s2, .int .i64 s3] [Value.int .i64 2, .int .i64 a, .int .i64 b, .int .i64 c, .int .i64 d, .int .i64 e1, .int .i64 f, .int .i64 g, .int .i64 x, .int .i64 y] [] (Hb.out.same (RT.same hR))) Tryz.underlying33 rfl (by kernel_rfl) ?_ ?_
  rotate_left
  · intro e; simp only [Act.put, List.setIfInBounds_toArray, List.set_cons_zero, List.set_cons_succ]; rfl
  refine mix_let (fun _ v w9 => NewB w0 23 3 v w9) ?_ (by exact Loc.const _ _) (fun i _ _ e u w w' hr h => h.keep hr.keep) ?_ ?_ ?_ ?_
  rotate_left
  · intro e; rfl
  · intro e w9 hR hF K hK; go_simp; exact hK _ _ _ (RkT.of_same ((Chg.refl _ _).alloc _)) ⟨_, rfl, Chg.size hR, _, rfl, Blk.new _ _ _⟩ (by simp only [Act.put, List.setIfInBounds_toArray, List.set_cons_zero, List.set_cons_succ])
  · intro e; simp only [Act.put, List.setIfInBounds_toArray, List.set_cons_zero, List.set_cons_succ]; rfl
  refine mix_let (fun _ v w9 => NewB w0 25 3 v w9) ?_ (by exact Loc.const _ _) (fun i _ _ e u w w' hr h => h.keep hr.keep) ?_ ?_ ?_ ?_
  rotate_left
  · intro e; rfl
  · intro e w9 hR hF K hK; go_simp; exact hK _ _ _ (RkT.of_same ((Chg.refl _ _).alloc _)) ⟨_, rfl, Chg.size hR, _, rfl, Blk.new _ _ _⟩ (by simp only [Act.put, List.setIfInBounds_toArray, List.set_cons_zero, List.set_cons_succ])
  · intro e; simp only [Act.put, List.setIfInBounds_toArray, List.set_cons_zero, List.set_cons_succ]; rfl
  refine mix_let (fun _ v w9 => NewB w0 33 10 v w9) ?_ (by exact Loc.const _ _) (fun i _ _ e u w w' hr h => h.keep hr.keep) ?_ ?_ ?_ ?_
  rotate_left
  · intro e; rfl
  · intro e w9 hR hF K hK; go_simp; exact hK _ _ _ (RkT.of_same ((Chg.refl _ _).alloc _)) ⟨_, rfl, Chg.size hR, _, rfl, Blk.new _ _ _⟩ (by simp only [Act.put, List.setIfInBounds_toArray, List.set_cons_zero, List.set_cons_succ])
  · intro e; simp only [Act.put, List.setIfInBounds_toArray, List.set_cons_zero, List.set_cons_succ]; rfl
  refine mt_st 8 23 3 [Value.int .i64 p1, .int .i64 p2, .int .i64 p3] ?_ (by rfl) rowPt.sz HP.out.len HP.out.one (fun _ => by rfl) (fun _ => by rfl) (fun _ => by rfl) (by kernel_rfl) (fun e w h => h) (by rfl) (by intro i hi h; (repeat' split at h) <;> first | omega | (cases h; done) | exact absurd h (by decide)) ?_ ?_
  rotate_left
  · intro e; rfl
  refine mt_st 9 25 3 [Value.int .i64 s1, .int .i64 s2, .int .i64 s3] ?_ (by rfl) rowSp.sz HSp.out.len HSp.out.one (fun _ => by rfl) (fun _ => by rfl) (fun _ => by rfl) (by kernel_rfl) (fun e w h => h) (by rfl) (by intro i hi h; (repeat' split at h) <;> first | omega | (cases h; done) | exact absurd h (by decide)) ?_ ?_
  rotate_left
  · intro e; rfl
  refine mt_st 10 33 10 [Value.int .i64 2, .int .i64 a, .int .i64 b, .int .i64 c, .int .i64 d, .int .i64 e1, .int .i64 f, .int .i64 g, .int .i64 x, .int .i64 y] ?_ (by rfl) rowQry.sz HQ.out.len HQ.out.one (fun _ => by rfl) (fun _ => by rfl) (fun _ => by rfl) (by kernel_rfl) (fun e w h => h) (by rfl) (by intro i hi h; (repeat' split at h) <;> first | omega | (cases h; done) | exact absurd h (by decide)) ?_ ?_
  rotate_left
  · intro e; rfl
  refine mix_nil fun e w3 hR hF => hFin _ _ ?_
  simp only [List.drop_succ_cons, List.drop_zero]
  obtain ⟨b4, h4, hz4, hB4⟩ := (show PutB w0 23 [Value.int .i64 p1, .int .i64 p2, .int .i64 p3] (e 8) w3 from hF 11 (by decide))
  obtain ⟨b5, h5, hz5, hB5⟩ := (show PutB w0 25 [Value.int .i64 s1, .int .i64 s2, .int .i64 s3] (e 9) w3 from hF 12 (by decide))
  obtain ⟨b6, h6, hz6, hB6⟩ := (show PutB w0 33 [Value.int .i64 2, .int .i64 a, .int .i64 b, .int .i64 c, .int .i64 d, .int .i64 e1, .int .i64 f, .int .i64 g, .int .i64 x, .int .i64 y] (e 10) w3 from hF 13 (by decide))
  rw [h4, h5, h6]
  have hsm := RT.same hR
  have HB := hide (Hb.out.same hsm)
  have H4 := hide hB4
  have H5 := hide hB5
  have H6 := hide hB6
  have HS := hide (Same.trans Hs.out hsm)
  have hlb := HB.out.lt
  have hl4 := hB4.lt
  have hl5 := hB5.lt
  have hl6 := hB6.lt
  have kb0 : w3.cell? ⟨w.heap.size, 0, none⟩ = some (Value.int .i64 2) := HB.out.cell 0
  have k60 : w3.cell? ⟨b6, 0, none⟩ = some (Value.int .i64 2) := H6.out.cell 0
  have k61 : w3.cell? ⟨b6, 1, none⟩ = some (Value.int .i64 a) := H6.out.cell 1
  have k62 : w3.cell? ⟨b6, 2, none⟩ = some (Value.int .i64 b) := H6.out.cell 2
  have k63 : w3.cell? ⟨b6, 3, none⟩ = some (Value.int .i64 c) := H6.out.cell 3
  have k64 : w3.cell? ⟨b6, 4, none⟩ = some (Value.int .i64 d) := H6.out.cell 4
  clear hR hF hFin h4 h5 h6 hB4 hB5 hB6 hz4 hz5 hz6 hsm e Hb Hs HP HSp HQ
  go_wp2_with fail
  go_ret
  exact ⟨⟨_, rfl, rd_blk (Blk.new w3 3 #[Value.int .i64 a, .int .i64 b, .int .i64 c, .int .i64 d])⟩, HS.out.alloc _⟩
set_option maxRecDepth 100000 in
set_option maxHeartbeats 8000000 in
theorem nums_13 (ck p1 p2 p3 s1 s2 s3 a b c d e1 f g x y : Int) (w : World) :
    Calls Tryz.prog 26 #[.agg #[Value.int .i64 2, .int .i64 ck, .int .i64 p1, .int .i64 p2, .int .i64 p3, .int .i64 s1, .int .i64 s2, .int .i64 s3, .int .i64 3, .int .i64 a, .int .i64 b, .int .i64 c, .int .i64 d, .int .i64 e1, .int .i64 f, .int .i64 g, .int .i64 x, .int .i64 y]] w (NumEnd [e1, f, g] w) := by
  have Hb := hide (Blk.new w 35 #[Value.int .i64 2, .int .i64 ck, .int .i64 p1, .int .i64 p2, .int .i64 p3, .int .i64 s1, .int .i64 s2, .int .i64 s3, .int .i64 3, .int .i64 a, .int .i64 b, .int .i64 c, .int .i64 d, .int .i64 e1, .int .i64 f, .int .i64 g, .int .i64 x, .int .i64 y])
  have Hs := hide ((Chg.refl (fun _ => False) w).alloc (.cells #[Value.int .i64 2, .int .i64 ck, .int .i64 p1, .int .i64 p2, .int .i64 p3, .int .i64 s1, .int .i64 s2, .int .i64 s3, .int .i64 3, .int .i64 a, .int .i64 b, .int .i64 c, .int .i64 d, .int .i64 e1, .int .i64 f, .int .i64 g, .int .i64 x, .int .i64 y] 35))
  have HP := hide (RowL.lit rfl rfl : RowL [Value.int .i64 p1, .int .i64 p2, .int .i64 p3] 3)
  have HSp := hide (RowL.lit rfl rfl : RowL [Value.int .i64 s1, .int .i64 s2, .int .i64 s3] 3)
  have HQ := hide (RowL.lit rfl rfl : RowL [Value.int .i64 3, .int .i64 a, .int .i64 b, .int .i64 c, .int .i64 d, .int .i64 e1, .int .i64 f, .int .i64 g, .int .i64 x, .int .i64 y] 10)
  go_enter Tryz.func26, Tryz.ntmps26
  go_wp2_with fail
  generalize w.alloc (.cells #[Value.int .i64 2, .int .i64 ck, .int .i64 p1, .int .i64 p2, .int .i64 p3, .int .i64 s1, .int .i64 s2, .int .i64 s3, .int .i64 3, .int .i64 a, .int .i64 b, .int .i64 c, .int .i64 d, .int .i64 e1, .int .i64 f, .int .i64 g, .int .i64 x, .int .i64 y] 35) = w0 at *
  refine wp_region_mixT (fun k => if k = 11 then some 23 else if k = 12 then some 25 else if k = 13 then some 33 else none) 14 (by kernel_rfl) (by kernel_rfl) fun Fin hFin => ?_
  simp only [List.take_succ_cons, List.take_zero]
  iterate 2 (
      (refine mix_lit ?_ ?_ (fun w => RkT.of_same (Chg.refl _ w)) ?_ ?_ ?_ ?_
       rotate_left; rotate_left
       · intro e w1 hR hF K hK; (skip); go_simp; (refine hK _ _ (RkT.of_same (Chg.refl _ _)) ?_; rfl)
       · intro e; simp only [Act.put, List.setIfInBounds_toArray, List.set_cons_zero, List.set_cons_succ]; rfl
       · exact Loc.const _ _))
  refine mix_ld [Value.int .i64 p1, .int .i64 p2, .int .i64 p3] ?_ (fun w => RkT.of_same (Chg.refl _ w)) (fun _ => by rfl) 23 _ rfl w.heap.size 2 (fun _ => by rfl) _ (fun w1 hR => rangeAt_blk [Value.int .i64 2, .int .i64 ck] [Value.int .i64 p1, .int .i64 p2, .int .i64 p3] [Value.int .i64 s1, .int .i64 s2, .int .i64 s3, .int .i64 3, .int .i64 a, .int .i64 b, .int .i64 c, .int .i64 d, .int .i64 e1, .int .i64 f, .int .i64 g, .int .i64 x, .int .i64 y] (Hb.out.same (RT.same hR))) Tryz.underlying23 rfl (by kernel_rfl) ?_ ?_
  rotate_left
  · intro e; simp only [Act.put, List.setIfInBounds_toArray, List.set_cons_zero, List.set_cons_succ]; rfl
  iterate 2 (
      (refine mix_lit ?_ ?_ (fun w => RkT.of_same (Chg.refl _ w)) ?_ ?_ ?_ ?_
       rotate_left; rotate_left
       · intro e w1 hR hF K hK; (skip); go_simp; (refine hK _ _ (RkT.of_same (Chg.refl _ _)) ?_; rfl)
       · intro e; simp only [Act.put, List.setIfInBounds_toArray, List.set_cons_zero, List.set_cons_succ]; rfl
       · exact Loc.const _ _))
  refine mix_ld [Value.int .i64 s1, .int .i64 s2, .int .i64 s3] ?_ (fun w => RkT.of_same (Chg.refl _ w)) (fun _ => by rfl) 25 _ rfl w.heap.size 5 (fun _ => by rfl) _ (fun w1 hR => rangeAt_blk [Value.int .i64 2, .int .i64 ck, .int .i64 p1, .int .i64 p2, .int .i64 p3] [Value.int .i64 s1, .int .i64 s2, .int .i64 s3] [Value.int .i64 3, .int .i64 a, .int .i64 b, .int .i64 c, .int .i64 d, .int .i64 e1, .int .i64 f, .int .i64 g, .int .i64 x, .int .i64 y] (Hb.out.same (RT.same hR))) Tryz.underlying25 rfl (by kernel_rfl) ?_ ?_
  rotate_left
  · intro e; simp only [Act.put, List.setIfInBounds_toArray, List.set_cons_zero, List.set_cons_succ]; rfl
  iterate 1 (
      (refine mix_lit ?_ ?_ (fun w => RkT.of_same (Chg.refl _ w)) ?_ ?_ ?_ ?_
       rotate_left; rotate_left
       · intro e w1 hR hF K hK; (skip); go_simp; (refine hK _ _ (RkT.of_same (Chg.refl _ _)) ?_; rfl)
       · intro e; simp only [Act.put, List.setIfInBounds_toArray, List.set_cons_zero, List.set_cons_succ]; rfl
       · exact Loc.const _ _))
  refine mix_ld [Value.int .i64 3, .int .i64 a, .int .i64 b, .int .i64 c, .int .i64 d, .int .i64 e1, .int .i64 f, .int .i64 g, .int .i64 x, .int .i64 y] ?_ (fun w => RkT.of_same (Chg.refl _ w)) (fun _ => by rfl) 33 _ rfl w.heap.size 8 (fun _ => by rfl) _ (fun w1 hR => rangeAt_blk [Value.int .i64 2, .int .i64 ck, .int .i64 p1, .int .i64 p2, .int .i64 p3, .int .i64 s1, .int .i64 s2, .int .i64 s3] [Value.int .i64 3, .int .i64 a, .int .i64 b, .int .i64 c, .int .i64 d, .int .i64 e1, .int .i64 f, .int .i64 g, .int .i64 x, .int .i64 y] [] (Hb.out.same (RT.same hR))) Tryz.underlying33 rfl (by kernel_rfl) ?_ ?_
  rotate_left
  · intro e; simp only [Act.put, List.setIfInBounds_toArray, List.set_cons_zero, List.set_cons_succ]; rfl
  refine mix_let (fun _ v w9 => NewB w0 23 3 v w9) ?_ (by exact Loc.const _ _) (fun i _ _ e u w w' hr h => h.keep hr.keep) ?_ ?_ ?_ ?_
  rotate_left
  · intro e; rfl
  · intro e w9 hR hF K hK; go_simp; exact hK _ _ _ (RkT.of_same ((Chg.refl _ _).alloc _)) ⟨_, rfl, Chg.size hR, _, rfl, Blk.new _ _ _⟩ (by simp only [Act.put, List.setIfInBounds_toArray, List.set_cons_zero, List.set_cons_succ])
  · intro e; simp only [Act.put, List.setIfInBounds_toArray, List.set_cons_zero, List.set_cons_succ]; rfl
  refine mix_let (fun _ v w9 => NewB w0 25 3 v w9) ?_ (by exact Loc.const _ _) (fun i _ _ e u w w' hr h => h.keep hr.keep) ?_ ?_ ?_ ?_
  rotate_left
  · intro e; rfl
  · intro e w9 hR hF K hK; go_simp; exact hK _ _ _ (RkT.of_same ((Chg.refl _ _).alloc _)) ⟨_, rfl, Chg.size hR, _, rfl, Blk.new _ _ _⟩ (by simp only [Act.put, List.setIfInBounds_toArray, List.set_cons_zero, List.set_cons_succ])
  · intro e; simp only [Act.put, List.setIfInBounds_toArray, List.set_cons_zero, List.set_cons_succ]; rfl
  refine mix_let (fun _ v w9 => NewB w0 33 10 v w9) ?_ (by exact Loc.const _ _) (fun i _ _ e u w w' hr h => h.keep hr.keep) ?_ ?_ ?_ ?_
  rotate_left
  · intro e; rfl
  · intro e w9 hR hF K hK; go_simp; exact hK _ _ _ (RkT.of_same ((Chg.refl _ _).alloc _)) ⟨_, rfl, Chg.size hR, _, rfl, Blk.new _ _ _⟩ (by simp only [Act.put, List.setIfInBounds_toArray, List.set_cons_zero, List.set_cons_succ])
  · intro e; simp only [Act.put, List.setIfInBounds_toArray, List.set_cons_zero, List.set_cons_succ]; rfl
  refine mt_st 8 23 3 [Value.int .i64 p1, .int .i64 p2, .int .i64 p3] ?_ (by rfl) rowPt.sz HP.out.len HP.out.one (fun _ => by rfl) (fun _ => by rfl) (fun _ => by rfl) (by kernel_rfl) (fun e w h => h) (by rfl) (by intro i hi h; (repeat' split at h) <;> first | omega | (cases h; done) | exact absurd h (by decide)) ?_ ?_
  rotate_left
  · intro e; rfl
  refine mt_st 9 25 3 [Value.int .i64 s1, .int .i64 s2, .int .i64 s3] ?_ (by rfl) rowSp.sz HSp.out.len HSp.out.one (fun _ => by rfl) (fun _ => by rfl) (fun _ => by rfl) (by kernel_rfl) (fun e w h => h) (by rfl) (by intro i hi h; (repeat' split at h) <;> first | omega | (cases h; done) | exact absurd h (by decide)) ?_ ?_
  rotate_left
  · intro e; rfl
  refine mt_st 10 33 10 [Value.int .i64 3, .int .i64 a, .int .i64 b, .int .i64 c, .int .i64 d, .int .i64 e1, .int .i64 f, .int .i64 g, .int .i64 x, .int .i64 y] ?_ (by rfl) rowQry.sz HQ.out.len HQ.out.one (fun _ => by rfl) (fun _ => by rfl) (fun _ => by rfl) (by kernel_rfl) (fun e w h => h) (by rfl) (by intro i hi h; (repeat' split at h) <;> first | omega | (cases h; done) | exact absurd h (by decide)) ?_ ?_
  rotate_left
  · intro e; rfl
  refine mix_nil fun e w3 hR hF => hFin _ _ ?_
  simp only [List.drop_succ_cons, List.drop_zero]
  obtain ⟨b4, h4, hz4, hB4⟩ := (show PutB w0 23 [Value.int .i64 p1, .int .i64 p2, .int .i64 p3] (e 8) w3 from hF 11 (by decide))
  obtain ⟨b5, h5, hz5, hB5⟩ := (show PutB w0 25 [Value.int .i64 s1, .int .i64 s2, .int .i64 s3] (e 9) w3 from hF 12 (by decide))
  obtain ⟨b6, h6, hz6, hB6⟩ := (show PutB w0 33 [Value.int .i64 3, .int .i64 a, .int .i64 b, .int .i64 c, .int .i64 d, .int .i64 e1, .int .i64 f, .int .i64 g, .int .i64 x, .int .i64 y] (e 10) w3 from hF 13 (by decide))
  rw [h4, h5, h6]
  have hsm := RT.same hR
  have HB := hide (Hb.out.same hsm)
  have H4 := hide hB4
  have H5 := hide hB5
  have H6 := hide hB6
  have HS := hide (Same.trans Hs.out hsm)
  have hlb := HB.out.lt
  have hl4 := hB4.lt
  have hl5 := hB5.lt
  have hl6 := hB6.lt
  have kb0 : w3.cell? ⟨w.heap.size, 0, none⟩ = some (Value.int .i64 2) := HB.out.cell 0
  have k60 : w3.cell? ⟨b6, 0, none⟩ = some (Value.int .i64 3) := H6.out.cell 0
  have k65 : w3.cell? ⟨b6, 5, none⟩ = some (Value.int .i64 e1) := H6.out.cell 5
  have k66 : w3.cell? ⟨b6, 6, none⟩ = some (Value.int .i64 f) := H6.out.cell 6
  have k67 : w3.cell? ⟨b6, 7, none⟩ = some (Value.int .i64 g) := H6.out.cell 7
  clear hR hF hFin h4 h5 h6 hB4 hB5 hB6 hz4 hz5 hz6 hsm e Hb Hs HP HSp HQ
  go_wp2_with fail
  go_ret
  exact ⟨⟨_, rfl, rd_blk (Blk.new w3 3 #[Value.int .i64 e1, .int .i64 f, .int .i64 g])⟩, HS.out.alloc _⟩
set_option maxRecDepth 100000 in
set_option maxHeartbeats 8000000 in
theorem nums_14 (ck p1 p2 p3 s1 s2 s3 a b c d e1 f g x y : Int) (w : World) :
    Calls Tryz.prog 26 #[.agg #[Value.int .i64 2, .int .i64 ck, .int .i64 p1, .int .i64 p2, .int .i64 p3, .int .i64 s1, .int .i64 s2, .int .i64 s3, .int .i64 4, .int .i64 a, .int .i64 b, .int .i64 c, .int .i64 d, .int .i64 e1, .int .i64 f, .int .i64 g, .int .i64 x, .int .i64 y]] w (NumEnd [e1, f, g] w) := by
  have Hb := hide (Blk.new w 35 #[Value.int .i64 2, .int .i64 ck, .int .i64 p1, .int .i64 p2, .int .i64 p3, .int .i64 s1, .int .i64 s2, .int .i64 s3, .int .i64 4, .int .i64 a, .int .i64 b, .int .i64 c, .int .i64 d, .int .i64 e1, .int .i64 f, .int .i64 g, .int .i64 x, .int .i64 y])
  have Hs := hide ((Chg.refl (fun _ => False) w).alloc (.cells #[Value.int .i64 2, .int .i64 ck, .int .i64 p1, .int .i64 p2, .int .i64 p3, .int .i64 s1, .int .i64 s2, .int .i64 s3, .int .i64 4, .int .i64 a, .int .i64 b, .int .i64 c, .int .i64 d, .int .i64 e1, .int .i64 f, .int .i64 g, .int .i64 x, .int .i64 y] 35))
  have HP := hide (RowL.lit rfl rfl : RowL [Value.int .i64 p1, .int .i64 p2, .int .i64 p3] 3)
  have HSp := hide (RowL.lit rfl rfl : RowL [Value.int .i64 s1, .int .i64 s2, .int .i64 s3] 3)
  have HQ := hide (RowL.lit rfl rfl : RowL [Value.int .i64 4, .int .i64 a, .int .i64 b, .int .i64 c, .int .i64 d, .int .i64 e1, .int .i64 f, .int .i64 g, .int .i64 x, .int .i64 y] 10)
  go_enter Tryz.func26, Tryz.ntmps26
  go_wp2_with fail
  generalize w.alloc (.cells #[Value.int .i64 2, .int .i64 ck, .int .i64 p1, .int .i64 p2, .int .i64 p3, .int .i64 s1, .int .i64 s2, .int .i64 s3, .int .i64 4, .int .i64 a, .int .i64 b, .int .i64 c, .int .i64 d, .int .i64 e1, .int .i64 f, .int .i64 g, .int .i64 x, .int .i64 y] 35) = w0 at *
  refine wp_region_mixT (fun k => if k = 11 then some 23 else if k = 12 then some 25 else if k = 13 then some 33 else none) 14 (by kernel_rfl) (by kernel_rfl) fun Fin hFin => ?_
  simp only [List.take_succ_cons, List.take_zero]
  iterate 2 (
      (refine mix_lit ?_ ?_ (fun w => RkT.of_same (Chg.refl _ w)) ?_ ?_ ?_ ?_
       rotate_left; rotate_left
       · intro e w1 hR hF K hK; (skip); go_simp; (refine hK _ _ (RkT.of_same (Chg.refl _ _)) ?_; rfl)
       · intro e; simp only [Act.put, List.setIfInBounds_toArray, List.set_cons_zero, List.set_cons_succ]; rfl
       · exact Loc.const _ _))
  refine mix_ld [Value.int .i64 p1, .int .i64 p2, .int .i64 p3] ?_ (fun w => RkT.of_same (Chg.refl _ w)) (fun _ => by rfl) 23 _ rfl w.heap.size 2 (fun _ => by rfl) _ (fun w1 hR => rangeAt_blk [Value.int .i64 2, .int .i64 ck] [Value.int .i64 p1, .int .i64 p2, .int .i64 p3] [Value.int .i64 s1, .int .i64 s2, .int .i64 s3, .int .i64 4, .int .i64 a, .int .i64 b, .int .i64 c, .int .i64 d, .int .i64 e1, .int .i64 f, .int .i64 g, .int .i64 x, .int .i64 y] (Hb.out.same (RT.same hR))) Tryz.underlying23 rfl (by kernel_rfl) ?_ ?_
  rotate_left
  · intro e; simp only [Act.put, List.setIfInBounds_toArray, List.set_cons_zero, List.set_cons_succ]; rfl
  iterate 2 (
      (refine mix_lit ?_ ?_ (fun w => RkT.of_same (Chg.refl _ w)) ?_ ?_ ?_ ?_
       rotate_left; rotate_left
       · intro e w1 hR hF K hK; (skip); go_simp; (refine hK _ _ (RkT.of_same (Chg.refl _ _)) ?_; rfl)
       · intro e; simp only [Act.put, List.setIfInBounds_toArray, List.set_cons_zero, List.set_cons_succ]; rfl
       · exact Loc.const _ _))
  refine mix_ld [Value.int .i64 s1, .int .i64 s2, .int .i64 s3] ?_ (fun w => RkT.of_same (Chg.refl _ w)) (fun _ => by rfl) 25 _ rfl w.heap.size 5 (fun _ => by rfl) _ (fun w1 hR => rangeAt_blk [Value.int .i64 2, .int .i64 ck, .int .i64 p1, .int .i64 p2, .int .i64 p3] [Value.int .i64 s1, .int .i64 s2, .int .i64 s3] [Value.int .i64 4, .int .i64 a, .int .i64 b, .int .i64 c, .int .i64 d, .int .i64 e1, .int .i64 f, .int .i64 g, .int .i64 x, .int .i64 y] (Hb.out.same (RT.same hR))) Tryz.underlying25 rfl (by kernel_rfl) ?_ ?_
  rotate_left
  · intro e; simp only [Act.put, List.setIfInBounds_toArray, List.set_cons_zero, List.set_cons_succ]; rfl
  iterate 1 (
      (refine mix_lit ?_ ?_ (fun w => RkT.of_same (Chg.refl _ w)) ?_ ?_ ?_ ?_
       rotate_left; rotate_left
       · intro e w1 hR hF K hK; (skip); go_simp; (refine hK _ _ (RkT.of_same (Chg.refl _ _)) ?_; rfl)
       · intro e; simp only [Act.put, List.setIfInBounds_toArray, List.set_cons_zero, List.set_cons_succ]; rfl
       · exact Loc.const _ _))
  refine mix_ld [Value.int .i64 4, .int .i64 a, .int .i64 b, .int .i64 c, .int .i64 d, .int .i64 e1, .int .i64 f, .int .i64 g, .int .i64 x, .int .i64 y] ?_ (fun w => RkT.of_same (Chg.refl _ w)) (fun _ => by rfl) 33 _ rfl w.heap.size 8 (fun _ => by rfl) _ (fun w1 hR => rangeAt_blk [Value.int .i64 2, .int .i64 ck, .int .i64 p1, .int .i64 p2, .int .i64 p3, .int .i64 s1, .int .i64 s2, .int .i64 s3] [Value.int .i64 4, .int .i64 a, .int .i64 b, .int .i64 c, .int .i64 d, .int .i64 e1, .int .i64 f, .int .i64 g, .int .i64 x, .int .i64 y] [] (Hb.out.same (RT.same hR))) Tryz.underlying33 rfl (by kernel_rfl) ?_ ?_
  rotate_left
  · intro e; simp only [Act.put, List.setIfInBounds_toArray, List.set_cons_zero, List.set_cons_succ]; rfl
  refine mix_let (fun _ v w9 => NewB w0 23 3 v w9) ?_ (by exact Loc.const _ _) (fun i _ _ e u w w' hr h => h.keep hr.keep) ?_ ?_ ?_ ?_
  rotate_left
  · intro e; rfl
  · intro e w9 hR hF K hK; go_simp; exact hK _ _ _ (RkT.of_same ((Chg.refl _ _).alloc _)) ⟨_, rfl, Chg.size hR, _, rfl, Blk.new _ _ _⟩ (by simp only [Act.put, List.setIfInBounds_toArray, List.set_cons_zero, List.set_cons_succ])
  · intro e; simp only [Act.put, List.setIfInBounds_toArray, List.set_cons_zero, List.set_cons_succ]; rfl
  refine mix_let (fun _ v w9 => NewB w0 25 3 v w9) ?_ (by exact Loc.const _ _) (fun i _ _ e u w w' hr h => h.keep hr.keep) ?_ ?_ ?_ ?_
  rotate_left
  · intro e; rfl
  · intro e w9 hR hF K hK; go_simp; exact hK _ _ _ (RkT.of_same ((Chg.refl _ _).alloc _)) ⟨_, rfl, Chg.size hR, _, rfl, Blk.new _ _ _⟩ (by simp only [Act.put, List.setIfInBounds_toArray, List.set_cons_zero, List.set_cons_succ])
  · intro e; simp only [Act.put, List.setIfInBounds_toArray, List.set_cons_zero, List.set_cons_succ]; rfl
  refine mix_let (fun _ v w9 => NewB w0 33 10 v w9) ?_ (by exact Loc.const _ _) (fun i _ _ e u w w' hr h => h.keep hr.keep) ?_ ?_ ?_ ?_
  rotate_left
  · intro e; rfl
  · intro e w9 hR hF K hK; go_simp; exact hK _ _ _ (RkT.of_same ((Chg.refl _ _).alloc _)) ⟨_, rfl, Chg.size hR, _, rfl, Blk.new _ _ _⟩ (by simp only [Act.put, List.setIfInBounds_toArray, List.set_cons_zero, List.set_cons_succ])
  · intro e; simp only [Act.put, List.setIfInBounds_toArray, List.set_cons_zero, List.set_cons_succ]; rfl
  refine mt_st 8 23 3 [Value.int .i64 p1, .int .i64 p2, .int .i64 p3] ?_ (by rfl) rowPt.sz HP.out.len HP.out.one (fun _ => by rfl) (fun _ => by rfl) (fun _ => by rfl) (by kernel_rfl) (fun e w h => h) (by rfl) (by intro i hi h; (repeat' split at h) <;> first | omega | (cases h; done) | exact absurd h (by decide)) ?_ ?_
  rotate_left
  · intro e; rfl
  refine mt_st 9 25 3 [Value.int .i64 s1, .int .i64 s2, .int .i64 s3] ?_ (by rfl) rowSp.sz HSp.out.len HSp.out.one (fun _ => by rfl) (fun _ => by rfl) (fun _ => by rfl) (by kernel_rfl) (fun e w h => h) (by rfl) (by intro i hi h; (repeat' split at h) <;> first | omega | (cases h; done) | exact absurd h (by decide)) ?_ ?_
  rotate_left
  · intro e; rfl
  refine mt_st 10 33 10 [Value.int .i64 4, .int .i64 a, .int .i64 b, .int .i64 c, .int .i64 d, .int .i64 e1, .int .i64 f, .int .i64 g, .int .i64 x, .int .i64 y] ?_ (by rfl) rowQry.sz HQ.out.len HQ.out.one (fun _ => by rfl) (fun _ => by rfl) (fun _ => by rfl) (by kernel_rfl) (fun e w h => h) (by rfl) (by intro i hi h; (repeat' split at h) <;> first | omega | (cases h; done) | exact absurd h (by decide)) ?_ ?_
  rotate_left
  · intro e; rfl
  refine mix_nil fun e w3 hR hF => hFin _ _ ?_
  simp only [List.drop_succ_cons, List.drop_zero]
  obtain ⟨b4, h4, hz4, hB4⟩ := (show PutB w0 23 [Value.int .i64 p1, .int .i64 p2, .int .i64 p3] (e 8) w3 from hF 11 (by decide))
  obtain ⟨b5, h5, hz5, hB5⟩ := (show PutB w0 25 [Value.int .i64 s1, .int .i64 s2, .int .i64 s3] (e 9) w3 from hF 12 (by decide))
  obtain ⟨b6, h6, hz6, hB6⟩ := (show PutB w0 33 [Value.int .i64 4, .int .i64 a, .int .i64 b, .int .i64 c, .int .i64 d, .int .i64 e1, .int .i64 f, .int .i64 g, .int .i64 x, .int .i64 y] (e 10) w3 from hF 13 (by decide))
  rw [h4, h5, h6]
  have hsm := RT.same hR
  have HB := hide (Hb.out.same hsm)
  have H4 := hide hB4
  have H5 := hide hB5
  have H6 := hide hB6
  have HS := hide (Same.trans Hs.out hsm)
  have hlb := HB.out.lt
  have hl4 := hB4.lt
  have hl5 := hB5.lt
  have hl6 := hB6.lt
  have kb0 : w3.cell? ⟨w.heap.size, 0, none⟩ = some (Value.int .i64 2) := HB.out.cell 0
  have k60 : w3.cell? ⟨b6, 0, none⟩ = some (Value.int .i64 4) := H6.out.cell 0
  have k65 : w3.cell? ⟨b6, 5, none⟩ = some (Value.int .i64 e1) := H6.out.cell 5
  have k66 : w3.cell? ⟨b6, 6, none⟩ = some (Value.int .i64 f) := H6.out.cell 6
  have k67 : w3.cell? ⟨b6, 7, none⟩ = some (Value.int .i64 g) := H6.out.cell 7
  clear hR hF hFin h4 h5 h6 hB4 hB5 hB6 hz4 hz5 hz6 hsm e Hb Hs HP HSp HQ
  go_wp2_with fail
  go_ret
  exact ⟨⟨_, rfl, rd_blk (Blk.new w3 3 #[Value.int .i64 e1, .int .i64 f, .int .i64 g])⟩, HS.out.alloc _⟩
set_option maxRecDepth 100000 in
set_option maxHeartbeats 8000000 in
theorem nums_15 (ck p1 p2 p3 s1 s2 s3 a b c d e1 f g x y : Int) (w : World) :
    Calls Tryz.prog 26 #[.agg #[Value.int .i64 2, .int .i64 ck, .int .i64 p1, .int .i64 p2, .int .i64 p3, .int .i64 s1, .int .i64 s2, .int .i64 s3, .int .i64 5, .int .i64 a, .int .i64 b, .int .i64 c, .int .i64 d, .int .i64 e1, .int .i64 f, .int .i64 g, .int .i64 x, .int .i64 y]] w (NumEnd [x] w) := by
  have Hb := hide (Blk.new w 35 #[Value.int .i64 2, .int .i64 ck, .int .i64 p1, .int .i64 p2, .int .i64 p3, .int .i64 s1, .int .i64 s2, .int .i64 s3, .int .i64 5, .int .i64 a, .int .i64 b, .int .i64 c, .int .i64 d, .int .i64 e1, .int .i64 f, .int .i64 g, .int .i64 x, .int .i64 y])
  have Hs := hide ((Chg.refl (fun _ => False) w).alloc (.cells #[Value.int .i64 2, .int .i64 ck, .int .i64 p1, .int .i64 p2, .int .i64 p3, .int .i64 s1, .int .i64 s2, .int .i64 s3, .int .i64 5, .int .i64 a, .int .i64 b, .int .i64 c, .int .i64 d, .int .i64 e1, .int .i64 f, .int .i64 g, .int .i64 x, .int .i64 y] 35))
  have HP := hide (RowL.lit rfl rfl : RowL [Value.int .i64 p1, .int .i64 p2, .int .i64 p3] 3)
  have HSp := hide (RowL.lit rfl rfl : RowL [Value.int .i64 s1, .int .i64 s2, .int .i64 s3] 3)
  have HQ := hide (RowL.lit rfl rfl : RowL [Value.int .i64 5, .int .i64 a, .int .i64 b, .int .i64 c, .int .i64 d, .int .i64 e1, .int .i64 f, .int .i64 g, .int .i64 x, .int .i64 y] 10)
  go_enter Tryz.func26, Tryz.ntmps26
  go_wp2_with fail
  generalize w.alloc (.cells #[Value.int .i64 2, .int .i64 ck, .int .i64 p1, .int .i64 p2, .int .i64 p3, .int .i64 s1, .int .i64 s2, .int .i64 s3, .int .i64 5, .int .i64 a, .int .i64 b, .int .i64 c, .int .i64 d, .int .i64 e1, .int .i64 f, .int .i64 g, .int .i64 x, .int .i64 y] 35) = w0 at *
  refine wp_region_mixT (fun k => if k = 11 then some 23 else if k = 12 then some 25 else if k = 13 then some 33 else none) 14 (by kernel_rfl) (by kernel_rfl) fun Fin hFin => ?_
  simp only [List.take_succ_cons, List.take_zero]
  iterate 2 (
      (refine mix_lit ?_ ?_ (fun w => RkT.of_same (Chg.refl _ w)) ?_ ?_ ?_ ?_
       rotate_left; rotate_left
       · intro e w1 hR hF K hK; (skip); go_simp; (refine hK _ _ (RkT.of_same (Chg.refl _ _)) ?_; rfl)
       · intro e; simp only [Act.put, List.setIfInBounds_toArray, List.set_cons_zero, List.set_cons_succ]; rfl
       · exact Loc.const _ _))
  refine mix_ld [Value.int .i64 p1, .int .i64 p2, .int .i64 p3] ?_ (fun w => RkT.of_same (Chg.refl _ w)) (fun _ => by rfl) 23 _ rfl w.heap.size 2 (fun _ => by rfl) _ (fun w1 hR => rangeAt_blk [Value.int .i64 2, .int .i64 ck] [Value.int .i64 p1, .int .i64 p2, .int .i64 p3] [Value.int .i64 s1, .int .i64 s2, .int .i64 s3, .int .i64 5, .int .i64 a, .int .i64 b, .int .i64 c, .int .i64 d, .int .i64 e1, .int .i64 f, .int .i64 g, .int .i64 x, .int .i64 y] (Hb.out.same (RT.same hR))) Tryz.underlying23 rfl (by kernel_rfl) ?_ ?_
  rotate_left
  · intro e; simp only [Act.put, List.setIfInBounds_toArray, List.set_cons_zero, List.set_cons_succ]; rfl
  iterate 2 (
      (refine mix_lit ?_ ?_ (fun w => RkT.of_same (Chg.refl _ w)) ?_ ?_ ?_ ?_
       rotate_left; rotate_left
       · intro e w1 hR hF K hK; (skip); go_simp; (refine hK _ _ (RkT.of_same (Chg.refl _ _)) ?_; rfl)
       · intro e; simp only [Act.put, List.setIfInBounds_toArray, List.set_cons_zero, List.set_cons_succ]; rfl
       · exact Loc.const _ _))
  refine mix_ld [Value.int .i64 s1, .int .i64 s2, .int .i64 s3] ?_ (fun w => RkT.of_same (Chg.refl _ w)) (fun _ => by rfl) 25 _ rfl w.heap.size 5 (fun _ => by rfl) _ (fun w1 hR => rangeAt_blk [Value.int .i64 2, .int .i64 ck, .int .i64 p1, .int .i64 p2, .int .i64 p3] [Value.int .i64 s1, .int .i64 s2, .int .i64 s3] [Value.int .i64 5, .int .i64 a, .int .i64 b, .int .i64 c, .int .i64 d, .int .i64 e1, .int .i64 f, .int .i64 g, .int .i64 x, .int .i64 y] (Hb.out.same (RT.same hR))) Tryz.underlying25 rfl (by kernel_rfl) ?_ ?_
  rotate_left
  · intro e; simp only [Act.put, List.setIfInBounds_toArray, List.set_cons_zero, List.set_cons_succ]; rfl
  iterate 1 (
      (refine mix_lit ?_ ?_ (fun w => RkT.of_same (Chg.refl _ w)) ?_ ?_ ?_ ?_
       rotate_left; rotate_left
       · intro e w1 hR hF K hK; (skip); go_simp; (refine hK _ _ (RkT.of_same (Chg.refl _ _)) ?_; rfl)
       · intro e; simp only [Act.put, List.setIfInBounds_toArray, List.set_cons_zero, List.set_cons_succ]; rfl
       · exact Loc.const _ _))
  refine mix_ld [Value.int .i64 5, .int .i64 a, .int .i64 b, .int .i64 c, .int .i64 d, .int .i64 e1, .int .i64 f, .int .i64 g, .int .i64 x, .int .i64 y] ?_ (fun w => RkT.of_same (Chg.refl _ w)) (fun _ => by rfl) 33 _ rfl w.heap.size 8 (fun _ => by rfl) _ (fun w1 hR => rangeAt_blk [Value.int .i64 2, .int .i64 ck, .int .i64 p1, .int .i64 p2, .int .i64 p3, .int .i64 s1, .int .i64 s2, .int .i64 s3] [Value.int .i64 5, .int .i64 a, .int .i64 b, .int .i64 c, .int .i64 d, .int .i64 e1, .int .i64 f, .int .i64 g, .int .i64 x, .int .i64 y] [] (Hb.out.same (RT.same hR))) Tryz.underlying33 rfl (by kernel_rfl) ?_ ?_
  rotate_left
  · intro e; simp only [Act.put, List.setIfInBounds_toArray, List.set_cons_zero, List.set_cons_succ]; rfl
  refine mix_let (fun _ v w9 => NewB w0 23 3 v w9) ?_ (by exact Loc.const _ _) (fun i _ _ e u w w' hr h => h.keep hr.keep) ?_ ?_ ?_ ?_
  rotate_left
  · intro e; rfl
  · intro e w9 hR hF K hK; go_simp; exact hK _ _ _ (RkT.of_same ((Chg.refl _ _).alloc _)) ⟨_, rfl, Chg.size hR, _, rfl, Blk.new _ _ _⟩ (by simp only [Act.put, List.setIfInBounds_toArray, List.set_cons_zero, List.set_cons_succ])
  · intro e; simp only [Act.put, List.setIfInBounds_toArray, List.set_cons_zero, List.set_cons_succ]; rfl
  refine mix_let (fun _ v w9 => NewB w0 25 3 v w9) ?_ (by exact Loc.const _ _) (fun i _ _ e u w w' hr h => h.keep hr.keep) ?_ ?_ ?_ ?_
  rotate_left
  · intro e; rfl
  · intro e w9 hR hF K hK; go_simp; exact hK _ _ _ (RkT.of_same ((Chg.refl _ _).alloc _)) ⟨_, rfl, Chg.size hR, _, rfl, Blk.new _ _ _⟩ (by simp only [Act.put, List.setIfInBounds_toArray, List.set_cons_zero, List.set_cons_succ])
  · intro e; simp only [Act.put, List.setIfInBounds_toArray, List.set_cons_zero, List.set_cons_succ]; rfl
  refine mix_let (fun _ v w9 => NewB w0 33 10 v w9) ?_ (by exact Loc.const _ _) (fun i _ _ e u w w' hr h => h.keep hr.keep) ?_ ?_ ?_ ?_
  rotate_left
  · intro e; rfl
  · intro e w9 hR hF K hK; go_simp; exact hK _ _ _ (RkT.of_same ((Chg.refl _ _).alloc _)) ⟨_, rfl, Chg.size hR, _, rfl, Blk.new _ _ _⟩ (by simp only [Act.put, List.setIfInBounds_toArray, List.set_cons_zero, List.set_cons_succ])
  · intro e; simp only [Act.put, List.setIfInBounds_toArray, List.set_cons_zero, List.set_cons_succ]; rfl
  refine mt_st 8 23 3 [Value.int .i64 p1, .int .i64 p2, .int .i64 p3] ?_ (by rfl) rowPt.sz HP.out.len HP.out.one (fun _ => by rfl) (fun _ => by rfl) (fun _ => by rfl) (by kernel_rfl) (fun e w h => h) (by rfl) (by intro i hi h; (repeat' split at h) <;> first | omega | (cases h; done) | exact absurd h (by decide)) ?_ ?_
  rotate_left
  · intro e; rfl
  refine mt_st 9 25 3 [Value.int .i64 s1, .int .i64 s2, .int .i64 s3] ?_ (by rfl) rowSp.sz HSp.out.len HSp.out.one (fun _ => by rfl) (fun _ => by rfl) (fun _ => by rfl) (by kernel_rfl) (fun e w h => h) (by rfl) (by intro i hi h; (repeat' split at h) <;> first | omega | (cases h; done) | exact absurd h (by decide)) ?_ ?_
  rotate_left
  · intro e; rfl
  refine mt_st 10 33 10 [Value.int .i64 5, .int .i64 a, .int .i64 b, .int .i64 c, .int .i64 d, .int .i64 e1, .int .i64 f, .int .i64 g, .int .i64 x, .int .i64 y] ?_ (by rfl) rowQry.sz HQ.out.len HQ.out.one (fun _ => by rfl) (fun _ => by rfl) (fun _ => by rfl) (by kernel_rfl) (fun e w h => h) (by rfl) (by intro i hi h; (repeat' split at h) <;> first | omega | (cases h; done) | exact absurd h (by decide)) ?_ ?_
  rotate_left
  · intro e; rfl
  refine mix_nil fun e w3 hR hF => hFin _ _ ?_
  simp only [List.drop_succ_cons, List.drop_zero]
  obtain ⟨b4, h4, hz4, hB4⟩ := (show PutB w0 23 [Value.int .i64 p1, .int .i64 p2, .int .i64 p3] (e 8) w3 from hF 11 (by decide))
  obtain ⟨b5, h5, hz5, hB5⟩ := (show PutB w0 25 [Value.int .i64 s1, .int .i64 s2, .int .i64 s3] (e 9) w3 from hF 12 (by decide))
  obtain ⟨b6, h6, hz6, hB6⟩ := (show PutB w0 33 [Value.int .i64 5, .int .i64 a, .int .i64 b, .int .i64 c, .int .i64 d, .int .i64 e1, .int .i64 f, .int .i64 g, .int .i64 x, .int .i64 y] (e 10) w3 from hF 13 (by decide))
  rw [h4, h5, h6]
  have hsm := RT.same hR
  have HB := hide (Hb.out.same hsm)
  have H4 := hide hB4
  have H5 := hide hB5
  have H6 := hide hB6
  have HS := hide (Same.trans Hs.out hsm)
  have hlb := HB.out.lt
  have hl4 := hB4.lt
  have hl5 := hB5.lt
  have hl6 := hB6.lt
  have kb0 : w3.cell? ⟨w.heap.size, 0, none⟩ = some (Value.int .i64 2) := HB.out.cell 0
  have k60 : w3.cell? ⟨b6, 0, none⟩ = some (Value.int .i64 5) := H6.out.cell 0
  have k68 : w3.cell? ⟨b6, 8, none⟩ = some (Value.int .i64 x) := H6.out.cell 8
  clear hR hF hFin h4 h5 h6 hB4 hB5 hB6 hz4 hz5 hz6 hsm e Hb Hs HP HSp HQ
  go_wp2_with fail
  go_ret
  exact ⟨⟨_, rfl, rd_blk (Blk.new w3 3 #[Value.int .i64 x])⟩, HS.out.alloc _⟩
set_option maxRecDepth 100000 in
set_option maxHeartbeats 8000000 in
theorem nums_16 (ck p1 p2 p3 s1 s2 s3 a b c d e1 f g x y : Int) (w : World) :
    Calls Tryz.prog 26 #[.agg #[Value.int .i64 2, .int .i64 ck, .int .i64 p1, .int .i64 p2, .int .i64 p3, .int .i64 s1, .int .i64 s2, .int .i64 s3, .int .i64 6, .int .i64 a, .int .i64 b, .int .i64 c, .int .i64 d, .int .i64 e1, .int .i64 f, .int .i64 g, .int .i64 x, .int .i64 y]] w (NumEnd [x, y] w) := by
  have Hb := hide (Blk.new w 35 #[Value.int .i64 2, .int .i64 ck, .int .i64 p1, .int .i64 p2, .int .i64 p3, .int .i64 s1, .int .i64 s2, .int .i64 s3, .int .i64 6, .int .i64 a, .int .i64 b, .int .i64 c, .int .i64 d, .int .i64 e1, .int .i64 f, .int .i64 g, .int .i64 x, .int .i64 y])
  have Hs := hide ((Chg.refl (fun _ => False) w).alloc (.cells #[Value.int .i64 2, .int .i64 ck, .int .i64 p1, .int .i64 p2, .int .i64 p3, .int .i64 s1, .int .i64 s2, .int .i64 s3, .int .i64 6, .int .i64 a, .int .i64 b, .int .i64 c, .int .i64 d, .int .i64 e1, .int .i64 f, .int .i64 g, .int .i64 x, .int .i64 y] 35))
  have HP := hide (RowL.lit rfl rfl : RowL [Value.int .i64 p1, .int .i64 p2, .int .i64 p3] 3)
  have HSp := hide (RowL.lit rfl rfl : RowL [Value.int .i64 s1, .int .i64 s2, .int .i64 s3] 3)
  have HQ := hide (RowL.lit rfl rfl : RowL [Value.int .i64 6, .int .i64 a, .int .i64 b, .int .i64 c, .int .i64 d, .int .i64 e1, .int .i64 f, .int .i64 g, .int .i64 x, .int .i64 y] 10)
  go_enter Tryz.func26, Tryz.ntmps26
  go_wp2_with fail
  generalize w.alloc (.cells #[Value.int .i64 2, .int .i64 ck, .int .i64 p1, .int .i64 p2, .int .i64 p3, .int .i64 s1, .int .i64 s2, .int .i64 s3, .int .i64 6, .int .i64 a, .int .i64 b, .int .i64 c, .int .i64 d, .int .i64 e1, .int .i64 f, .int .i64 g, .int .i64 x, .int .i64 y] 35) = w0 at *
  refine wp_region_mixT (fun k => if k = 11 then some 23 else if k = 12 then some 25 else if k = 13 then some 33 else none) 14 (by kernel_rfl) (by kernel_rfl) fun Fin hFin => ?_
  simp only [List.take_succ_cons, List.take_zero]
  iterate 2 (
      (refine mix_lit ?_ ?_ (fun w => RkT.of_same (Chg.refl _ w)) ?_ ?_ ?_ ?_
       rotate_left; rotate_left
       · intro e w1 hR hF K hK; (skip); go_simp; (refine hK _ _ (RkT.of_same (Chg.refl _ _)) ?_; rfl)
       · intro e; simp only [Act.put, List.setIfInBounds_toArray, List.set_cons_zero, List.set_cons_succ]; rfl
       · exact Loc.const _ _))
  refine mix_ld [Value.int .i64 p1, .int .i64 p2, .int .i64 p3] ?_ (fun w => RkT.of_same (Chg.refl _ w)) (fun _ => by rfl) 23 _ rfl w.heap.size 2 (fun _ => by rfl) _ (fun w1 hR => rangeAt_blk [Value.int .i64 2, .int .i64 ck] [Value.int .i64 p1, .int .i64 p2, .int .i64 p3] [Value.int .i64 s1, .int .i64 s2, .int .i64 s3, .int .i64 6, .int .i64 a, .int .i64 b, .int .i64 c, .int .i64 d, .int .i64 e1, .int .i64 f, .int .i64 g, .int .i64 x, .int .i64 y] (Hb.out.same (RT.same hR))) Tryz.underlying23 rfl (by kernel_rfl) ?_ ?_
  rotate_left
  · intro e; simp only [Act.put, List.setIfInBounds_toArray, List.set_cons_zero, List.set_cons_succ]; rfl
  iterate 2 (
      (refine mix_lit ?_ ?_ (fun w => RkT.of_same (Chg.refl _ w)) ?_ ?_ ?_ ?_
       rotate_left; rotate_left
       · intro e w1 hR hF K hK; (skip); go_simp; (refine hK _ _ (RkT.of_same (Chg.refl _ _)) ?_; rfl)
       · intro e; simp only [Act.put, List.setIfInBounds_toArray, List.set_cons_zero, List.set_cons_succ]; rfl
       · exact Loc.const _ _))
  refine mix_ld [Value.int .i64 s1, .int .i64 s2, .int .i64 s3] ?_ (fun w => RkT.of_same (Chg.refl _ w)) (fun _ => by rfl) 25 _ rfl w.heap.size 5 (fun _ => by rfl) _ (fun w1 hR => rangeAt_blk [Value.int .i64 2, .int .i64 ck, .int .i64 p1, .int .i64 p2, .int .i64 p3] [Value.int .i64 s1, .int .i64 s2, .int .i64 s3] [Value.int .i64 6, .int .i64 a, .int .i64 b, .int .i64 c, .int .i64 d, .int .i64 e1, .int .i64 f, .int .i64 g, .int .i64 x, .int .i64 y] (Hb.out.same (RT.same hR))) Tryz.underlying25 rfl (by kernel_rfl) ?_ ?_
  rotate_left
  · intro e; simp only [Act.put, List.setIfInBounds_toArray, List.set_cons_zero, List.set_cons_succ]; rfl
  iterate 1 (
      (refine mix_lit ?_ ?_ (fun w => RkT.of_same (Chg.refl _ w)) ?_ ?_ ?_ ?_
       rotate_left; rotate_left
       · intro e w1 hR hF K hK; (skip); go_simp; (refine hK _ _ (RkT.of_same (Chg.refl _ _)) ?_; rfl)
       · intro e; simp only [Act.put, List.setIfInBounds_toArray, List.set_cons_zero, List.set_cons_succ]; rfl
       · exact Loc.const _ _))
  refine mix_ld [Value.int .i64 6, .int .i64 a, .int .i64 b, .int .i64 c, .int .i64 d, .int .i64 e1, .int .i64 f, .int .i64 g, .int .i64 x, .int .i64 y] ?_ (fun w => RkT.of_same (Chg.refl _ w)) (fun _ => by rfl) 33 _ rfl w.heap.size 8 (fun _ => by rfl) _ (fun w1 hR => rangeAt_blk [Value.int .i64 2, .int .i64 ck, .int .i64 p1, .int .i64 p2, .int .i64 p3, .int .i64 s1, .int .i64 s2, .int .i64 s3] [Value.int .i64 6, .int .i64 a, .int .i64 b, .int .i64 c, .int .i64 d, .int .i64 e1, .int .i64 f, .int .i64 g, .int .i64 x, .int .i64 y] [] (Hb.out.same (RT.same hR))) Tryz.underlying33 rfl (by kernel_rfl) ?_ ?_
  rotate_left
  · intro e; simp only [Act.put, List.setIfInBounds_toArray, List.set_cons_zero, List.set_cons_succ]; rfl
  refine mix_let (fun _ v w9 => NewB w0 23 3 v w9) ?_ (by exact Loc.const _ _) (fun i _ _ e u w w' hr h => h.keep hr.keep) ?_ ?_ ?_ ?_
  rotate_left
  · intro e; rfl
  · intro e w9 hR hF K hK; go_simp; exact hK _ _ _ (RkT.of_same ((Chg.refl _ _).alloc _)) ⟨_, rfl, Chg.size hR, _, rfl, Blk.new _ _ _⟩ (by simp only [Act.put, List.setIfInBounds_toArray, List.set_cons_zero, List.set_cons_succ])
  · intro e; simp only [Act.put, List.setIfInBounds_toArray, List.set_cons_zero, List.set_cons_succ]; rfl
  refine mix_let (fun _ v w9 => NewB w0 25 3 v w9) ?_ (by exact Loc.const _ _) (fun i _ _ e u w w' hr h => h.keep hr.keep) ?_ ?_ ?_ ?_
  rotate_left
  · intro e; rfl
  · intro e w9 hR hF K hK; go_simp; exact hK _ _ _ (RkT.of_same ((Chg.refl _ _).alloc _)) ⟨_, rfl, Chg.size hR, _, rfl, Blk.new _ _ _⟩ (by simp only [Act.put, List.setIfInBounds_toArray, List.set_cons_zero, List.set_cons_succ])
  · intro e; simp only [Act.put, List.setIfInBounds_toArray, List.set_cons_zero, List.set_cons_succ]; rfl
  refine mix_let (fun _ v w9 => NewB w0 33 10 v w9) ?_ (by exact Loc.const _ _) (fun i _ _ e u w w' hr h => h.keep hr.keep) ?_ ?_ ?_ ?_
  rotate_left
  · intro e; rfl
  · intro e w9 hR hF K hK; go_simp; exact hK _ _ _ (RkT.of_same ((Chg.refl _ _).alloc _)) ⟨_, rfl, Chg.size hR, _, rfl, Blk.new _ _ _⟩ (by simp only [Act.put, List.setIfInBounds_toArray, List.set_cons_zero, List.set_cons_succ])
  · intro e; simp only [Act.put, List.setIfInBounds_toArray, List.set_cons_zero, List.set_cons_succ]; rfl
  refine mt_st 8 23 3 [Value.int .i64 p1, .int .i64 p2, .int .i64 p3] ?_ (by rfl) rowPt.sz HP.out.len HP.out.one (fun _ => by rfl) (fun _ => by rfl) (fun _ => by rfl) (by kernel_rfl) (fun e w h => h) (by rfl) (by intro i hi h; (repeat' split at h) <;> first | omega | (cases h; done) | exact absurd h (by decide)) ?_ ?_
  rotate_left
  · intro e; rfl
  refine mt_st 9 25 3 [Value.int .i64 s1, .int .i64 s2, .int .i64 s3] ?_ (by rfl) rowSp.sz HSp.out.len HSp.out.one (fun _ => by rfl) (fun _ => by rfl) (fun _ => by rfl) (by kernel_rfl) (fun e w h => h) (by rfl) (by intro i hi h; (repeat' split at h) <;> first | omega | (cases h; done) | exact absurd h (by decide)) ?_ ?_
  rotate_left
  · intro e; rfl
  refine mt_st 10 33 10 [Value.int .i64 6, .int .i64 a, .int .i64 b, .int .i64 c, .int .i64 d, .int .i64 e1, .int .i64 f, .int .i64 g, .int .i64 x, .int .i64 y] ?_ (by rfl) rowQry.sz HQ.out.len HQ.out.one (fun _ => by rfl) (fun _ => by rfl) (fun _ => by rfl) (by kernel_rfl) (fun e w h => h) (by rfl) (by intro i hi h; (repeat' split at h) <;> first | omega | (cases h; done) | exact absurd h (by decide)) ?_ ?_
  rotate_left
  · intro e; rfl
  refine mix_nil fun e w3 hR hF => hFin _ _ ?_
  simp only [List.drop_succ_cons, List.drop_zero]
  obtain ⟨b4, h4, hz4, hB4⟩ := (show PutB w0 23 [Value.int .i64 p1, .int .i64 p2, .int .i64 p3] (e 8) w3 from hF 11 (by decide))
  obtain ⟨b5, h5, hz5, hB5⟩ := (show PutB w0 25 [Value.int .i64 s1, .int .i64 s2, .int .i64 s3] (e 9) w3 from hF 12 (by decide))
  obtain ⟨b6, h6, hz6, hB6⟩ := (show PutB w0 33 [Value.int .i64 6, .int .i64 a, .int .i64 b, .int .i64 c, .int .i64 d, .int .i64 e1, .int .i64 f, .int .i64 g, .int .i64 x, .int .i64 y] (e 10) w3 from hF 13 (by decide))
  rw [h4, h5, h6]
  have hsm := RT.same hR
  have HB := hide (Hb.out.same hsm)
  have H4 := hide hB4
  have H5 := hide hB5
  have H6 := hide hB6
  have HS := hide (Same.trans Hs.out hsm)
  have hlb := HB.out.lt
  have hl4 := hB4.lt
  have hl5 := hB5.lt
  have hl6 := hB6.lt
  have kb0 : w3.cell? ⟨w.heap.size, 0, none⟩ = some (Value.int .i64 2) := HB.out.cell 0
  have k60 : w3.cell? ⟨b6, 0, none⟩ = some (Value.int .i64 6) := H6.out.cell 0
  have k68 : w3.cell? ⟨b6, 8, none⟩ = some (Value.int .i64 x) := H6.out.cell 8
  have k69 : w3.cell? ⟨b6, 9, none⟩ = some (Value.int .i64 y) := H6.out.cell 9
  clear hR hF hFin h4 h5 h6 hB4 hB5 hB6 hz4 hz5 hz6 hsm e Hb Hs HP HSp HQ
  go_wp2_with fail
  go_ret
  exact ⟨⟨_, rfl, rd_blk (Blk.new w3 3 #[Value.int .i64 x, .int .i64 y])⟩, HS.out.alloc _⟩
set_option maxRecDepth 100000 in
set_option maxHeartbeats 8000000 in
theorem nums_17 (ck p1 p2 p3 s1 s2 s3 a b c d e1 f g x y : Int) (w : World) :
    Calls Tryz.prog 26 #[.agg #[Value.int .i64 2, .int .i64 ck, .int .i64 p1, .int .i64 p2, .int .i64 p3, .int .i64 s1, .int .i64 s2, .int .i64 s3, .int .i64 7, .int .i64 a, .int .i64 b, .int .i64 c, .int .i64 d, .int .i64 e1, .int .i64 f, .int .i64 g, .int .i64 x, .int .i64 y]] w (NumEnd [x, y] w) := by
  have Hb := hide (Blk.new w 35 #[Value.int .i64 2, .int .i64 ck, .int .i64 p1, .int .i64 p2, .int .i64 p3, .int .i64 s1, .int .i64 s2, .int .i64 s3, .int .i64 7, .int .i64 a, .int .i64 b, .int .i64 c, .int .i64 d, .int .i64 e1, .int .i64 f, .int .i64 g, .int .i64 x, .int .i64 y])
  have Hs := hide ((Chg.refl (fun _ => False) w).alloc (.cells #[Value.int .i64 2, .int .i64 ck, .int .i64 p1, .int .i64 p2, .int .i64 p3, .int .i64 s1, .int .i64 s2, .int .i64 s3, .int .i64 7, .int .i64 a, .int .i64 b, .int .i64 c, .int .i64 d, .int .i64 e1, .int .i64 f, .int .i64 g, .int .i64 x, .int .i64 y] 35))
  have HP := hide (RowL.lit rfl rfl : RowL [Value.int .i64 p1, .int .i64 p2, .int .i64 p3] 3)
  have HSp := hide (RowL.lit rfl rfl : RowL [Value.int .i64 s1, .int .i64 s2, .int .i64 s3] 3)
  have HQ := hide (RowL.lit rfl rfl : RowL [Value.int .i64 7, .int .i64 a, .int .i64 b, .int .i64 c, .int .i64 d, .int .i64 e1, .int .i64 f, .int .i64 g, .int .i64 x, .int .i64 y] 10)
  go_enter Tryz.func26, Tryz.ntmps26
  go_wp2_with fail
  generalize w.alloc (.cells #[Value.int .i64 2, .int .i64 ck, .int .i64 p1, .int .i64 p2, .int .i64 p3, .int .i64 s1, .int .i64 s2, .int .i64 s3, .int .i64 7, .int .i64 a, .int .i64 b, .int .i64 c, .int .i64 d, .int .i64 e1, .int .i64 f, .int .i64 g, .int .i64 x, .int .i64 y] 35) = w0 at *
  refine wp_region_mixT (fun k => if k = 11 then some 23 else if k = 12 then some 25 else if k = 13 then some 33 else none) 14 (by kernel_rfl) (by kernel_rfl) fun Fin hFin => ?_
  simp only [List.take_succ_cons, List.take_zero]
  iterate 2 (
      (refine mix_lit ?_ ?_ (fun w => RkT.of_same (Chg.refl _ w)) ?_ ?_ ?_ ?_
       rotate_left; rotate_left
       · intro e w1 hR hF K hK; (skip); go_simp; (refine hK _ _ (RkT.of_same (Chg.refl _ _)) ?_; rfl)
       · intro e; simp only [Act.put, List.setIfInBounds_toArray, List.set_cons_zero, List.set_cons_succ]; rfl
       · exact Loc.const _ _))
  refine mix_ld [Value.int .i64 p1, .int .i64 p2, .int .i64 p3] ?_ (fun w => RkT.of_same (Chg.refl _ w)) (fun _ => by rfl) 23 _ rfl w.heap.size 2 (fun _ => by rfl) _ (fun w1 hR => rangeAt_blk [Value.int .i64 2, .int .i64 ck] [Value.int .i64 p1, .int .i64 p2, .int .i64 p3] [Value.int .i64 s1, .int .i64 s2, .int .i64 s3, .int .i64 7, .int .i64 a, .int .i64 b, .int .i64 c, .int .i64 d, .int .i64 e1, .int .i64 f, .int .i64 g, .int .i64 x, .int .i64 y] (Hb.out.same (RT.same hR))) Tryz.underlying23 rfl (by kernel_rfl) ?_ ?_
  rotate_left
  · intro e; simp only [Act.put, List.setIfInBounds_toArray, List.set_cons_zero, List.set_cons_succ]; rfl
  iterate 2 (
      (refine mix_lit ?_ ?_ (fun w => RkT.of_same (Chg.refl _ w)) ?_ ?_ ?_ ?_
       rotate_left; rotate_left
       · intro e w1 hR hF K hK; (skip); go_simp; (refine hK _ _ (RkT.of_same (Chg.refl _ _)) ?_; rfl)
       · intro e; simp only [Act.put, List.setIfInBounds_toArray, List.set_cons_zero, List.set_cons_succ]; rfl
       · exact Loc.const _ _))
  refine mix_ld [Value.int .i64 s1, .int .i64 s2, .int .i64 s3] ?_ (fun w => RkT.of_same (Chg.refl _ w)) (fun _ => by rfl) 25 _ rfl w.heap.size 5 (fun _ => by rfl) _ (fun w1 hR => rangeAt_blk [Value.int .i64 2, .int .i64 ck, .int .i64 p1, .int .i64 p2, .int .i64 p3] [Value.int .i64 s1, .int .i64 s2, .int .i64 s3] [Value.int .i64 7, .int .i64 a, .int .i64 b, .int .i64 c, .int .i64 d, .int .i64 e1, .int .i64 f, .int .i64 g, .int .i64 x, .int .i64 y] (Hb.out.same (RT.same hR))) Tryz.underlying25 rfl (by kernel_rfl) ?_ ?_
  rotate_left
  · intro e; simp only [Act.put, List.setIfInBounds_toArray, List.set_cons_zero, List.set_cons_succ]; rfl
  iterate 1 (
      (refine mix_lit ?_ ?_ (fun w => RkT.of_same (Chg.refl _ w)) ?_ ?_ ?_ ?_
       rotate_left; rotate_left
       · intro e w1 hR hF K hK; (skip); go_simp; (refine hK _ _ (RkT.of_same (Chg.refl _ _)) ?_; rfl)
       · intro e; simp only [Act.put, List.setIfInBounds_toArray, List.set_cons_zero, List.set_cons_succ]; rfl
       · exact Loc.const _ _))
  refine mix_ld [Value.int .i64 7, .int .i64 a, .int .i64 b, .int .i64 c, .int .i64 d, .int .i64 e1, .int .i64 f, .int .i64 g, .int .i64 x, .int .i64 y] ?_ (fun w => RkT.of_same (Chg.refl _ w)) (fun _ => by rfl) 33 _ rfl w.heap.size 8 (fun _ => by rfl) _ (fun w1 hR => rangeAt_blk [Value.int .i64 2, .int .i64 ck, .int .i64 p1, .int .i64 p2, .int .i64 p3, .int .i64 s1, .int .i64 s2, .int .i64 s3] [Value.int .i64 7, .int .i64 a, .int .i64 b, .int .i64 c, .int .i64 d, .int .i64 e1, .int .i64 f, .int .i64 g, .int .i64 x, .int .i64 y] [] (Hb.out.same (RT.same hR))) Tryz.underlying33 rfl (by kernel_rfl) ?_ ?_
  rotate_left
  · intro e; simp only [Act.put, List.setIfInBounds_toArray, List.set_cons_zero, List.set_cons_succ]; rfl
  refine mix_let (fun _ v w9 => NewB w0 23 3 v w9) ?_ (by exact Loc.const _ _) (fun i _ _ e u w w' hr h => h.keep hr.keep) ?_ ?_ ?_ ?_
  rotate_left
  · intro e; rfl
  · intro e w9 hR hF K hK; go_simp; exact hK _ _ _ (RkT.of_same ((Chg.refl _ _).alloc _)) ⟨_, rfl, Chg.size hR, _, rfl, Blk.new _ _ _⟩ (by simp only [Act.put, List.setIfInBounds_toArray, List.set_cons_zero, List.set_cons_succ])
  · intro e; simp only [Act.put, List.setIfInBounds_toArray, List.set_cons_zero, List.set_cons_succ]; rfl
  refine mix_let (fun _ v w9 => NewB w0 25 3 v w9) ?_ (by exact Loc.const _ _) (fun i _ _ e u w w' hr h => h.keep hr.keep) ?_ ?_ ?_ ?_
  rotate_left
  · intro e; rfl
  · intro e w9 hR hF K hK; go_simp; exact hK _ _ _ (RkT.of_same ((Chg.refl _ _).alloc _)) ⟨_, rfl, Chg.size hR, _, rfl, Blk.new _ _ _⟩ (by simp only [Act.put, List.setIfInBounds_toArray, List.set_cons_zero, List.set_cons_succ])
  · intro e; simp only [Act.put, List.setIfInBounds_toArray, List.set_cons_zero, List.set_cons_succ]; rfl
  refine mix_let (fun _ v w9 => NewB w0 33 10 v w9) ?_ (by exact Loc.const _ _) (fun i _ _ e u w w' hr h => h.keep hr.keep) ?_ ?_ ?_ ?_
  rotate_left
  · intro e; rfl
  · intro e w9 hR hF K hK; go_simp; exact hK _ _ _ (RkT.of_same ((Chg.refl _ _).alloc _)) ⟨_, rfl, Chg.size hR, _, rfl, Blk.new _ _ _⟩ (by simp only [Act.put, List.setIfInBounds_toArray, List.set_cons_zero, List.set_cons_succ])
  · intro e; simp only [Act.put, List.setIfInBounds_toArray, List.set_cons_zero, List.set_cons_succ]; rfl
  refine mt_st 8 23 3 [Value.int .i64 p1, .int .i64 p2, .int .i64 p3] ?_ (by rfl) rowPt.sz HP.out.len HP.out.one (fun _ => by rfl) (fun _ => by rfl) (fun _ => by rfl) (by kernel_rfl) (fun e w h => h) (by rfl) (by intro i hi h; (repeat' split at h) <;> first | omega | (cases h; done) | exact absurd h (by decide)) ?_ ?_
  rotate_left
  · intro e; rfl
  refine mt_st 9 25 3 [Value.int .i64 s1, .int .i64 s2, .int .i64 s3] ?_ (by rfl) rowSp.sz HSp.out.len HSp.out.one (fun _ => by rfl) (fun _ => by rfl) (fun _ => by rfl) (by kernel_rfl) (fun e w h => h) (by rfl) (by intro i hi h; (repeat' split at h) <;> first | omega | (cases h; done) | exact absurd h (by decide)) ?_ ?_
  rotate_left
  · intro e; rfl
  refine mt_st 10 33 10 [Value.int .i64 7, .int .i64 a, .int .i64 b, .int .i64 c, .int .i64 d, .int .i64 e1, .int .i64 f, .int .i64 g, .int .i64 x, .int .i64 y] ?_ (by rfl) rowQry.sz HQ.out.len HQ.out.one (fun _ => by rfl) (fun _ => by rfl) (fun _ => by rfl) (by kernel_rfl) (fun e w h => h) (by rfl) (by intro i hi h; (repeat' split at h) <;> first | omega | (cases h; done) | exact absurd h (by decide)) ?_ ?_
  rotate_left
  · intro e; rfl
  refine mix_nil fun e w3 hR hF => hFin _ _ ?_
  simp only [List.drop_succ_cons, List.drop_zero]
  obtain ⟨b4, h4, hz4, hB4⟩ := (show PutB w0 23 [Value.int .i64 p1, .int .i64 p2, .int .i64 p3] (e 8) w3 from hF 11 (by decide))
  obtain ⟨b5, h5, hz5, hB5⟩ := (show PutB w0 25 [Value.int .i64 s1, .int .i64 s2, .int .i64 s3] (e 9) w3 from hF 12 (by decide))
  obtain ⟨b6, h6, hz6, hB6⟩ := (show PutB w0 33 [Value.int .i64 7, .int .i64 a, .int .i64 b, .int .i64 c, .int .i64 d, .int .i64 e1, .int .i64 f, .int .i64 g, .int .i64 x, .int .i64 y] (e 10) w3 from hF 13 (by decide))
  rw [h4, h5, h6]
  have hsm := RT.same hR
  have HB := hide (Hb.out.same hsm)
  have H4 := hide hB4
  have H5 := hide hB5
  have H6 := hide hB6
  have HS := hide (Same.trans Hs.out hsm)
  have hlb := HB.out.lt
  have hl4 := hB4.lt
  have hl5 := hB5.lt
  have hl6 := hB6.lt
  have kb0 : w3.cell? ⟨w.heap.size, 0, none⟩ = some (Value.int .i64 2) := HB.out.cell 0
  have k60 : w3.cell? ⟨b6, 0, none⟩ = some (Value.int .i64 7) := H6.out.cell 0
  have k68 : w3.cell? ⟨b6, 8, none⟩ = some (Value.int .i64 x) := H6.out.cell 8
  have k69 : w3.cell? ⟨b6, 9, none⟩ = some (Value.int .i64 y) := H6.out.cell 9
  clear hR hF hFin h4 h5 h6 hB4 hB5 hB6 hz4 hz5 hz6 hsm e Hb Hs HP HSp HQ
  go_wp2_with fail
  go_ret
  exact ⟨⟨_, rfl, rd_blk (Blk.new w3 3 #[Value.int .i64 x, .int .i64 y])⟩, HS.out.alloc _⟩
theorem nums_any (r : Rq) (w : World) (hg : goodR r = true) :
    Calls Tryz.prog 26 #[rqV r] w (NumEnd (numsR r) w) := by
  obtain ⟨k, ⟨ck, ⟨p1, p2, p3⟩, ⟨s1, s2, s3⟩⟩, ⟨qk, a, b, c, d, e1, f, g, x, y⟩⟩ := r
  have := good_cases hg
  simp only at this
  rcases this with ⟨rfl, rfl | rfl | rfl | rfl⟩ | ⟨rfl, rfl | rfl | rfl | rfl | rfl | rfl | rfl⟩
  · exact nums_1 qk p1 p2 p3 s1 s2 s3 a b c d e1 f g x y w
  · exact nums_2 qk p1 p2 p3 s1 s2 s3 a b c d e1 f g x y w
  · exact nums_3 qk p1 p2 p3 s1 s2 s3 a b c d e1 f g x y w
  · exact nums_4 qk p1 p2 p3 s1 s2 s3 a b c d e1 f g x y w
  · exact nums_11 ck p1 p2 p3 s1 s2 s3 a b c d e1 f g x y w
  · exact nums_12 ck p1 p2 p3 s1 s2 s3 a b c d e1 f g x y w
  · exact nums_13 ck p1 p2 p3 s1 s2 s3 a b c d e1 f g x y w
  · exact nums_14 ck p1 p2 p3 s1 s2 s3 a b c d e1 f g x y w
  · exact nums_15 ck p1 p2 p3 s1 s2 s3 a b c d e1 f g x y w
  · exact nums_16 ck p1 p2 p3 s1 s2 s3 a b c d e1 f g x y w
  · exact nums_17 ck p1 p2 p3 s1 s2 s3 a b c d e1 f g x y w
end Go.Proofs.YtlodanjpkjfjiaaGreatDoor
/-! HeR -/
namespace Go.Proofs.YtlodanjpkjfjiaaGreatDoor
open Go.RowKit Go.Al
set_option linter.unusedVariables false

def digs : List UInt8 := [48, 49, 50, 51, 52, 53, 54, 55, 56, 57, 97, 98, 99, 100, 101, 102]
theorem hex_take (n : Nat) (h : n < 16) : (digs.take (n + 1)).drop n = [hexD n] := by
  have : ∀ m : Fin 16, (digs.take (m.val + 1)).drop m.val = [hexD m.val] := by decide +kernel
  exact this ⟨n, h⟩
theorem hex_cut (n : Nat) (h : n < 16) (w : World) : (Instr.slice 9 (.string ⟨#[48, 49, 50, 51, 52, 53, 54, 55, 56, 57, 97, 98, 99, 100, 101, 102]⟩) (some (.int .u8 (n : Int))) (some (.int .u8 ((n : Int) + 1))) none).run Tryz.prog w = .ok (.string ⟨#[hexD n]⟩) w := by
  have e : (⟨#[48, 49, 50, 51, 52, 53, 54, 55, 56, 57, 97, 98, 99, 100, 101, 102]⟩ : ByteArray) = ⟨digs.toArray⟩ := rfl
  rw [e, run_slice_string_if _ _ _ _ _ _ _ Tryz.underlying9]
  simp only [ba_size]
  have hl : digs.length = 16 := rfl
  rw [if_pos (by rw [hl]; omega), if_pos (by omega), ba_extract]
  simp only [Int.toNat_natCast, show ((n : Int) + 1).toNat = n + 1 by omega, hex_take n h]
theorem u8_quo (y : Nat) (h : y < 256) : IntKind.u8.wrap ((y : Int) / 16) = ((y / 16 : Nat) : Int) := by
  simp [IntKind.wrap, IntKind.signed, IntKind.bits]
  omega
theorem u8_rem (y : Nat) : (y : Int).tmod 16 = ((y % 16 : Nat) : Int) := by
  rw [Int.tmod_eq_emod_of_nonneg (by omega)]
  omega
theorem u8_inc (y : Nat) (h : y < 16) : IntKind.u8.wrap ((y : Int) + 1) = (y : Int) + 1 := by
  simp [IntKind.wrap, IntKind.signed, IntKind.bits]
  omega
set_option maxRecDepth 100000 in
set_option maxHeartbeats 8000000 in
theorem rHex_any {A : Option Addr} {c : Nat} (l : List UInt8) (w : World) (h : Rd w A (bs l)) (hn : l.length ≤ 10000) :
    Calls Tryz.prog 21 #[.slice A l.length c] w fun e w' => e = .returned (strV (hexB l)) ∧ Same w w' := by
  by_cases hne : l = []
  · subst hne
    go_enter Tryz.func21, Tryz.ntmps21
    go_wp2_with fail
    go_loopg [3, 5] 0 (fun g v3 v5 wr => v3 = .string ⟨#[]⟩ ∧ v5 = .int .i64 0 ∧ w = wr)
    case atStart => exact ⟨rfl, rfl, rfl⟩
    case round =>
      obtain ⟨rfl, rfl, rfl⟩ := hrel
      go_wp2_with fail
      go_ret
      exact ⟨rfl, Chg.refl _ _⟩
  · obtain ⟨b, off, rfl, hcell⟩ := h (fun e => hne (List.map_eq_nil_iff.1 e))
    have Hcell0 : Hid (∀ i (hi : i < l.length), w.cell? ⟨b, off + i, none⟩ = some (.int .u8 ((l[i].toNat : Nat) : Int))) := hide fun i hi => hcell i _ (by unfold bs; rw [List.getElem?_map, List.getElem?_eq_getElem hi]; rfl)
    have hpos : 0 < l.length := by have := List.length_pos_iff.2 hne; exact this
    have hbw : b < w.heap.size := World.block_lt_of_cell? (a := ⟨b, off + 0, none⟩) w (Hcell0.out 0 hpos)
    have Hhx := hide (hexB_L hne)
    have hlh := hexL_len l
    have Hle := hide (fun (j : Nat) => (show (hexL (l.take j)).length = 2 * min j l.length from by rw [hexL_len, List.length_take]))
    have Htk := hide (fun (j : Nat) (hj : j < l.length) => hexL_take hj)
    have hnil : ¬ hexL l = [] := fun e => by rw [e] at hlh; simp at hlh; omega
    have Hnil := hide hnil
    have Hfull := hide (fun (j : Nat) (hj : j = l.length) => (by rw [hj, List.take_length] : l.take j = l))
    clear h hcell hne hlh hnil
    obtain ⟨n, hnn⟩ : ∃ n, l.length = n := ⟨_, rfl⟩
    rw [hnn] at hn hpos ⊢
    have Hn := hide hnn
    clear hnn
    go_enter Tryz.func21, Tryz.ntmps21
    go_wp2_with fail
    go_loopg [3, 5] n (fun g v3 v5 wr => ∃ j : Nat, j ≤ n ∧ g = n - j ∧ v5 = .int .i64 j ∧ v3 = .string ⟨(hexL (l.take j)).toArray⟩ ∧ Same w wr)
    case atStart => exact ⟨0, Nat.zero_le _, rfl, rfl, rfl, Chg.refl _ _⟩
    case round =>
      obtain ⟨j, hj, hg, rfl, rfl, hs⟩ := hrel
      have Hg := hide hg
      have Hs := hide hs
      clear hg hs
      by_cases hlt : j < n
      · have hjl : j < l.length := by rw [Hn.out]; exact hlt
        have Hcell := hide (fun (w1 : World) (h1 : Same wr w1) => (((Same.trans Hs.out h1).cell (p := ⟨b, off + j, none⟩) hbw (fun h => h)).trans (Hcell0.out j hjl)))
        have Htk1 := hide (Htk.out j hjl)
        have hy := (l[j]).toNat_lt
        generalize l[j] = c0 at *
        generalize c0.toNat = y at *
        have hy2 : y < 256 := hy
        have q1 := u8_quo y hy2
        have r1 := u8_rem y
        have a1 := u8_inc (y / 16) (by omega)
        have a2 := u8_inc (y % 16) (by omega)
        have k1 := hex_cut (y / 16) (by omega)
        have k2 := hex_cut (y % 16) (by omega)
        have hle := Hle.out j
        have s1 := bapp (hexL (l.take j)) [hexD (y / 16)]
        have s2 := bapp (hexL (l.take j) ++ [hexD (y / 16)]) [hexD (y % 16)]
        have n1 : ¬ 9223372036854775807 < (hexL (l.take j)).length + 1 := by rw [hle]; omega
        have n2 : ¬ 9223372036854775807 < (hexL (l.take j)).length + 1 + 1 := by rw [hle]; omega
        have hwk : IntKind.i64.wrap ((j : Nat) : Int) = ((j : Nat) : Int) := IntWalk.i64_in _ (by omega)
        clear hle hy hy2
        obtain ⟨d1, hd1⟩ : ∃ d, y / 16 = d := ⟨_, rfl⟩
        obtain ⟨d2, hd2⟩ : ∃ d, y % 16 = d := ⟨_, rfl⟩
        rw [hd1] at q1 a1 k1 s1 s2 Htk1
        rw [hd2] at r1 a2 k2 s2 Htk1
        clear hd1 hd2
        generalize hexL (l.take j) = S at *
        go_wp2_with fail
        refine wp_region_mixS 30 (by kernel_rfl) (by kernel_rfl) fun Fin hFin => ?_
        simp only [List.take_succ_cons, List.take_zero]
        iterate 30 (
            (refine mix_lit ?_ ?_ (fun w => Chg.refl _ w) ?_ ?_ ?_ ?_
             rotate_left; rotate_left
             · intro e w1 hR hF K hK; (have c1 := Hcell.out w1 hR); go_simp; (refine hK _ _ (Chg.refl _ _) ?_; rfl)
             · intro e; simp only [Act.put, List.setIfInBounds_toArray, List.set_cons_zero, List.set_cons_succ]; rfl
             · exact Loc.const _ _))
        refine mix_nil fun e w1 hR hF => hFin _ _ ?_
        simp only [List.drop_succ_cons, List.drop_zero]
        have HR := hide hR
        clear hR hF hFin q1 r1 a1 a2 k1 k2 s1 s2 n1 n2 hwk
        go_wp2_with fail
        go_roundg (n - (j + 1))
        case measure => have := Hg.out; omega
        case rel => exact ⟨j + 1, by omega, rfl, by go_num, by rw [Htk1.out, List.append_assoc]; rfl, Same.trans Hs.out HR.out⟩
      · have hjn : j = n := by omega
        have hfu := Hfull.out j (by rw [Hn.out]; exact hjn)
        have Hnil2 := Hnil.out
        rw [hfu]
        subst hjn
        have HX := hide (show hexB l = hexL l from Hhx.out)
        clear hfu
        generalize hexL l = S at *
        have hS : S.isEmpty = false := by simpa using Hnil2
        clear Hnil2 Hnil
        go_wp2_with fail
        go_ret
        exact ⟨by rw [HX.out]; rfl, Hs.out⟩
end Go.Proofs.YtlodanjpkjfjiaaGreatDoor
