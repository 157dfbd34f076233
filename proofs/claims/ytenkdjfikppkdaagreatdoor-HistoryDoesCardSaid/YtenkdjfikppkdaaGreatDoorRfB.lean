/-
  The document's own words: the reply to a query. No conditions but on lists' lengths.
-/
import Derived.Test.YtenkdjfikppkdaaGreatDoorRfI
import Derived.Test.YtenkdjfikppkdaaGreatDoorHsA
namespace Go.Proofs.YtenkdjfikppkdaaGreatDoor
open Go.RowKit Go.Al
set_option linter.unusedVariables false

def toldL (q : Qy) (N : Int) (A : Option Addr) (n c : Nat) (E : Int) : List Value :=
  if E = 0 then (if countsB q then [.int .i64 0, .bool true, .bool false, .int .i64 N, .slice none 0 0] else [.int .i64 0, .bool true, .bool true, .int .i64 N, .slice A n c]) else [.int .i64 E, .bool false, .bool false, .int .i64 0, .slice none 0 0]
theorem infoQ : (Tryz.prog.info? 36).map (·.size) = some 10 := by kernel_rfl
set_option maxRecDepth 100000 in
set_option maxHeartbeats 8000000 in
theorem toldRf_any {A : Option Addr} {n c : Nat} (q : Qy) (N E : Int) (w : World) :
    Calls Tryz.prog 32 #[qV q, .agg #[.int .i64 N, .slice A n c], .int .i64 E] w fun e w' => e = .returned (.agg (toldL q N A n c E).toArray) ∧ Same w w' := by
  have HC := hide (countsRf_any q)
  have hq := ((Blk.new w 36 (qL q).toArray).alloc (.cells #[.int .i64 N, .slice A n c] 42)).alloc (.cells #[.int .i64 0, .bool false, .bool false, .int .i64 0, .slice none 0 0] 44)
  have ha := (Blk.new (w.alloc (.cells (qL q).toArray 36)) 42 #[.int .i64 N, .slice A n c]).alloc (.cells #[.int .i64 0, .bool false, .bool false, .int .i64 0, .slice none 0 0] 44)
  have hb := Blk.new ((w.alloc (.cells (qL q).toArray 36)).alloc (.cells #[.int .i64 N, .slice A n c] 42)) 44 #[.int .i64 0, .bool false, .bool false, .int .i64 0, .slice none 0 0]
  have hs := (((Chg.refl (fun _ => False) w).alloc (.cells (qL q).toArray 36)).alloc (.cells #[.int .i64 N, .slice A n c] 42)).alloc (.cells #[.int .i64 0, .bool false, .bool false, .int .i64 0, .slice none 0 0] 44)
  simp only [World.size_alloc] at ha hb
  have hra : (((w.alloc (.cells (qL q).toArray 36)).alloc (.cells #[.int .i64 N, .slice A n c] 42)).alloc (.cells #[.int .i64 0, .bool false, .bool false, .int .i64 0, .slice none 0 0] 44)).rangeAt w.heap.size 0 (qL q) := fun j v hv => by rw [Nat.zero_add, hq.cell]; simpa using hv
  have Hra := hide hra
  have Ha := hide ha
  have Hb := hide hb
  have Hs := hide hs
  clear hra ha hb hs hq
  have Hlr := hide (qL_length q)
  obtain ⟨cb, hcb⟩ : ∃ cb, countsB q = cb := ⟨_, rfl⟩
  unfold toldL
  rw [hcb] at HC ⊢
  unfold qV at HC ⊢
  clear hcb
  generalize qL q = L at *
  by_cases hE : E = 0
  · subst hE
    rw [if_pos rfl]
    cases cb
    · rw [if_neg (by decide)]
      go_enter Tryz.func32, Tryz.ntmps32
      go_wp2_with (first
        | (refine wpList_ld (by rfl) 36 _ rfl w.heap.size 0 rfl L _ Hra.out Tryz.underlying36 rfl (by rw [Hlr.out]; exact infoQ) ?_)
        | (go_at_call 63; have hF := HC.out; refine (hF _).mono ?_; rintro e w2 ⟨rfl, hs⟩; have hk2 := (Hb.out.same hs).cell; have hf2 := (Hb.out.same hs).frozen; have Hb2 := hide (Hb.out.same hs); have hz2 := (Ha.out.same hs).cell; have Hs2 := hide (Same.trans Hs.out hs); clear hs hF))
      have hb9 := Blk.put5 (Hb2.out) (.int .i64 0) (.bool true) (.bool true) (.int .i64 N) (.slice A n c)
      exact bodyPost_ret (results_cell_row rfl _ _ _ _ _ _ _ rfl hb9 Tryz.underlying44 rfl (by kernel_rfl)) rfl ⟨rfl, Chg.fresh (Chg.put5 (S := fun k => w.heap.size ≤ k) (Same.to Hs2.out) (.inl (by show w.heap.size ≤ w.heap.size + 1 + 1; omega)) (.int .i64 0) (.bool true) (.bool true) (.int .i64 N) (.slice A n c)) fun _ h => h⟩
    · rw [if_pos rfl]
      go_enter Tryz.func32, Tryz.ntmps32
      go_wp2_with (first
        | (refine wpList_ld (by rfl) 36 _ rfl w.heap.size 0 rfl L _ Hra.out Tryz.underlying36 rfl (by rw [Hlr.out]; exact infoQ) ?_)
        | (go_at_call 63; have hF := HC.out; refine (hF _).mono ?_; rintro e w2 ⟨rfl, hs⟩; have hk2 := (Hb.out.same hs).cell; have hf2 := (Hb.out.same hs).frozen; have Hb2 := hide (Hb.out.same hs); have hz2 := (Ha.out.same hs).cell; have Hs2 := hide (Same.trans Hs.out hs); clear hs hF))
      have hb9 := Blk.put5 (Hb2.out) (.int .i64 0) (.bool true) (.bool false) (.int .i64 N) (.slice none 0 0)
      exact bodyPost_ret (results_cell_row rfl _ _ _ _ _ _ _ rfl hb9 Tryz.underlying44 rfl (by kernel_rfl)) rfl ⟨rfl, Chg.fresh (Chg.put5 (S := fun k => w.heap.size ≤ k) (Same.to Hs2.out) (.inl (by show w.heap.size ≤ w.heap.size + 1 + 1; omega)) (.int .i64 0) (.bool true) (.bool false) (.int .i64 N) (.slice none 0 0)) fun _ h => h⟩
  · rw [if_neg hE]
    have hEb : (E != 0) = true := by simp [hE]
    go_enter Tryz.func32, Tryz.ntmps32
    go_wp2_with (first
      | (refine wpList_ld (by rfl) 36 _ rfl w.heap.size 0 rfl L _ Hra.out Tryz.underlying36 rfl (by rw [Hlr.out]; exact infoQ) ?_)
      | (go_at_call 63; have hF := HC.out; refine (hF _).mono ?_; rintro e w2 ⟨rfl, hs⟩; have hk2 := (Hb.out.same hs).cell; have hf2 := (Hb.out.same hs).frozen; have Hb2 := hide (Hb.out.same hs); have hz2 := (Ha.out.same hs).cell; have Hs2 := hide (Same.trans Hs.out hs); clear hs hF))
    exact bodyPost_ret (results_cell_row rfl _ _ _ _ _ _ _ (by simp) (Blk.new ((w.alloc (.cells L.toArray 36)).alloc (.cells #[.int .i64 N, .slice A n c] 42)) 44 #[.int .i64 E, .bool false, .bool false, .int .i64 0, .slice none 0 0]) Tryz.underlying44 rfl (by kernel_rfl)) rfl ⟨rfl, (((Chg.refl (fun _ => False) w).alloc (.cells L.toArray 36)).alloc (.cells #[.int .i64 N, .slice A n c] 42)).alloc (.cells #[.int .i64 E, .bool false, .bool false, .int .i64 0, .slice none 0 0] 44)⟩
end Go.Proofs.YtenkdjfikppkdaaGreatDoor
