/-
  codec.kind: the request that a byte names. No conditions.
-/
import Derived.Test.YtlodanjpkjfjiaaGreatDoorCdF
import Derived.Test.YtlodanjpkjfjiaaGreatDoorStA
namespace Go.Proofs.YtlodanjpkjfjiaaGreatDoor
open Go.RowKit Go.Al
set_option linter.unusedVariables false

theorem Chg.setRow {S : Nat → Prop} {a w : World} {g : Nat} (h : Chg S a w) (hg : S g ∨ a.heap.size ≤ g) (cs : Array Value) : Chg S a (w.setRow g cs) :=
  ⟨h.os, h.tape, h.output, by rw [setRow_size]; exact h.size, fun k hk => by rw [ty_setRow]; exact h.tys k hk, fun k hk hn => by
    have hne : k ≠ g := fun e => by
      subst e
      rcases hg with h | h
      · exact hn h
      · omega
    rw [setRow_other _ _ _ _ hne]
    exact h.block k hk hn⟩
theorem Blk.setRow_ {w : World} {g : Nat} {t : TypeId} {cs : Array Value} (h : Blk w g t cs) (cs' : Array Value) : Blk (w.setRow g cs') g t cs' := setRow_heap w g cs cs' t (0, 0) h
theorem Blk.setRow_ne {w : World} {g g' : Nat} {t : TypeId} {cs : Array Value} (h : Blk w g t cs) (hne : g ≠ g') (cs' : Array Value) : Blk (w.setRow g' cs') g t cs := (setRow_other w g' g cs' hne).trans h
theorem one_rqL (r : Rq) : ∀ u ∈ rqL r, u.oneCell' = true := by
  intro u hu
  simp only [rqL, cgL, qL, List.cons_append, List.nil_append, List.mem_cons, List.not_mem_nil, or_false] at hu
  rcases hu with h | h | h | h | h | h | h | h | h | h | h | h | h | h | h | h | h | h <;> (subst h; rfl)
/-- the request that a byte names, without numbers -/
def bareK (c : Nat) : Rq := if c ≤ 16 then ⟨1, ⟨c, z3', z3'⟩, qy0⟩ else ⟨2, cg0, ⟨(c : Int) - 16, 0, 0, 0, 0, 0, 0, 0, 0, 0⟩⟩
set_option maxRecDepth 100000 in
set_option maxHeartbeats 8000000 in
theorem kind_ok (c : Nat) (w : World) (hc : c < 256) (hg : goodR (bareK c) = true) :
    Calls Tryz.prog 116 #[.int .u8 (c : Int)] w fun e w' => e = .returned (rqV (bareK c)) ∧ Same w w' := by
  unfold bareK at *
  by_cases h16 : c ≤ 16
  · rw [if_pos h16] at *
    have HG := hide (good_req ⟨1, ⟨(c : Int), z3', z3'⟩, qy0⟩)
    rw [hg] at HG
    have h16' : ¬ (16 : Int) < (c : Int) := by omega
    have hz := Blk.new w 35 (rqL rqz).toArray
    have hb1 := Blk.new (w.alloc (.cells (rqL rqz).toArray 35)) 35 (rqL ⟨1, ⟨(c : Int), z3', z3'⟩, qy0⟩).toArray
    have hz1 := hz.alloc (.cells (rqL ⟨1, ⟨(c : Int), z3', z3'⟩, qy0⟩).toArray 35)
    have hs1 := ((Chg.refl (fun _ => False) w).alloc (.cells (rqL rqz).toArray 35)).alloc (.cells (rqL ⟨1, ⟨(c : Int), z3', z3'⟩, qy0⟩).toArray 35)
    simp only [World.size_alloc] at hb1
    have Hb1 := hide hb1
    have Hz1 := hide hz1
    have Hs1 := hide hs1
    have hra : ∀ w', Same ((w.alloc (.cells (rqL rqz).toArray 35)).alloc (.cells (rqL ⟨1, ⟨(c : Int), z3', z3'⟩, qy0⟩).toArray 35)) w' → w'.rangeAt (w.heap.size + 1) 0 (rqL ⟨1, ⟨(c : Int), z3', z3'⟩, qy0⟩) := fun w' hs j v hv => by
      rw [Nat.zero_add, (hb1.same hs).cell]
      simpa using hv
    have Hra := hide hra
    clear hz hb1 hz1 hs1 hra hg h16
    unfold rqV at HG ⊢
    simp only [rqL, cgL, qL, z3', qy0, cg0, rqz, List.cons_append, List.nil_append] at HG Hb1 Hz1 Hs1 Hra ⊢
    go_enter Tryz.func116, Tryz.ntmps116
    go_wp2_with (first
      | (refine wpList_ld (by rfl) 35 _ rfl (w.heap.size + 1) 0 rfl _ _ (Hra.out _ (Chg.refl _ _)) Tryz.underlying35 rfl infoRqE ?_)
      | (go_at_call 66; (refine (HG.out _).mono ?_); rintro e w2 ⟨rfl, hs2⟩; have Hs2 := hide hs2; have Hz2 := hide (Hz1.out.same hs2); clear hs2)
      | (refine wpList_ld (by rfl) 35 _ rfl (w.heap.size + 1) 0 rfl _ _ (Hra.out _ Hs2.out) Tryz.underlying35 rfl infoRqE ?_)
      | (refine wpList_store_row (by rfl) 35 _ _ rfl w.heap.size _ rfl rfl 35 _ Hz2.out (by kernel_rfl) rfl (all_oneCell_toArray (one_rqL ⟨1, ⟨(c : Int), z3', z3'⟩, qy0⟩)) ?_)
      | fail)
    refine bodyPost_ret (results_cell_row rfl _ _ _ _ _ _ _ rfl (Blk.setRow_ Hz2.out _) Tryz.underlying35 rfl (by kernel_rfl)) (by rfl) (show _ ∧ _ from ⟨rfl, ?_⟩)
    exact Chg.setRow (Same.trans Hs1.out Hs2.out) (.inr (Nat.le_refl _)) _
  · rw [if_neg h16] at *
    have HG := hide (good_req ⟨2, cg0, ⟨(c : Int) - 16, 0, 0, 0, 0, 0, 0, 0, 0, 0⟩⟩)
    rw [hg] at HG
    have h16' : (16 : Int) < (c : Int) := by omega
    have hsub : IntKind.i64.wrap ((c : Int) - 16) = (c : Int) - 16 := by simp [IntKind.wrap, IntKind.signed, IntKind.bits]; omega
    have hz := Blk.new w 35 (rqL rqz).toArray
    have hb1 := Blk.new (w.alloc (.cells (rqL rqz).toArray 35)) 35 (rqL ⟨1, ⟨(c : Int), z3', z3'⟩, qy0⟩).toArray
    have hz1 := hz.alloc (.cells (rqL ⟨1, ⟨(c : Int), z3', z3'⟩, qy0⟩).toArray 35)
    have hs1 := ((Chg.refl (fun _ => False) w).alloc (.cells (rqL rqz).toArray 35)).alloc (.cells (rqL ⟨1, ⟨(c : Int), z3', z3'⟩, qy0⟩).toArray 35)
    simp only [World.size_alloc] at hb1
    have hb1' := Blk.setRow_ hb1 (rqL ⟨2, cg0, ⟨(c : Int) - 16, 0, 0, 0, 0, 0, 0, 0, 0, 0⟩⟩).toArray
    have hz1' := Blk.setRow_ne hz1 (g' := w.heap.size + 1) (by omega) (rqL ⟨2, cg0, ⟨(c : Int) - 16, 0, 0, 0, 0, 0, 0, 0, 0, 0⟩⟩).toArray
    have hs1' := Chg.setRow hs1 (g := w.heap.size + 1) (.inr (by omega)) (rqL ⟨2, cg0, ⟨(c : Int) - 16, 0, 0, 0, 0, 0, 0, 0, 0, 0⟩⟩).toArray
    have Hb0 := hide hb1
    have Hb1 := hide hb1'
    have Hz1 := hide hz1'
    have Hs1 := hide hs1'
    have hra : ∀ w', Same (((w.alloc (.cells (rqL rqz).toArray 35)).alloc (.cells (rqL ⟨1, ⟨(c : Int), z3', z3'⟩, qy0⟩).toArray 35)).setRow (w.heap.size + 1) (rqL ⟨2, cg0, ⟨(c : Int) - 16, 0, 0, 0, 0, 0, 0, 0, 0, 0⟩⟩).toArray) w' → w'.rangeAt (w.heap.size + 1) 0 (rqL ⟨2, cg0, ⟨(c : Int) - 16, 0, 0, 0, 0, 0, 0, 0, 0, 0⟩⟩) := fun w' hs j v hv => by
      rw [Nat.zero_add, (hb1'.same hs).cell]
      simpa using hv
    have Hra := hide hra
    clear hz hb1 hz1 hs1 hra hg h16 hb1' hz1' hs1'
    unfold rqV at HG ⊢
    simp only [rqL, cgL, qL, z3', qy0, cg0, rqz, List.cons_append, List.nil_append] at HG Hb1 Hz1 Hs1 Hra Hb0 ⊢
    go_enter Tryz.func116, Tryz.ntmps116
    go_wp2_with (first
      | (refine wpList_store_row (by rfl) 35 _ _ rfl (w.heap.size + 1) _ rfl rfl 35 _ Hb0.out (by kernel_rfl) rfl (all_oneCell_toArray (one_rqL ⟨2, cg0, ⟨(c : Int) - 16, 0, 0, 0, 0, 0, 0, 0, 0, 0⟩⟩)) ?_)
      | (refine wpList_ld (by rfl) 35 _ rfl (w.heap.size + 1) 0 rfl _ _ (Hra.out _ (Chg.refl _ _)) Tryz.underlying35 rfl infoRqE ?_)
      | (go_at_call 66; (refine (HG.out _).mono ?_); rintro e w2 ⟨rfl, hs2⟩; have Hs2 := hide hs2; have Hz2 := hide (Hz1.out.same hs2); clear hs2)
      | (refine wpList_ld (by rfl) 35 _ rfl (w.heap.size + 1) 0 rfl _ _ (Hra.out _ Hs2.out) Tryz.underlying35 rfl infoRqE ?_)
      | (refine wpList_store_row (by rfl) 35 _ _ rfl w.heap.size _ rfl rfl 35 _ Hz2.out (by kernel_rfl) rfl (all_oneCell_toArray (one_rqL ⟨2, cg0, ⟨(c : Int) - 16, 0, 0, 0, 0, 0, 0, 0, 0, 0⟩⟩)) ?_)
      | fail)
    refine bodyPost_ret (results_cell_row rfl _ _ _ _ _ _ _ rfl (Blk.setRow_ Hz2.out _) Tryz.underlying35 rfl (by kernel_rfl)) (by rfl) (show _ ∧ _ from ⟨rfl, ?_⟩)
    exact Chg.setRow (Same.trans Hs1.out Hs2.out) (.inr (Nat.le_refl _)) _
end Go.Proofs.YtlodanjpkjfjiaaGreatDoor
