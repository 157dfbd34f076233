/-
  trap.Value at points and intervals: a closure that hands back a row of cells of which P holds. No conditions.
-/
import Derived.Test.YtopkdiiigidfdaaGreatTrA
import Derived.Test.YtopkdiiigidfdaaGreatDgY
import Derived.Test.YtopkdiiigidfdaaGreatRw
import Derived.Shelf.Abstract
namespace Go.Proofs.YtopkdiiigidfdaaGreat
open Go.RowKit Go.Al Go.Shelf
set_option linter.unusedVariables false

/-- what a closure hands back -/
def EndD (S : Nat → Prop) (P : Nat → List Value → World → Prop) (w : World) (e : Ending) (w' : World) : Prop :=
  ∃ R : List Value, R.length = 2 ∧ (∀ u ∈ R, u.oneCell' = true) ∧ e = .returned (.agg R.toArray) ∧ P w.heap.size R w' ∧ Chg S w w'
def HeldD (P : Nat → List Value → World → Prop) (n b0 : Nat) (w : World) : Prop :=
  ∃ R : List Value, R.length = 2 ∧ (∀ u ∈ R, u.oneCell' = true) ∧ Blk w n 113 R.toArray ∧ P b0 R w
/-- what holds of a row stays when only older blocks change -/
def KeepD (P : Nat → List Value → World → Prop) : Prop := ∀ b0 R u u', P b0 R u → Chg (fun k => k < b0) u u' → P b0 R u'
def RelD (n : Nat) (a b : World) : Prop := Chg (fun k => k = n) a b ∧ (Blk a n 113 #[Value.slice none 0 0, Value.slice none 0 0] → Blk b n 113 #[Value.slice none 0 0, Value.slice none 0 0])
set_option maxRecDepth 100000 in
set_option maxHeartbeats 2000000 in
theorem value1D_ok {K : Nat} {caps : Array Value} (eK : ∀ args w, (callFunc K args).run Tryz.prog w = .ok (.enter K args) w) {S : Nat → Prop} {P : Nat → List Value → World → Prop} (hP : KeepD P) (n m : Nat) (hSn : ¬ S n) (w : World) (hm : Blk w m 178 #[.func (.func K) caps #[]]) (hn : Blk w n 113 #[Value.slice none 0 0, Value.slice none 0 0])
    (hf : Calls Tryz.prog K caps w (EndD S P w)) :
    Calls Tryz.prog 148 #[.pointer (some ⟨m, 0, none⟩), .pointer (some ⟨n, 0, none⟩)] w fun e w' => e = .returned (.tuple #[]) ∧ Chg (fun k => k = n ∨ S k) w w' ∧ HeldD P n w.heap.size w' := by
  have HF := hide hf
  have HP := hide hP
  have HSn := hide hSn
  have hk := hm.cell 0
  simp at hk
  have Hn := hide hn
  have Hnl := hide hn.lt
  clear hf hm hn hP hSn
  go_enter Tryz.func148, Tryz.ntmps148
  go_wp2_with fail
  refine HF.out.mono ?_
  rintro e w2 ⟨R, hl, h1, rfl, hp, hs⟩
  have Hl := hide hl
  have H1 := hide h1
  have Hp := hide hp
  have Hs := hide hs
  have Hn2 := hide (Hn.out.chg hs HSn.out)
  clear hl h1 hp hs hk
  go_wp2_with (first
    | (refine wpList_store_row (by rfl) 113 _ _ rfl n R.toArray rfl rfl 113 _ Hn2.out (by rw [List.size_toArray, Hl.out]; exact infoAll) (show (2 : Nat) = R.toArray.size by rw [List.size_toArray, Hl.out]) (all_oneCell_toArray H1.out) ?_)
    | fail)
  go_end0
  exact ⟨rfl, Chg.setRow (S := fun k => k = n ∨ S k) (Hs.out.mono fun _ _ h => .inr h) (.inl (.inl rfl)) _, R, Hl.out, H1.out, Blk.setRow_ Hn2.out _, HP.out _ _ _ _ Hp.out (Chg.setRow (S := fun k => k < w.heap.size) (Chg.refl _ _) (.inl Hnl.out) _)⟩
set_option maxRecDepth 100000 in
set_option maxHeartbeats 2000000 in
theorem value1D_bad {K : Nat} {caps : Array Value} (eK : ∀ args w, (callFunc K args).run Tryz.prog w = .ok (.enter K args) w) {S : Nat → Prop} (wh c : Int) (n m : Nat) (w : World) (hm : Blk w m 178 #[.func (.func K) caps #[]])
    (hf : Calls Tryz.prog K caps w fun e w' => e = .panicked (fault wh c) ∧ Chg S w w') :
    Calls Tryz.prog 148 #[.pointer (some ⟨m, 0, none⟩), .pointer (some ⟨n, 0, none⟩)] w fun e w' => e = .panicked (fault wh c) ∧ Chg S w w' := by
  have HF := hide hf
  have hk := hm.cell 0
  simp at hk
  clear hf hm
  go_enter Tryz.func148, Tryz.ntmps148
  go_wp2_with fail
  refine HF.out.mono ?_
  rintro e w2 ⟨rfl, hs⟩
  have Hs := hide hs
  clear hs hk
  go_wp2_with fail
  exact ⟨rfl, rfl, Hs.out⟩
set_option maxRecDepth 100000 in
set_option maxHeartbeats 8000000 in
theorem valueD_ok {K : Nat} {caps : Array Value} (eK : ∀ args w, (callFunc K args).run Tryz.prog w = .ok (.enter K args) w) {S : Nat → Prop} {P : Nat → List Value → World → Prop} (hP : KeepD P) (w : World) (hS : ∀ k, S k → k < w.heap.size)
    (hf : ∀ w1, Same w w1 → Calls Tryz.prog K caps w1 (EndD S P w1)) :
    Calls Tryz.prog 93 #[.func (.func K) caps #[]] w fun e w' => ∃ (R : List Value) (b0 : Nat), R.length = 2 ∧ (∀ u ∈ R, u.oneCell' = true) ∧ e = .returned (.tuple #[.agg R.toArray, .int .i64 0]) ∧ P b0 R w' ∧ w.heap.size ≤ b0 ∧ Chg S w w' := by
  have e1 : ∀ args w, (callFunc 148 args).run Tryz.prog w = .ok (.enter 148 args) w := enters_of Tryz.func148 (by kernel_rfl) rfl
  have hmf : ∀ (fn : Fn) (first cap : Array Value) (w : World), (Instr.makeFunc fn first cap).run Tryz.prog w = .ok (.func fn first cap) w := fun _ _ _ _ => rfl
  have HPk := hide hP
  have HSo := hide hS
  have hs0 : Same w (((w.alloc (.cells #[.func (.func K) caps #[]] 178)).alloc (.cells #[Value.slice none 0 0, Value.slice none 0 0] 113)).alloc (.cells #[Value.slice none 0 0, Value.slice none 0 0] 113)) := (((Chg.refl _ w).alloc _).alloc _).alloc _
  have hm := ((Blk.new w 178 #[.func (.func K) caps #[]]).alloc (.cells #[Value.slice none 0 0, Value.slice none 0 0] 113)).alloc (.cells #[Value.slice none 0 0, Value.slice none 0 0] 113)
  have hn := (Blk.new (w.alloc (.cells #[.func (.func K) caps #[]] 178)) 113 #[Value.slice none 0 0, Value.slice none 0 0]).alloc (.cells #[Value.slice none 0 0, Value.slice none 0 0] 113)
  simp only [World.size_alloc] at hn
  have hz : (((w.alloc (.cells #[.func (.func K) caps #[]] 178)).alloc (.cells #[Value.slice none 0 0, Value.slice none 0 0] 113)).alloc (.cells #[Value.slice none 0 0, Value.slice none 0 0] 113)).heap.size = w.heap.size + 3 := by simp
  have HC := hide (catch_ok (K := 148) (caps := #[.pointer (some ⟨w.heap.size, 0, none⟩), .pointer (some ⟨w.heap.size + 1, 0, none⟩)]) e1 (S := fun k => k = w.heap.size + 1 ∨ S k) (fun w1 w2 => HeldD P (w.heap.size + 1) w1.heap.size w2) _ (fun k hk => hk.elim (fun e => by omega) (fun e => by have := hS k e; omega))
    (fun w1 hs1 => (value1D_ok eK hP (w.heap.size + 1) w.heap.size (fun h7 => by have := hS _ h7; omega) w1 (hm.same hs1) (hn.same hs1) (hf w1 (Same.trans hs0 hs1)))))
  have Hs0 := hide hs0
  have Hz := hide hz
  clear hs0 hm hn hz hf hP hS
  go_enter Tryz.func93, Tryz.ntmps93
  go_wp2_with (first
    | (go_at_call 56; have hF := HC.out; refine hF.mono ?_; rintro e w4 ⟨rfl, w1, w2, hs1, hc2, hq, hc4⟩; have hb4 : HeldD P (w.heap.size + 1) w1.heap.size w2 := hq; obtain ⟨R, hl, h1, hb, hp⟩ := hb4; have Hl := hide hl; have H1 := hide h1; have Hp4 := hide (HPk.out _ _ _ _ hp (hc4.mono fun k _ hk => hk.2)); have Hb4 := hide (hb.chg hc4 (fun e => by have := Hz.out; omega)); have Hw1 := hide (show w.heap.size + 3 ≤ w1.heap.size by have h7 := hs1.size; have := Hz.out; omega); have Hs4 : Hid (Chg S w w4) := hide (((Same.trans Hs0.out hs1).to.trans hc2 (fun k hk e => e.elim (fun e => (by omega)) id)).trans hc4 (fun k hk e => (by have := Hz.out; omega))); clear hs1 hc2 hq hc4 hb hl h1 hp hF; have hra : (w4.alloc (.cells #[.int .i64 0, .int .i64 0] 87)).rangeAt (w.heap.size + 1) 0 R := fun j v hv => (by rw [Nat.zero_add, (Hb4.out.alloc _).cell]; simpa using hv); have Hra := hide hra; clear hra)
    | (refine wpList_ld (by rfl) 113 _ rfl (w.heap.size + 1) 0 rfl R _ Hra.out Tryz.underlying113 rfl (by rw [Hl.out]; exact infoAll) ?_)
    | (refine wpList_store_row (by rfl) 113 _ _ rfl (w.heap.size + 1) R.toArray rfl rfl 113 _ (Hb4.out.alloc _) (by rw [List.size_toArray, Hl.out]; exact infoAll) (by rw [List.size_toArray]) (all_oneCell_toArray H1.out) ?_)
    | fail)
  have Hb9 := Blk.setRow_ (Hb4.out.alloc (.cells #[.int .i64 0, .int .i64 0] 87)) R.toArray
  refine bodyPost_ret (results_cell2 rfl rfl Hb9 Tryz.underlying113 rfl (by rw [List.size_toArray, Hl.out]; exact infoAll)) rfl ?_
  refine ⟨R, w1.heap.size, Hl.out, H1.out, rfl, ?_, by have := Hw1.out; omega, Chg.setRow (Hs4.out.alloc _) (.inr (by show w.heap.size ≤ w.heap.size + 1; omega)) _⟩
  exact HPk.out _ _ _ _ Hp4.out (Chg.setRow (S := fun k => k < w1.heap.size) ((Chg.refl _ _).alloc _) (.inl (by have := Hw1.out; omega)) _)
set_option maxRecDepth 100000 in
set_option maxHeartbeats 8000000 in
theorem valueD_bad {K : Nat} {caps : Array Value} (eK : ∀ args w, (callFunc K args).run Tryz.prog w = .ok (.enter K args) w) {S : Nat → Prop} (wh c : Int) (w : World) (hS : ∀ k, S k → k < w.heap.size)
    (hf : ∀ w1, Same w w1 → Calls Tryz.prog K caps w1 fun e w2 => e = .panicked (fault wh c) ∧ Chg S w1 w2) :
    Calls Tryz.prog 93 #[.func (.func K) caps #[]] w fun e w' => e = .returned (.tuple #[.agg #[Value.slice none 0 0, Value.slice none 0 0], .int .i64 c]) ∧ Chg S w w' := by
  have e1 : ∀ args w, (callFunc 148 args).run Tryz.prog w = .ok (.enter 148 args) w := enters_of Tryz.func148 (by kernel_rfl) rfl
  have hmf : ∀ (fn : Fn) (first cap : Array Value) (w : World), (Instr.makeFunc fn first cap).run Tryz.prog w = .ok (.func fn first cap) w := fun _ _ _ _ => rfl
  have hs0 : Same w (((w.alloc (.cells #[.func (.func K) caps #[]] 178)).alloc (.cells #[Value.slice none 0 0, Value.slice none 0 0] 113)).alloc (.cells #[Value.slice none 0 0, Value.slice none 0 0] 113)) := (((Chg.refl _ w).alloc _).alloc _).alloc _
  have hm := ((Blk.new w 178 #[.func (.func K) caps #[]]).alloc (.cells #[Value.slice none 0 0, Value.slice none 0 0] 113)).alloc (.cells #[Value.slice none 0 0, Value.slice none 0 0] 113)
  have hn := (Blk.new (w.alloc (.cells #[.func (.func K) caps #[]] 178)) 113 #[Value.slice none 0 0, Value.slice none 0 0]).alloc (.cells #[Value.slice none 0 0, Value.slice none 0 0] 113)
  have ho := Blk.new ((w.alloc (.cells #[.func (.func K) caps #[]] 178)).alloc (.cells #[Value.slice none 0 0, Value.slice none 0 0] 113)) 113 #[Value.slice none 0 0, Value.slice none 0 0]
  simp only [World.size_alloc] at hn ho
  have hz : (((w.alloc (.cells #[.func (.func K) caps #[]] 178)).alloc (.cells #[Value.slice none 0 0, Value.slice none 0 0] 113)).alloc (.cells #[Value.slice none 0 0, Value.slice none 0 0] 113)).heap.size = w.heap.size + 3 := by simp
  have HC := hide (catch_bad (K := 148) (caps := #[.pointer (some ⟨w.heap.size, 0, none⟩), .pointer (some ⟨w.heap.size + 1, 0, none⟩)]) e1 (S := S) (fun w1 w2 => True) wh c _ (fun k hk => by have := hS k hk; omega)
    (fun w1 hs1 => (value1D_bad eK wh c (w.heap.size + 1) w.heap.size w1 (hm.same hs1) (hf w1 (Same.trans hs0 hs1))).mono fun e w2 h => ⟨h.1, h.2, trivial⟩))
  have Hs0 := hide hs0
  have Hn := hide hn
  have Ho := hide ho
  have HSo := hide hS
  have Hz := hide hz
  clear hs0 hm hn ho hz hf hS
  go_enter Tryz.func93, Tryz.ntmps93
  go_wp2_with (first
    | (go_at_call 56; have hF := HC.out; refine hF.mono ?_; rintro e w4 ⟨rfl, w1, w2, hs1, hc2, _, hc4⟩; have Hb5 := hide (((Hn.out.same hs1).chg hc2 (fun h7 => by have := HSo.out _ h7; omega)).chg hc4 (fun e => by have := Hz.out; omega)); have Ho5 := hide (((Ho.out.same hs1).chg hc2 (fun h7 => by have := HSo.out _ h7; omega)).chg hc4 (fun e => by have := Hz.out; omega)); have Hs4 : Hid (Chg S w w4) := hide (((Same.trans Hs0.out hs1).to.trans hc2 (fun k hk e => e)).trans hc4 (fun k hk e => (by have := Hz.out; omega))); have Hw4 := hide (show w.heap.size + 3 ≤ w4.heap.size by have h7 := hs1.size; have h8 := hc2.size; have h9 := hc4.size; have := Hz.out; omega); clear hs1 hc2 hc4 hF)
    | fail)
  have HkF := hide ((Blk.new w4 87 #[.int .i64 wh, .int .i64 c]).cell 1)
  have hra : (w4.alloc (.cells #[.int .i64 wh, .int .i64 c] 87)).rangeAt (w.heap.size + 2) 0 [Value.slice none 0 0, Value.slice none 0 0] := fun j v hv => by
    rw [Nat.zero_add, (Ho5.out.alloc _).cell]
    simpa using hv
  have Hra := hide hra
  clear hra
  refine wp_region_mix (RelD (w.heap.size + 1)) (fun _ => RelD (w.heap.size + 1)) 4 (fun _ _ _ h => h) (fun _ w => ⟨Chg.refl _ w, id⟩) (fun _ _ _ h h' => ⟨Chg.trans h.1 h'.1 (fun _ _ h => h), fun hb => h'.2 (h.2 hb)⟩) ⟨(Chg.refl _ _).drew, fun hb => hb.drew⟩ (by kernel_rfl) (by kernel_rfl) ?_
  simp only [List.take_succ_cons, List.take_zero]
  refine mix_ld [Value.slice none 0 0, Value.slice none 0 0] ?_ (fun w => ⟨Chg.refl _ w, id⟩) (fun _ => by kernel_rfl) 113 _ rfl (w.heap.size + 2) 0 (fun _ => by kernel_rfl) _ (fun w1 hR => rangeAt_chg Hra.out hR.1 (by show ¬ w.heap.size + 2 = w.heap.size + 1; omega)) Tryz.underlying113 rfl infoAll ?_ ?_
  rotate_left
  · intro e; simp only [Act.put, List.setIfInBounds_toArray, List.set_cons_zero, List.set_cons_succ]; rfl
  iterate 2 (
      (refine mix_lit ?_ ?_ (fun w => ⟨Chg.refl _ w, id⟩) ?_ ?_ ?_ ?_
       rotate_left; rotate_left
       · intro e w1 hR hF K hK; have hkF1 := ((Blk.new w4 87 #[.int .i64 wh, .int .i64 c]).chg hR.1 (by have := Hw4.out; show ¬ w4.heap.size = w.heap.size + 1; omega)).cell 1; simp at hkF1; go_simp; (refine hK _ _ ⟨Chg.refl _ _, id⟩ ?_; rfl)
       · intro e; simp only [Act.put, List.setIfInBounds_toArray, List.set_cons_zero, List.set_cons_succ]; rfl
       · exact Loc.const _ _))
  refine mix_lit (fun _ => undef) ?_ (fun w => ⟨Chg.refl _ w, id⟩) ?_ ?_ ?_ ?_
  rotate_left
  · intro e w1 hR hF K hK
    split
    · refine wp_store_row 113 _ _ rfl (w.heap.size + 1) #[Value.slice none 0 0, Value.slice none 0 0] rfl rfl 113 #[Value.slice none 0 0, Value.slice none 0 0] (hR.2 (Hb5.out.alloc _)) infoAll rfl (all_oneCell_toArray (cs := [Value.slice none 0 0, Value.slice none 0 0]) (by simp [Value.oneCell'])) ?_
      refine hK _ _ ⟨Chg.setRow (S := fun k => k = w.heap.size + 1) (Chg.refl _ _) (.inl rfl) _, fun hb => Blk.setRow_ hb _⟩ ?_
      rfl
    · rename_i hn
      exact absurd (by kernel_rfl) hn
  · intro e; first | rfl | (simp only [Act.put])
  · exact Loc.const _ _
  refine mix_nil fun e w5 hR hF => ?_
  simp only [List.drop_succ_cons, List.drop_zero]
  have HB9 := hide (hR.2 (Hb5.out.alloc _))
  have HS9 : Hid (Chg S w w5) := hide (Chg.trans (Hs4.out.alloc _) hR.1 (fun k hk e => by have e' : k = w.heap.size + 1 := e; omega))
  clear hF hR
  go_wp2_with fail
  refine bodyPost_ret (results_cell2 rfl rfl HB9.out Tryz.underlying113 rfl infoAll) rfl ?_
  exact ⟨rfl, HS9.out⟩
end Go.Proofs.YtopkdiiigidfdaaGreat
