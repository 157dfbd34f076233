/-
  A function value with arguments of its own that is caught: what is told. No conditions but those that are named.
-/
import Derived.Test.YthjnecicagmdeaaGreatTrA
namespace Go.Proofs.YthjnecicagmdeaaGreat
open Go.RowKit Go.Al
set_option linter.unusedVariables false

set_option maxRecDepth 100000 in
set_option maxHeartbeats 1000000 in
theorem catchG_ok {K : Nat} {fs caps : Array Value} (eK : ∀ args w, (callFunc K args).run Tryz.prog w = .ok (.enter K args) w) {S : Nat → Prop} (Q : World → World → Prop) (w : World) (hS : ∀ k, S k → k < w.heap.size)
    (hf : ∀ w1, Same w w1 → Calls Tryz.prog K (fs ++ caps) w1 fun e w2 => e = .returned (.tuple #[]) ∧ Chg S w1 w2 ∧ Q w1 w2) :
    Calls Tryz.prog 323 #[.func (.func K) fs caps] w fun e w' => e = .returned (.tuple #[.agg #[.int .i64 0, .int .i64 0], .bool false]) ∧ ∃ w1 w2, Same w w1 ∧ Chg S w1 w2 ∧ Q w1 w2 ∧ Chg (fun k => w.heap.size ≤ k ∧ k < w1.heap.size) w2 w' := by
  have HF := hide hf
  have HS := hide hS
  clear hf hS
  have hmf : ∀ (fn : Fn) (first cap : Array Value) (w : World), (Instr.makeFunc fn first cap).run Tryz.prog w = .ok (.func fn first cap) w := fun _ _ _ _ => rfl
  go_enter_defers Tryz.func323, Tryz.ntmps323
  go_wp2_with fail
  have hs1 : Same w ((w.alloc (.cells #[.int .i64 0, .int .i64 0] 375)).alloc (.cells #[.bool false] 4)) := ((Chg.refl _ w).alloc _).alloc _
  have hb1 := (Blk.new w 375 #[.int .i64 0, .int .i64 0]).alloc (.cells #[.bool false] 4)
  have hb2 := Blk.new (w.alloc (.cells #[.int .i64 0, .int .i64 0] 375)) 4 #[.bool false]
  have hz : ((w.alloc (.cells #[.int .i64 0, .int .i64 0] 375)).alloc (.cells #[.bool false] 4)).heap.size = w.heap.size + 2 := by simp
  simp only [World.size_alloc] at hb2
  have Hs1 := hide hs1
  have Hb1 := hide hb1
  have Hb2 := hide hb2
  have Hz := hide hz
  clear hs1 hb1 hb2 hz
  have h0 := HF.out _ Hs1.out
  first
    | refine h0.mono ?_
    | (rw [Array.append_empty]; refine h0.mono ?_)
  rintro e w2 ⟨rfl, hc, hq⟩
  have Hc := hide hc
  have Hq := hide hq
  have HB1 := hide (Hb1.out.chg hc fun h => by have := HS.out _ h; omega)
  have HB2 := hide (Hb2.out.chg hc fun h => by have := HS.out _ h; omega)
  clear hc hq
  go_wp2_with fail
  refine leaves_cons (f := 332) (args := #[.pointer (some ⟨w.heap.size, 0, none⟩), .pointer (some ⟨w.heap.size + 1, 0, none⟩)]) (by simp) (by simp [go_sem]) ?_
  refine (catch1_ok _ _ _ HB1.out HB2.out (by omega)).mono ?_
  rintro e u w3 ⟨rfl, rfl, h1, h2, h3⟩
  have hd := h2.cell 0
  simp at hd
  refine ⟨_, results_cc rfl rfl h1 Tryz.underlying375 rfl (by kernel_rfl) rfl (v2 := .bool false) (by simp [go_sem, hd]), rfl, _, w2, Hs1.out, Hc.out, Hq.out, h3.mono fun k _ hk => ?_⟩
  have := Hz.out
  omega

set_option maxRecDepth 100000 in
set_option maxHeartbeats 1000000 in
theorem catchG_bad {K : Nat} {fs caps : Array Value} (eK : ∀ args w, (callFunc K args).run Tryz.prog w = .ok (.enter K args) w) {S : Nat → Prop} (Q : World → World → Prop) (wh c : Int) (w : World) (hS : ∀ k, S k → k < w.heap.size)
    (hf : ∀ w1, Same w w1 → Calls Tryz.prog K (fs ++ caps) w1 fun e w2 => e = .panicked (fault wh c) ∧ Chg S w1 w2 ∧ Q w1 w2) :
    Calls Tryz.prog 323 #[.func (.func K) fs caps] w fun e w' => e = .returned (.tuple #[.agg #[.int .i64 wh, .int .i64 c], .bool true]) ∧ ∃ w1 w2, Same w w1 ∧ Chg S w1 w2 ∧ Q w1 w2 ∧ Chg (fun k => w.heap.size ≤ k ∧ k < w1.heap.size) w2 w' := by
  have HF := hide hf
  have HS := hide hS
  clear hf hS
  have hmf : ∀ (fn : Fn) (first cap : Array Value) (w : World), (Instr.makeFunc fn first cap).run Tryz.prog w = .ok (.func fn first cap) w := fun _ _ _ _ => rfl
  go_enter_defers Tryz.func323, Tryz.ntmps323
  go_wp2_with fail
  have hs1 : Same w ((w.alloc (.cells #[.int .i64 0, .int .i64 0] 375)).alloc (.cells #[.bool false] 4)) := ((Chg.refl _ w).alloc _).alloc _
  have hb1 := (Blk.new w 375 #[.int .i64 0, .int .i64 0]).alloc (.cells #[.bool false] 4)
  have hb2 := Blk.new (w.alloc (.cells #[.int .i64 0, .int .i64 0] 375)) 4 #[.bool false]
  have hz : ((w.alloc (.cells #[.int .i64 0, .int .i64 0] 375)).alloc (.cells #[.bool false] 4)).heap.size = w.heap.size + 2 := by simp
  simp only [World.size_alloc] at hb2
  have Hs1 := hide hs1
  have Hb1 := hide hb1
  have Hb2 := hide hb2
  have Hz := hide hz
  clear hs1 hb1 hb2 hz
  have h0 := HF.out _ Hs1.out
  first
    | refine h0.mono ?_
    | (rw [Array.append_empty]; refine h0.mono ?_)
  rintro e w2 ⟨rfl, hc, hq⟩
  have Hc := hide hc
  have Hq := hide hq
  have HB1 := hide (Hb1.out.chg hc fun h => by have := HS.out _ h; omega)
  have HB2 := hide (Hb2.out.chg hc fun h => by have := HS.out _ h; omega)
  clear hc hq
  go_wp2_with fail
  refine leaves_cons (f := 332) (args := #[.pointer (some ⟨w.heap.size, 0, none⟩), .pointer (some ⟨w.heap.size + 1, 0, none⟩)]) (by simp) (by simp [go_sem]) ?_
  refine (catch1_bad wh c _ _ _ HB1.out HB2.out (by omega)).mono ?_
  rintro e u w3 ⟨rfl, rfl, h1, h2, h3⟩
  have hd := h2.cell 0
  simp at hd
  refine ⟨_, results_cc rfl rfl h1 Tryz.underlying375 rfl (by kernel_rfl) rfl (v2 := .bool true) (by simp [go_sem, hd]), rfl, _, w2, Hs1.out, Hc.out, Hq.out, h3.mono fun k _ hk => ?_⟩
  have := Hz.out
  omega
end Go.Proofs.YthjnecicagmdeaaGreat
