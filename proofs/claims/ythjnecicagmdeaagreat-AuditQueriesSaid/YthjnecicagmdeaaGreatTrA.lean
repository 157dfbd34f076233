/-
  What is thrown, and caught: throw, Throw, Must, caught, catch. No conditions.
-/
import Derived.Test.YthjnecicagmdeaaGreatChecked
import Derived.Test.YthjnecicagmdeaaGreatMp
import Derived.Recover
namespace Go.Proofs.YthjnecicagmdeaaGreat
open Go.RowKit Go.Al
set_option linter.unusedVariables false

theorem results_cc {P : Program} {w : World} {fn : Func} {x y : Tmp} {ty ty2 t : TypeId} {g g2 : Nat} (hf : fn.results = #[.cell x ty, .cell y ty2]) {tmps : Array Value} {cs : Array Value} {d : TypeDesc} {v2 : Value}
    (ha : tmps.getD x undef = .pointer (some ⟨g, 0, none⟩)) (hb : Blk w g t cs) (hu : P.underlying ty = some d) (hd : (match d with | .struct _ | .array _ _ => true | _ => false) = true) (hi : (P.info? ty).map (·.size) = some cs.size)
    (ha2 : tmps.getD y undef = .pointer (some ⟨g2, 0, none⟩)) (hl : (loadVar ty2 ⟨g2, 0, none⟩).run P w = .ok v2 w) :
    (results fn tmps).run P w = .ok (.tuple #[.agg cs, v2]) w := by
  rw [Array.getD_eq_getD_getElem?] at ha ha2
  simp [results, hf, asAddr, ha, ha2, hl, run_loadVar_row w g t ty cs (0, 0) d hb hu hd hi, Result.andThen]
/-- what is thrown: where, and a code -/
def fault (wh c : Int) : List PanicEntry := [{ v := .iface 375 (.agg #[.int .i64 wh, .int .i64 c]), recovered := false }]

set_option maxHeartbeats 400000 in
theorem throw_ok (wh : Int) (w : World) :
    Calls Tryz.prog 334 #[.int .i64 wh, .int .i64 0] w fun e w' => e = .returned (.tuple #[]) ∧ w = w' := by
  go_enter Tryz.func334, Tryz.ntmps334
  go_wp2_with fail
  go_end0
  exact ⟨rfl, rfl⟩
set_option maxHeartbeats 400000 in
theorem throw_bad (wh c : Int) (w : World) (h : ¬ c = 0) :
    Calls Tryz.prog 334 #[.int .i64 wh, .int .i64 c] w fun e w' => e = .panicked (fault wh c) ∧ w = w' := by
  go_enter Tryz.func334, Tryz.ntmps334
  go_wp2_with fail
  exact ⟨rfl, rfl, rfl⟩
set_option maxHeartbeats 400000 in
theorem Throw_ok (wh : Int) (w : World) :
    Calls Tryz.prog 324 #[.int .i64 wh, .int .i64 0] w fun e w' => e = .returned (.tuple #[]) ∧ w = w' := by
  go_enter Tryz.func324, Tryz.ntmps324
  go_wp2_with (go_at_call 334; refine (throw_ok _ _).mono ?_; rintro e w' ⟨rfl, rfl⟩)
  go_end0
  exact ⟨rfl, rfl⟩
set_option maxHeartbeats 400000 in
theorem Throw_bad (wh c : Int) (w : World) (h : ¬ c = 0) :
    Calls Tryz.prog 324 #[.int .i64 wh, .int .i64 c] w fun e w' => e = .panicked (fault wh c) ∧ w = w' := by
  have H := hide h
  clear h
  go_enter Tryz.func324, Tryz.ntmps324
  go_wp2_with (go_at_call 334; refine (throw_bad _ _ _ H.out).mono ?_; rintro e w' ⟨rfl, rfl⟩)
  exact ⟨rfl, rfl, rfl⟩
set_option maxHeartbeats 400000 in
theorem caught_nil (w : World) :
    Calls Tryz.prog 333 #[.nilIface] w fun e w' => e = .returned (.tuple #[.agg #[.int .i64 0, .int .i64 0], .bool false]) ∧ Same w w' := by
  go_enter Tryz.func333, Tryz.ntmps333
  go_wp2_with fail
  exact bodyPost_ret (results_cell2 rfl rfl (Blk.new w _ _) Tryz.underlying375 rfl (by kernel_rfl)) rfl ⟨rfl, (Chg.refl _ _).alloc _⟩
set_option maxRecDepth 100000 in
set_option maxHeartbeats 1000000 in
theorem caught_fault (wh c : Int) (w : World) :
    Calls Tryz.prog 333 #[.iface 375 (.agg #[.int .i64 wh, .int .i64 c])] w fun e w' => e = .returned (.tuple #[.agg #[.int .i64 wh, .int .i64 c], .bool true]) ∧ Same w w' := by
  have hta : ∀ w, (Instr.typeAssert (.iface 375 (.agg #[.int .i64 wh, .int .i64 c])) 20 375 true).run Tryz.prog w = .ok (.tuple #[.agg #[.int .i64 wh, .int .i64 c], .bool true]) w := fun _ => by kernel_rfl
  go_enter Tryz.func333, Tryz.ntmps333
  go_wp2_with fail
  exact bodyPost_ret (results_cell2 rfl rfl ((Blk.new w _ _).alloc _) Tryz.underlying375 rfl (by kernel_rfl)) rfl ⟨rfl, ((Chg.refl _ _).alloc _).alloc _⟩

/-- the closure that catch defers, met by a panic -/
theorem catch1_bad (wh c : Int) (g h : Nat) (w : World) (hg : Blk w g 375 #[.int .i64 0, .int .i64 0]) (hh : Blk w h 4 #[.bool false]) (hne : g ≠ h) :
    CallsD Tryz.prog 332 #[.pointer (some ⟨g, 0, none⟩), .pointer (some ⟨h, 0, none⟩)] (.panicking (fault wh c)) w fun e u' w' =>
      e = .returned (.tuple #[]) ∧ u' = .panicking [{ v := .iface 375 (.agg #[.int .i64 wh, .int .i64 c]), recovered := true }] ∧ Blk w' g 375 #[.int .i64 wh, .int .i64 c] ∧ Blk w' h 4 #[.bool true] ∧ Chg (fun k => k = g ∨ k = h) w w' := by
  refine callsD_of_wpS Tryz.func332 rfl fun c₀ cs hu => ?_
  apply wpS_region
  simp [wpOpsS, go_sem, recoverD, hu, fault, Tryz.ntmps332]
  refine (caught_fault wh c w).mono ?_
  rintro e w1 ⟨rfl, hs1⟩
  have hg1 := hg.same hs1
  have hh1 := hh.same hs1
  have c0 := hg1.cell 0
  have c1 := hg1.cell 1
  have d0 := hh1.cell 0
  have f0 := hg1.frozen 0
  have f1 := hg1.frozen 1
  have e0 := hh1.frozen 0
  simp at c0 c1 d0
  have hne' : ¬ g = h := hne
  simp [go_sem, c0, c1, d0, f0, f1, e0]
  refine ⟨rfl, _, rfl, .tuple #[], by simp [results, Tryz.results332], rfl, rfl, ?_, ?_, ?_⟩
  · exact ((hg1.set_ 0 _).set_ 1 _).far (p := ⟨h, 0, none⟩) hne _
  · exact ((hh1.far (p := ⟨g, 0, none⟩) (fun e => hne e.symm) _).far (p := ⟨g, 1, none⟩) (fun e => hne e.symm) _).set_ 0 _
  · exact (((hs1.to.setCell (p := ⟨g, 0, none⟩) (.inl (.inl rfl)) _).setCell (p := ⟨g, 1, none⟩) (.inl (.inl rfl)) _).setCell (p := ⟨h, 0, none⟩) (.inl (.inr rfl)) _)
/-- the same, behind a call that returned -/
theorem catch1_ok (g h : Nat) (w : World) (hg : Blk w g 375 #[.int .i64 0, .int .i64 0]) (hh : Blk w h 4 #[.bool false]) (hne : g ≠ h) :
    CallsD Tryz.prog 332 #[.pointer (some ⟨g, 0, none⟩), .pointer (some ⟨h, 0, none⟩)] .returning w fun e u' w' =>
      e = .returned (.tuple #[]) ∧ u' = .returning ∧ Blk w' g 375 #[.int .i64 0, .int .i64 0] ∧ Blk w' h 4 #[.bool false] ∧ Chg (fun k => k = g ∨ k = h) w w' := by
  refine callsD_of_wpS Tryz.func332 rfl fun c₀ cs hu => ?_
  apply wpS_region
  simp [wpOpsS, go_sem, recoverD, hu, Tryz.ntmps332]
  refine (caught_nil w).mono ?_
  rintro e w1 ⟨rfl, hs1⟩
  have hg1 := hg.same hs1
  have hh1 := hh.same hs1
  have c0 := hg1.cell 0
  have c1 := hg1.cell 1
  have d0 := hh1.cell 0
  have f0 := hg1.frozen 0
  have f1 := hg1.frozen 1
  have e0 := hh1.frozen 0
  simp at c0 c1 d0
  simp [go_sem, c0, c1, d0, f0, f1, e0]
  refine ⟨rfl, .returning, (by rw [← hu]), .tuple #[], by simp [results, Tryz.results332], rfl, rfl, ?_, ?_, ?_⟩
  · exact ((hg1.set_ 0 _).set_ 1 _).far (p := ⟨h, 0, none⟩) hne _
  · exact ((hh1.far (p := ⟨g, 0, none⟩) (fun e => hne e.symm) _).far (p := ⟨g, 1, none⟩) (fun e => hne e.symm) _).set_ 0 _
  · exact (((hs1.to.setCell (p := ⟨g, 0, none⟩) (.inl (.inl rfl)) _).setCell (p := ⟨g, 1, none⟩) (.inl (.inl rfl)) _).setCell (p := ⟨h, 0, none⟩) (.inl (.inr rfl)) _)

set_option maxRecDepth 100000 in
set_option maxHeartbeats 1000000 in
theorem catch_ok {K : Nat} {caps : Array Value} (eK : ∀ args w, (callFunc K args).run Tryz.prog w = .ok (.enter K args) w) {S : Nat → Prop} (Q : World → World → Prop) (w : World) (hS : ∀ k, S k → k < w.heap.size)
    (hf : ∀ w1, Same w w1 → Calls Tryz.prog K caps w1 fun e w2 => e = .returned (.tuple #[]) ∧ Chg S w1 w2 ∧ Q w1 w2) :
    Calls Tryz.prog 323 #[.func (.func K) #[] caps] w fun e w' => e = .returned (.tuple #[.agg #[.int .i64 0, .int .i64 0], .bool false]) ∧ ∃ w1 w2, Same w w1 ∧ Chg S w1 w2 ∧ Q w1 w2 ∧ Chg (fun k => w.heap.size ≤ k ∧ k < w1.heap.size) w2 w' := by
  have HF := hide hf
  have HS := hide hS
  clear hf hS
  have hmf : ∀ (fn : Fn) (first cap : Array Value) (w : World), (Instr.makeFunc fn first cap).run Tryz.prog w = .ok (.func fn first cap) w := fun _ _ _ _ => rfl
  go_enter_defers Tryz.func323, Tryz.ntmps323
  go_wp2_with fail
  have hs1 : Same w ((w.alloc (.cells #[.int .i64 0, .int .i64 0] 375)).alloc (.cells #[.bool false] 4)) := ((Chg.refl _ w).alloc _).alloc _
  have hb1 := (Blk.new w 375 #[.int .i64 0, .int .i64 0]).alloc (.cells #[.bool false] 4)
  have hb2 := Blk.new (w.alloc (.cells #[.int .i64 0, .int .i64 0] 375)) 4 #[.bool false]
  have hz : ((w.alloc (.cells #[.int .i64 0, .int .i64 0] 375)).alloc (.cells #[.bool false] 4)).heap.size = w.heap.size + 2 := by simp
  simp only [World.size_alloc] at hb2
  have Hs1 := hide hs1
  have Hb1 := hide hb1
  have Hb2 := hide hb2
  have Hz := hide hz
  clear hs1 hb1 hb2 hz
  refine (HF.out _ Hs1.out).mono ?_
  rintro e w2 ⟨rfl, hc, hq⟩
  have Hc := hide hc
  have Hq := hide hq
  have HB1 := hide (Hb1.out.chg hc fun h => by have := HS.out _ h; omega)
  have HB2 := hide (Hb2.out.chg hc fun h => by have := HS.out _ h; omega)
  clear hc hq
  go_wp2_with fail
  refine leaves_cons (f := 332) (args := #[.pointer (some ⟨w.heap.size, 0, none⟩), .pointer (some ⟨w.heap.size + 1, 0, none⟩)]) (by simp) (by simp [go_sem]) ?_
  refine (catch1_ok _ _ _ HB1.out HB2.out (by omega)).mono ?_
  rintro e u w3 ⟨rfl, rfl, h1, h2, h3⟩
  have hd := h2.cell 0
  simp at hd
  refine ⟨_, results_cc rfl rfl h1 Tryz.underlying375 rfl (by kernel_rfl) rfl (v2 := .bool false) (by simp [go_sem, hd]), rfl, _, w2, Hs1.out, Hc.out, Hq.out, h3.mono fun k _ hk => ?_⟩
  have := Hz.out
  omega

set_option maxRecDepth 100000 in
set_option maxHeartbeats 1000000 in
theorem catch_bad {K : Nat} {caps : Array Value} (eK : ∀ args w, (callFunc K args).run Tryz.prog w = .ok (.enter K args) w) {S : Nat → Prop} (Q : World → World → Prop) (wh c : Int) (w : World) (hS : ∀ k, S k → k < w.heap.size)
    (hf : ∀ w1, Same w w1 → Calls Tryz.prog K caps w1 fun e w2 => e = .panicked (fault wh c) ∧ Chg S w1 w2 ∧ Q w1 w2) :
    Calls Tryz.prog 323 #[.func (.func K) #[] caps] w fun e w' => e = .returned (.tuple #[.agg #[.int .i64 wh, .int .i64 c], .bool true]) ∧ ∃ w1 w2, Same w w1 ∧ Chg S w1 w2 ∧ Q w1 w2 ∧ Chg (fun k => w.heap.size ≤ k ∧ k < w1.heap.size) w2 w' := by
  have HF := hide hf
  have HS := hide hS
  clear hf hS
  have hmf : ∀ (fn : Fn) (first cap : Array Value) (w : World), (Instr.makeFunc fn first cap).run Tryz.prog w = .ok (.func fn first cap) w := fun _ _ _ _ => rfl
  go_enter_defers Tryz.func323, Tryz.ntmps323
  go_wp2_with fail
  have hs1 : Same w ((w.alloc (.cells #[.int .i64 0, .int .i64 0] 375)).alloc (.cells #[.bool false] 4)) := ((Chg.refl _ w).alloc _).alloc _
  have hb1 := (Blk.new w 375 #[.int .i64 0, .int .i64 0]).alloc (.cells #[.bool false] 4)
  have hb2 := Blk.new (w.alloc (.cells #[.int .i64 0, .int .i64 0] 375)) 4 #[.bool false]
  have hz : ((w.alloc (.cells #[.int .i64 0, .int .i64 0] 375)).alloc (.cells #[.bool false] 4)).heap.size = w.heap.size + 2 := by simp
  simp only [World.size_alloc] at hb2
  have Hs1 := hide hs1
  have Hb1 := hide hb1
  have Hb2 := hide hb2
  have Hz := hide hz
  clear hs1 hb1 hb2 hz
  refine (HF.out _ Hs1.out).mono ?_
  rintro e w2 ⟨rfl, hc, hq⟩
  have Hc := hide hc
  have Hq := hide hq
  have HB1 := hide (Hb1.out.chg hc fun h => by have := HS.out _ h; omega)
  have HB2 := hide (Hb2.out.chg hc fun h => by have := HS.out _ h; omega)
  clear hc hq
  go_wp2_with fail
  refine leaves_cons (f := 332) (args := #[.pointer (some ⟨w.heap.size, 0, none⟩), .pointer (some ⟨w.heap.size + 1, 0, none⟩)]) (by simp) (by simp [go_sem]) ?_
  refine (catch1_bad wh c _ _ _ HB1.out HB2.out (by omega)).mono ?_
  rintro e u w3 ⟨rfl, rfl, h1, h2, h3⟩
  have hd := h2.cell 0
  simp at hd
  refine ⟨_, results_cc rfl rfl h1 Tryz.underlying375 rfl (by kernel_rfl) rfl (v2 := .bool true) (by simp [go_sem, hd]), rfl, _, w2, Hs1.out, Hc.out, Hq.out, h3.mono fun k _ hk => ?_⟩
  have := Hz.out
  omega
end Go.Proofs.YthjnecicagmdeaaGreat
