/-
  What is thrown, and caught: throw, Throw, Must, caught, catch. No conditions.
  trap.Must at a table, trap.Value at a list of integers. No conditions.
  goes, at whatever depth; find; Search. Condition: at most 8 operations.
  A slice literal whose elements are structs known as lists of cells. No conditions: nothing of the program is named here.
  Plain law: no order explains a count that no points and intervals have; and what a living search finds. No conditions.
  The law's own Few: operations in memory of their own, each list of ids cut. Condition: at most 64 are taken.
  A change, and a slice of changes, that came in, as a reading tells them. No conditions.
  Operations that came in, as a reading tells them. No conditions.
  A slice of operations that came in; the law's own lives. No conditions.
-/
import Derived.Test.YtenkdjfikppkdaaGreatChecked
import Derived.Test.YtenkdjfikppkdaaGreatMp
import Derived.Recover
import Derived.Test.YtenkdjfikppkdaaGreatIn
import Derived.Shelf.Abstract
import Derived.Test.YtenkdjfikppkdaaGreatLnG
import Derived.Test.YtenkdjfikppkdaaGreatHsD
import Derived.Test.YtenkdjfikppkdaaGreatQs
import Derived.Great.BuildSlice
import Derived.Great.FillDense
import Derived.Test.YtenkdjfikppkdaaGreatLnP
import Derived.Test.YtenkdjfikppkdaaGreatTbA
import Derived.Deep.Slices
import Derived.Lib.SmallJoins
import Derived.Test.YtenkdjfikppkdaaGreatLnA
/-! TrA -/
namespace Go.Proofs.YtenkdjfikppkdaaGreat
open Go.RowKit Go.Al
set_option linter.unusedVariables false

theorem results_cc {P : Program} {w : World} {fn : Func} {x y : Tmp} {ty ty2 t : TypeId} {g g2 : Nat} (hf : fn.results = #[.cell x ty, .cell y ty2]) {tmps : Array Value} {cs : Array Value} {d : TypeDesc} {v2 : Value}
    (ha : tmps.getD x undef = .pointer (some ⟨g, 0, none⟩)) (hb : Blk w g t cs) (hu : P.underlying ty = some d) (hd : (match d with | .struct _ | .array _ _ => true | _ => false) = true) (hi : (P.info? ty).map (·.size) = some cs.size)
    (ha2 : tmps.getD y undef = .pointer (some ⟨g2, 0, none⟩)) (hl : (loadVar ty2 ⟨g2, 0, none⟩).run P w = .ok v2 w) :
    (results fn tmps).run P w = .ok (.tuple #[.agg cs, v2]) w := by
  rw [Array.getD_eq_getD_getElem?] at ha ha2
  simp [results, hf, asAddr, ha, ha2, hl, run_loadVar_row w g t ty cs (0, 0) d hb hu hd hi, Result.andThen]
/-- what is thrown: where, and a code -/
def fault (wh c : Int) : List PanicEntry := [{ v := .iface 73 (.agg #[.int .i64 wh, .int .i64 c]), recovered := false }]

set_option maxHeartbeats 400000 in
theorem throw_ok (wh : Int) (w : World) :
    Calls Tryz.prog 42 #[.int .i64 wh, .int .i64 0] w fun e w' => e = .returned (.tuple #[]) ∧ w = w' := by
  go_enter Tryz.func42, Tryz.ntmps42
  go_wp2_with fail
  go_end0
  exact ⟨rfl, rfl⟩
set_option maxHeartbeats 400000 in
theorem throw_bad (wh c : Int) (w : World) (h : ¬ c = 0) :
    Calls Tryz.prog 42 #[.int .i64 wh, .int .i64 c] w fun e w' => e = .panicked (fault wh c) ∧ w = w' := by
  go_enter Tryz.func42, Tryz.ntmps42
  go_wp2_with fail
  exact ⟨rfl, rfl, rfl⟩
set_option maxHeartbeats 400000 in
theorem Throw_ok (wh : Int) (w : World) :
    Calls Tryz.prog 27 #[.int .i64 wh, .int .i64 0] w fun e w' => e = .returned (.tuple #[]) ∧ w = w' := by
  go_enter Tryz.func27, Tryz.ntmps27
  go_wp2_with (go_at_call 42; refine (throw_ok _ _).mono ?_; rintro e w' ⟨rfl, rfl⟩)
  go_end0
  exact ⟨rfl, rfl⟩
set_option maxHeartbeats 400000 in
theorem Throw_bad (wh c : Int) (w : World) (h : ¬ c = 0) :
    Calls Tryz.prog 27 #[.int .i64 wh, .int .i64 c] w fun e w' => e = .panicked (fault wh c) ∧ w = w' := by
  have H := hide h
  clear h
  go_enter Tryz.func27, Tryz.ntmps27
  go_wp2_with (go_at_call 42; refine (throw_bad _ _ _ H.out).mono ?_; rintro e w' ⟨rfl, rfl⟩)
  exact ⟨rfl, rfl, rfl⟩
set_option maxHeartbeats 400000 in
theorem caught_nil (w : World) :
    Calls Tryz.prog 41 #[.nilIface] w fun e w' => e = .returned (.tuple #[.agg #[.int .i64 0, .int .i64 0], .bool false]) ∧ Same w w' := by
  go_enter Tryz.func41, Tryz.ntmps41
  go_wp2_with fail
  exact bodyPost_ret (results_cell2 rfl rfl (Blk.new w _ _) Tryz.underlying73 rfl (by kernel_rfl)) rfl ⟨rfl, (Chg.refl _ _).alloc _⟩
set_option maxRecDepth 100000 in
set_option maxHeartbeats 1000000 in
theorem caught_fault (wh c : Int) (w : World) :
    Calls Tryz.prog 41 #[.iface 73 (.agg #[.int .i64 wh, .int .i64 c])] w fun e w' => e = .returned (.tuple #[.agg #[.int .i64 wh, .int .i64 c], .bool true]) ∧ Same w w' := by
  have hta : ∀ w, (Instr.typeAssert (.iface 73 (.agg #[.int .i64 wh, .int .i64 c])) 20 73 true).run Tryz.prog w = .ok (.tuple #[.agg #[.int .i64 wh, .int .i64 c], .bool true]) w := fun _ => by kernel_rfl
  go_enter Tryz.func41, Tryz.ntmps41
  go_wp2_with fail
  exact bodyPost_ret (results_cell2 rfl rfl ((Blk.new w _ _).alloc _) Tryz.underlying73 rfl (by kernel_rfl)) rfl ⟨rfl, ((Chg.refl _ _).alloc _).alloc _⟩

/-- the closure that catch defers, met by a panic -/
theorem catch1_bad (wh c : Int) (g h : Nat) (w : World) (hg : Blk w g 73 #[.int .i64 0, .int .i64 0]) (hh : Blk w h 4 #[.bool false]) (hne : g ≠ h) :
    CallsD Tryz.prog 40 #[.pointer (some ⟨g, 0, none⟩), .pointer (some ⟨h, 0, none⟩)] (.panicking (fault wh c)) w fun e u' w' =>
      e = .returned (.tuple #[]) ∧ u' = .panicking [{ v := .iface 73 (.agg #[.int .i64 wh, .int .i64 c]), recovered := true }] ∧ Blk w' g 73 #[.int .i64 wh, .int .i64 c] ∧ Blk w' h 4 #[.bool true] ∧ Chg (fun k => k = g ∨ k = h) w w' := by
  refine callsD_of_wpS Tryz.func40 rfl fun c₀ cs hu => ?_
  apply wpS_region
  simp [wpOpsS, go_sem, recoverD, hu, fault, Tryz.ntmps40]
  refine (caught_fault wh c w).mono ?_
  rintro e w1 ⟨rfl, hs1⟩
  have hg1 := hg.same hs1
  have hh1 := hh.same hs1
  have c0 := hg1.cell 0
  have c1 := hg1.cell 1
  have d0 := hh1.cell 0
  have f0 := hg1.frozen 0
  have f1 := hg1.frozen 1
  have e0 := hh1.frozen 0
  simp at c0 c1 d0
  have hne' : ¬ g = h := hne
  simp [go_sem, c0, c1, d0, f0, f1, e0]
  refine ⟨rfl, _, rfl, .tuple #[], by simp [results, Tryz.results40], rfl, rfl, ?_, ?_, ?_⟩
  · exact ((hg1.set_ 0 _).set_ 1 _).far (p := ⟨h, 0, none⟩) hne _
  · exact ((hh1.far (p := ⟨g, 0, none⟩) (fun e => hne e.symm) _).far (p := ⟨g, 1, none⟩) (fun e => hne e.symm) _).set_ 0 _
  · exact (((hs1.to.setCell (p := ⟨g, 0, none⟩) (.inl (.inl rfl)) _).setCell (p := ⟨g, 1, none⟩) (.inl (.inl rfl)) _).setCell (p := ⟨h, 0, none⟩) (.inl (.inr rfl)) _)
/-- the same, behind a call that returned -/
theorem catch1_ok (g h : Nat) (w : World) (hg : Blk w g 73 #[.int .i64 0, .int .i64 0]) (hh : Blk w h 4 #[.bool false]) (hne : g ≠ h) :
    CallsD Tryz.prog 40 #[.pointer (some ⟨g, 0, none⟩), .pointer (some ⟨h, 0, none⟩)] .returning w fun e u' w' =>
      e = .returned (.tuple #[]) ∧ u' = .returning ∧ Blk w' g 73 #[.int .i64 0, .int .i64 0] ∧ Blk w' h 4 #[.bool false] ∧ Chg (fun k => k = g ∨ k = h) w w' := by
  refine callsD_of_wpS Tryz.func40 rfl fun c₀ cs hu => ?_
  apply wpS_region
  simp [wpOpsS, go_sem, recoverD, hu, Tryz.ntmps40]
  refine (caught_nil w).mono ?_
  rintro e w1 ⟨rfl, hs1⟩
  have hg1 := hg.same hs1
  have hh1 := hh.same hs1
  have c0 := hg1.cell 0
  have c1 := hg1.cell 1
  have d0 := hh1.cell 0
  have f0 := hg1.frozen 0
  have f1 := hg1.frozen 1
  have e0 := hh1.frozen 0
  simp at c0 c1 d0
  simp [go_sem, c0, c1, d0, f0, f1, e0]
  refine ⟨rfl, .returning, (by rw [← hu]), .tuple #[], by simp [results, Tryz.results40], rfl, rfl, ?_, ?_, ?_⟩
  · exact ((hg1.set_ 0 _).set_ 1 _).far (p := ⟨h, 0, none⟩) hne _
  · exact ((hh1.far (p := ⟨g, 0, none⟩) (fun e => hne e.symm) _).far (p := ⟨g, 1, none⟩) (fun e => hne e.symm) _).set_ 0 _
  · exact (((hs1.to.setCell (p := ⟨g, 0, none⟩) (.inl (.inl rfl)) _).setCell (p := ⟨g, 1, none⟩) (.inl (.inl rfl)) _).setCell (p := ⟨h, 0, none⟩) (.inl (.inr rfl)) _)

set_option maxRecDepth 100000 in
set_option maxHeartbeats 1000000 in
theorem catch_ok {K : Nat} {caps : Array Value} (eK : ∀ args w, (callFunc K args).run Tryz.prog w = .ok (.enter K args) w) {S : Nat → Prop} (Q : World → World → Prop) (w : World) (hS : ∀ k, S k → k < w.heap.size)
    (hf : ∀ w1, Same w w1 → Calls Tryz.prog K caps w1 fun e w2 => e = .returned (.tuple #[]) ∧ Chg S w1 w2 ∧ Q w1 w2) :
    Calls Tryz.prog 23 #[.func (.func K) #[] caps] w fun e w' => e = .returned (.tuple #[.agg #[.int .i64 0, .int .i64 0], .bool false]) ∧ ∃ w1 w2, Same w w1 ∧ Chg S w1 w2 ∧ Q w1 w2 ∧ Chg (fun k => w.heap.size ≤ k ∧ k < w1.heap.size) w2 w' := by
  have HF := hide hf
  have HS := hide hS
  clear hf hS
  have hmf : ∀ (fn : Fn) (first cap : Array Value) (w : World), (Instr.makeFunc fn first cap).run Tryz.prog w = .ok (.func fn first cap) w := fun _ _ _ _ => rfl
  go_enter_defers Tryz.func23, Tryz.ntmps23
  go_wp2_with fail
  have hs1 : Same w ((w.alloc (.cells #[.int .i64 0, .int .i64 0] 73)).alloc (.cells #[.bool false] 4)) := ((Chg.refl _ w).alloc _).alloc _
  have hb1 := (Blk.new w 73 #[.int .i64 0, .int .i64 0]).alloc (.cells #[.bool false] 4)
  have hb2 := Blk.new (w.alloc (.cells #[.int .i64 0, .int .i64 0] 73)) 4 #[.bool false]
  have hz : ((w.alloc (.cells #[.int .i64 0, .int .i64 0] 73)).alloc (.cells #[.bool false] 4)).heap.size = w.heap.size + 2 := by simp
  simp only [World.size_alloc] at hb2
  have Hs1 := hide hs1
  have Hb1 := hide hb1
  have Hb2 := hide hb2
  have Hz := hide hz
  clear hs1 hb1 hb2 hz
  refine (HF.out _ Hs1.out).mono ?_
  rintro e w2 ⟨rfl, hc, hq⟩
  have Hc := hide hc
  have Hq := hide hq
  have HB1 := hide (Hb1.out.chg hc fun h => by have := HS.out _ h; omega)
  have HB2 := hide (Hb2.out.chg hc fun h => by have := HS.out _ h; omega)
  clear hc hq
  go_wp2_with fail
  refine leaves_cons (f := 40) (args := #[.pointer (some ⟨w.heap.size, 0, none⟩), .pointer (some ⟨w.heap.size + 1, 0, none⟩)]) (by simp) (by simp [go_sem]) ?_
  refine (catch1_ok _ _ _ HB1.out HB2.out (by omega)).mono ?_
  rintro e u w3 ⟨rfl, rfl, h1, h2, h3⟩
  have hd := h2.cell 0
  simp at hd
  refine ⟨_, results_cc rfl rfl h1 Tryz.underlying73 rfl (by kernel_rfl) rfl (v2 := .bool false) (by simp [go_sem, hd]), rfl, _, w2, Hs1.out, Hc.out, Hq.out, h3.mono fun k _ hk => ?_⟩
  have := Hz.out
  omega

set_option maxRecDepth 100000 in
set_option maxHeartbeats 1000000 in
theorem catch_bad {K : Nat} {caps : Array Value} (eK : ∀ args w, (callFunc K args).run Tryz.prog w = .ok (.enter K args) w) {S : Nat → Prop} (Q : World → World → Prop) (wh c : Int) (w : World) (hS : ∀ k, S k → k < w.heap.size)
    (hf : ∀ w1, Same w w1 → Calls Tryz.prog K caps w1 fun e w2 => e = .panicked (fault wh c) ∧ Chg S w1 w2 ∧ Q w1 w2) :
    Calls Tryz.prog 23 #[.func (.func K) #[] caps] w fun e w' => e = .returned (.tuple #[.agg #[.int .i64 wh, .int .i64 c], .bool true]) ∧ ∃ w1 w2, Same w w1 ∧ Chg S w1 w2 ∧ Q w1 w2 ∧ Chg (fun k => w.heap.size ≤ k ∧ k < w1.heap.size) w2 w' := by
  have HF := hide hf
  have HS := hide hS
  clear hf hS
  have hmf : ∀ (fn : Fn) (first cap : Array Value) (w : World), (Instr.makeFunc fn first cap).run Tryz.prog w = .ok (.func fn first cap) w := fun _ _ _ _ => rfl
  go_enter_defers Tryz.func23, Tryz.ntmps23
  go_wp2_with fail
  have hs1 : Same w ((w.alloc (.cells #[.int .i64 0, .int .i64 0] 73)).alloc (.cells #[.bool false] 4)) := ((Chg.refl _ w).alloc _).alloc _
  have hb1 := (Blk.new w 73 #[.int .i64 0, .int .i64 0]).alloc (.cells #[.bool false] 4)
  have hb2 := Blk.new (w.alloc (.cells #[.int .i64 0, .int .i64 0] 73)) 4 #[.bool false]
  have hz : ((w.alloc (.cells #[.int .i64 0, .int .i64 0] 73)).alloc (.cells #[.bool false] 4)).heap.size = w.heap.size + 2 := by simp
  simp only [World.size_alloc] at hb2
  have Hs1 := hide hs1
  have Hb1 := hide hb1
  have Hb2 := hide hb2
  have Hz := hide hz
  clear hs1 hb1 hb2 hz
  refine (HF.out _ Hs1.out).mono ?_
  rintro e w2 ⟨rfl, hc, hq⟩
  have Hc := hide hc
  have Hq := hide hq
  have HB1 := hide (Hb1.out.chg hc fun h => by have := HS.out _ h; omega)
  have HB2 := hide (Hb2.out.chg hc fun h => by have := HS.out _ h; omega)
  clear hc hq
  go_wp2_with fail
  refine leaves_cons (f := 40) (args := #[.pointer (some ⟨w.heap.size, 0, none⟩), .pointer (some ⟨w.heap.size + 1, 0, none⟩)]) (by simp) (by simp [go_sem]) ?_
  refine (catch1_bad wh c _ _ _ HB1.out HB2.out (by omega)).mono ?_
  rintro e u w3 ⟨rfl, rfl, h1, h2, h3⟩
  have hd := h2.cell 0
  simp at hd
  refine ⟨_, results_cc rfl rfl h1 Tryz.underlying73 rfl (by kernel_rfl) rfl (v2 := .bool true) (by simp [go_sem, hd]), rfl, _, w2, Hs1.out, Hc.out, Hq.out, h3.mono fun k _ hk => ?_⟩
  have := Hz.out
  omega
end Go.Proofs.YtenkdjfikppkdaaGreat
/-! TrB -/
namespace Go.Proofs.YtenkdjfikppkdaaGreat
open Go.RowKit Go.Al Go.Shelf
set_option linter.unusedVariables false

set_option maxHeartbeats 400000 in
theorem mustT_ok (v : Option Addr) (w : World) :
    Calls Tryz.prog 25 #[.pointer v, .int .i64 0] w fun e w' => e = .returned (.pointer v) ∧ w = w' := by
  go_enter Tryz.func25, Tryz.ntmps25
  go_wp2_with (go_at_call 42; refine (throw_ok _ _).mono ?_; rintro e w' ⟨rfl, rfl⟩)
  go_ret
  exact ⟨rfl, rfl⟩
set_option maxHeartbeats 400000 in
theorem mustT_bad (v : Option Addr) (c : Int) (w : World) (h : ¬ c = 0) :
    Calls Tryz.prog 25 #[.pointer v, .int .i64 c] w fun e w' => e = .panicked (fault 0 c) ∧ w = w' := by
  have H := hide h
  clear h
  go_enter Tryz.func25, Tryz.ntmps25
  go_wp2_with (go_at_call 42; refine (throw_bad _ _ _ H.out).mono ?_; rintro e w' ⟨rfl, rfl⟩)
  exact ⟨rfl, rfl, rfl⟩

/-- a list that a closure hands back -/
def ListEnd (w : World) (xs : List Int) (e : Ending) (w' : World) : Prop :=
  ∃ A c, e = .returned (.slice A xs.length c) ∧ xs.length ≤ c ∧ Rd w' A (is xs) ∧ (∀ b, blkOf A = some b → w.heap.size ≤ b) ∧ Same w w'
def ListHeld (n base : Nat) (xs : List Int) (w : World) : Prop :=
  ∃ A c, Blk w n 38 #[.slice A xs.length c] ∧ xs.length ≤ c ∧ Rd w A (is xs) ∧ (∀ b, blkOf A = some b → b ≠ n ∧ base ≤ b)

set_option maxRecDepth 100000 in
set_option maxHeartbeats 1000000 in
theorem value1_ok {K : Nat} {caps : Array Value} (eK : ∀ args w, (callFunc K args).run Tryz.prog w = .ok (.enter K args) w) {xs : List Int} (n m : Nat) (hnm : m ≠ n) (w : World) (hm : Blk w m 61 #[.func (.func K) #[] caps]) (hn : Blk w n 38 #[.slice none 0 0])
    (hf : Calls Tryz.prog K caps w (ListEnd w xs)) :
    Calls Tryz.prog 24 #[.pointer (some ⟨m, 0, none⟩), .pointer (some ⟨n, 0, none⟩)] w fun e w' => e = .returned (.tuple #[]) ∧ Chg (fun k => k = n) w w' ∧ ListHeld n w.heap.size xs w' := by
  have HF := hide hf
  have hk := hm.cell 0
  simp at hk
  have Hn := hide hn
  have hnl := hn.lt
  clear hf hm hn
  go_enter Tryz.func24, Tryz.ntmps24
  go_wp2_with fail
  refine HF.out.mono ?_
  rintro e w2 ⟨A, c, rfl, hcap, hr, hfr, hs⟩
  have Hcap := hide hcap
  have Hr := hide hr
  have Hfr := hide hfr
  have Hs := hide hs
  have hkn := (Hn.out.same hs).cell
  have hfn := (Hn.out.same hs).frozen
  clear hcap hr hfr hs hk
  go_wp2_with fail
  go_end0
  have hb := (Hn.out.same Hs.out).set_ 0 (.slice A xs.length c)
  exact ⟨rfl, Chg.setCell (S := fun k => k = n) (p := ⟨n, 0, none⟩) (Same.to Hs.out) (.inl rfl) _, A, c, hb, Hcap.out, Hr.out.setCell (p := ⟨n, 0, none⟩) (fun e => by have h7 : w.heap.size ≤ n := Hfr.out _ e; omega) _, fun b hb' => by have h7 : w.heap.size ≤ b := Hfr.out _ hb'; omega⟩

set_option maxRecDepth 100000 in
set_option maxHeartbeats 1000000 in
theorem value1_bad {K : Nat} {caps : Array Value} (eK : ∀ args w, (callFunc K args).run Tryz.prog w = .ok (.enter K args) w) (wh c : Int) (n m : Nat) (w : World) (hm : Blk w m 61 #[.func (.func K) #[] caps])
    (hf : Calls Tryz.prog K caps w fun e w' => e = .panicked (fault wh c) ∧ Same w w') :
    Calls Tryz.prog 24 #[.pointer (some ⟨m, 0, none⟩), .pointer (some ⟨n, 0, none⟩)] w fun e w' => e = .panicked (fault wh c) ∧ Same w w' := by
  have HF := hide hf
  have hk := hm.cell 0
  simp at hk
  clear hf hm
  go_enter Tryz.func24, Tryz.ntmps24
  go_wp2_with fail
  refine HF.out.mono ?_
  rintro e w2 ⟨rfl, hs⟩
  have Hs := hide hs
  clear hs hk
  go_wp2_with fail
  exact ⟨rfl, rfl, Hs.out⟩

theorem results_sl {w : World} {fn : Func} {x u : Tmp} {g : Nat} {v : Value} (hf : fn.results = #[.cell x 38, .tmp u]) {tmps : Array Value} (ha : tmps.getD x undef = .pointer (some ⟨g, 0, none⟩)) (hl : (loadVar 38 ⟨g, 0, none⟩).run Tryz.prog w = .ok v w) :
    (results fn tmps).run Tryz.prog w = .ok (.tuple #[v, tmps.getD u undef]) w := by
  rw [Array.getD_eq_getD_getElem?] at ha
  simp [results, hf, asAddr, ha, hl, Result.andThen]

set_option maxRecDepth 100000 in
set_option maxHeartbeats 4000000 in
theorem value_ok {K : Nat} {caps : Array Value} (eK : ∀ args w, (callFunc K args).run Tryz.prog w = .ok (.enter K args) w) (xs : List Int) (w : World)
    (hf : ∀ w1, Same w w1 → Calls Tryz.prog K caps w1 (ListEnd w1 xs)) :
    Calls Tryz.prog 11 #[.func (.func K) #[] caps] w fun e w' => ∃ A c, e = .returned (.tuple #[.slice A xs.length c, .int .i64 0]) ∧ xs.length ≤ c ∧ Rd w' A (is xs) ∧ Same w w' := by
  have e1 : ∀ args w, (callFunc 24 args).run Tryz.prog w = .ok (.enter 24 args) w := enters_of Tryz.func24 (by kernel_rfl) rfl
  have hmf : ∀ (fn : Fn) (first cap : Array Value) (w : World), (Instr.makeFunc fn first cap).run Tryz.prog w = .ok (.func fn first cap) w := fun _ _ _ _ => rfl
  have hs0 : Same w ((w.alloc (.cells #[.func (.func K) #[] caps] 61)).alloc (.cells #[.slice none 0 0] 38)) := ((Chg.refl _ w).alloc _).alloc _
  have hm := (Blk.new w 61 #[.func (.func K) #[] caps]).alloc (.cells #[.slice none 0 0] 38)
  have hn := Blk.new (w.alloc (.cells #[.func (.func K) #[] caps] 61)) 38 #[.slice none 0 0]
  simp only [World.size_alloc] at hn
  have hz : ((w.alloc (.cells #[.func (.func K) #[] caps] 61)).alloc (.cells #[.slice none 0 0] 38)).heap.size = w.heap.size + 2 := by simp
  have HC := hide (catch_ok (K := 24) (caps := #[.pointer (some ⟨w.heap.size, 0, none⟩), .pointer (some ⟨w.heap.size + 1, 0, none⟩)]) e1 (S := fun k => k = w.heap.size + 1) (fun w1 w2 => ListHeld (w.heap.size + 1) w1.heap.size xs w2) _ (fun k hk => by omega)
    (fun w1 hs1 => (value1_ok eK (w.heap.size + 1) w.heap.size (by omega) w1 (hm.same hs1) (hn.same hs1) (hf w1 (Same.trans hs0 hs1)))))
  have Hs0 := hide hs0
  have Hz := hide hz
  clear hs0 hm hn hz hf
  go_enter Tryz.func11, Tryz.ntmps11
  go_wp2_with (go_at_call 23; have hF := HC.out; refine hF.mono ?_; rintro e w4 ⟨rfl, w1, w2, hs1, hc2, hq, hc4⟩; have hb4 : ListHeld (w.heap.size + 1) w1.heap.size xs w2 := hq; obtain ⟨A, c, hb, hcap, hr, hfr⟩ := hb4; have Hcap := hide hcap; clear hcap; have hb5 := hb.chg hc4 (fun e => by have := Hz.out; omega); have Hb5 := hide hb5; have Hr5 := hide (hr.chg hc4 (fun b hb' _ e => by have := (hfr b hb').2; omega)); have Hne := hide (fun b hb' => (hfr b hb').1); have hkb := hb5.cell; have hfb := hb5.frozen; have hlt4 := hb5.lt; have Hs4 : Hid (Same w w4) := hide (Chg.fresh (S := fun k => w.heap.size ≤ k) (((Same.trans Hs0.out hs1).to.trans hc2 (fun k _ e => by omega)).trans hc4 (fun k _ e => by have := Hz.out; omega)) (fun _ h => h)); clear hs1 hc2 hq hc4 hb hr hfr hb5 hF)
  have hb9 := (Hb5.out.set_ 0 (.slice A xs.length c)).alloc (.cells #[.int .i64 0, .int .i64 0] 73)
  have hc9 := hb9.cell 0
  simp at hc9
  refine bodyPost_ret (results_sl rfl rfl (v := .slice A xs.length c) (by simp [go_sem, hc9])) rfl ⟨A, c, rfl, Hcap.out, ?_, ?_⟩
  · exact (Hr5.out.setCell (p := ⟨w.heap.size + 1, 0, none⟩) (fun e => Hne.out _ e rfl) _).alloc _
  · exact (Hs4.out.setCell (p := ⟨w.heap.size + 1, 0, none⟩) (.inr (by show w.heap.size ≤ w.heap.size + 1; omega)) _).alloc _

set_option maxRecDepth 100000 in
set_option maxHeartbeats 4000000 in
theorem value_bad {K : Nat} {caps : Array Value} (eK : ∀ args w, (callFunc K args).run Tryz.prog w = .ok (.enter K args) w) (wh c : Int) (w : World)
    (hf : ∀ w1, Same w w1 → Calls Tryz.prog K caps w1 fun e w2 => e = .panicked (fault wh c) ∧ Same w1 w2) :
    Calls Tryz.prog 11 #[.func (.func K) #[] caps] w fun e w' => e = .returned (.tuple #[.slice none 0 0, .int .i64 c]) ∧ Same w w' := by
  have e1 : ∀ args w, (callFunc 24 args).run Tryz.prog w = .ok (.enter 24 args) w := enters_of Tryz.func24 (by kernel_rfl) rfl
  have hmf : ∀ (fn : Fn) (first cap : Array Value) (w : World), (Instr.makeFunc fn first cap).run Tryz.prog w = .ok (.func fn first cap) w := fun _ _ _ _ => rfl
  have hs0 : Same w ((w.alloc (.cells #[.func (.func K) #[] caps] 61)).alloc (.cells #[.slice none 0 0] 38)) := ((Chg.refl _ w).alloc _).alloc _
  have hm := (Blk.new w 61 #[.func (.func K) #[] caps]).alloc (.cells #[.slice none 0 0] 38)
  have hn := Blk.new (w.alloc (.cells #[.func (.func K) #[] caps] 61)) 38 #[.slice none 0 0]
  simp only [World.size_alloc] at hn
  have hz : ((w.alloc (.cells #[.func (.func K) #[] caps] 61)).alloc (.cells #[.slice none 0 0] 38)).heap.size = w.heap.size + 2 := by simp
  have HC := hide (catch_bad (K := 24) (caps := #[.pointer (some ⟨w.heap.size, 0, none⟩), .pointer (some ⟨w.heap.size + 1, 0, none⟩)]) e1 (S := fun _ => False) (fun w1 w2 => True) wh c _ (fun k hk => hk.elim)
    (fun w1 hs1 => (value1_bad eK wh c (w.heap.size + 1) w.heap.size w1 (hm.same hs1) (hf w1 (Same.trans hs0 hs1))).mono fun e w2 h => ⟨h.1, h.2, trivial⟩))
  have Hs0 := hide hs0
  have Hn := hide hn
  have Hz := hide hz
  clear hs0 hm hn hz hf
  go_enter Tryz.func11, Tryz.ntmps11
  go_wp2_with (go_at_call 23; have hF := HC.out; refine hF.mono ?_; rintro e w4 ⟨rfl, w1, w2, hs1, hc2, _, hc4⟩; have hb5 := ((Hn.out.same hs1).same hc2).chg hc4 (fun e => by have := Hz.out; omega); have Hb5 := hide hb5; have hkb := hb5.cell; have hfb := hb5.frozen; have hlt4 := hb5.lt; have Hs4 : Hid (Same w w4) := hide (Chg.fresh (S := fun k => w.heap.size ≤ k) (((Same.trans (Same.trans Hs0.out hs1) hc2).to).trans hc4 (fun k _ e => by have := Hz.out; omega)) (fun _ h => h)); clear hs1 hc2 hc4 hb5 hF)
  have hkF : ∀ i, (w4.alloc (.cells #[.int .i64 wh, .int .i64 c] 73)).cell? ⟨w4.heap.size, i, none⟩ = (#[Value.int .i64 wh, .int .i64 c])[i]? := (Blk.new w4 73 #[.int .i64 wh, .int .i64 c]).cell
  have h1 := hkF 1
  have hkb0 : w4.cell? ⟨w.heap.size + 1, 0, none⟩ = some (.slice none 0 0) := by have := hkb 0; simpa using this
  have hfb0 := hfb 0
  simp at h1
  clear hkF hkb hfb
  go_region
  go_wp2_with fail
  have hb9 := ((Hb5.out.set_ 0 (.slice none 0 0)).alloc (.cells #[.int .i64 wh, .int .i64 c] 73)).drew
  have hc9 := hb9.cell 0
  simp at hc9
  refine bodyPost_ret (results_sl rfl rfl (v := .slice none 0 0) (by simp [go_sem, hc9])) rfl ⟨rfl, ?_⟩
  exact ((Hs4.out.setCell (p := ⟨w.heap.size + 1, 0, none⟩) (.inr (by show w.heap.size ≤ w.heap.size + 1; omega)) _).alloc _).drew
end Go.Proofs.YtenkdjfikppkdaaGreat
/-! LnH -/
namespace Go.Proofs.YtenkdjfikppkdaaGreat
open Go.RowKit Go.Al Go.Shelf
set_option linter.unusedVariables false

theorem goes_any {A : Option Addr} {c base : Nat} {l : List Dd} {most : Int} (hl : l.length ≤ 64) (hlc : l.length ≤ c) (hfar : FarD base A l) (hwf : ∀ d ∈ l, WfC d.r.c) (sk : Nat) (hbk : base ≤ sk) :
    ∀ (f : Nat) (p s : List P3) (done : List Int), Done l.length done → l.length ≤ done.length + f → ∀ (w : World) (V : Option Addr) (cv g pm sm : Nat), Dds w A l → Seek w sk A l.length c base V cv done → Tab w g pm sm most p s → Apart sk V g pm sm →
      Calls Tryz.prog 28 #[.pointer (some ⟨sk, 0, none⟩), .pointer (some ⟨g, 0, none⟩)] w (GoesEnd w sk A l.length c base V done (srch l most f p s done)) := by
  have hTl : ∀ (p s : List P3) (k : Nat) (hk : k < l.length) (w' : World) (g pm sm : Nat), Dds w' A l → Tab w' g pm sm most p s → Calls Tryz.prog 21 #[.pointer (some ⟨g, 0, none⟩), ddV l[k]] w' fun e w'' => e = .returned (.bool (tellsB p s most l[k])) ∧ Tab w'' g pm sm most (doesP l[k].r p s most) (doesS l[k].r p s most) ∧ Chg (fun k => k = pm ∨ k = sm) w' w'' :=
    fun p s k hk w' g pm sm hD hT => (tells_any l[k] w' hT (hwf _ (List.getElem_mem hk)) (hD.rep _ (List.getElem_mem hk))).mono fun e w'' h => h
  intro f
  induction f with
  | zero =>
    intro p s done hdn hn w V cv g pm sm hD hK hT hA
    refine goes_step hl hlc hfar p s done (fun _ => none) _ (fun h => srch_done h 0 p s) (fun h => by rw [srch_zero h, hdn.full (by omega)]; rfl) sk hbk (Nat.le_trans hdn.le hl) (hTl p s) (fun _ _ _ _ => rfl) ?_ w V cv g pm sm hD hK hT hA
    intro k hk hfr
    have hm : (k : Int) ∈ allL l done := mem_allL.2 ⟨k, hk, rfl, hfr⟩
    rw [hdn.full (by omega)] at hm
    cases hm
  | succ f ih =>
    intro p s done hdn hn w V cv g pm sm hD hK hT hA
    have hst : ∀ (k : Nat) (hk : k < l.length), stepS l most f p s done (k : Int) = if tellsB p s most l[k] then srch l most f (doesP l[k].r p s most) (doesS l[k].r p s most) (done ++ [(k : Int)]) else none := fun k hk => by
      unfold stepS
      rw [Int.toNat_natCast, List.getElem?_eq_getElem hk]
    refine goes_step hl hlc hfar p s done (stepS l most f p s done) _ (fun h => srch_done h (f + 1) p s) (fun h => srch_succ h f p s) sk hbk (Nat.le_trans hdn.le hl) (hTl p s) ?_ ?_ w V cv g pm sm hD hK hT hA
    · intro k hk hfr htl
      rw [hst k hk, htl]
      rfl
    · intro k hk hfr htl w' V' cv' g' pm' sm' hD' hK' hT' hA'
      rw [hst k hk, htl, if_pos rfl]
      exact ih _ _ _ (hdn.snoc (by omega) (by omega) (free_new hfr)) (by simp; omega) w' V' cv' g' pm' sm' hD' hK' hT' hA'

/-- what a search finds -/
def found (l : List Dd) (most : Int) : Option (List Int) := srch l most l.length [] [] []

set_option maxRecDepth 100000 in
set_option maxHeartbeats 4000000 in
theorem find_bad {A : Option Addr} {n c : Nat} (most : Int) (w : World) (h : most < 1 ∨ 1048576 < most) :
    Calls Tryz.prog 13 #[.slice A n c, .int .i64 most] w fun e w' => e = .panicked (fault 0 1) ∧ Same w w' := by
  have H := hide h
  clear h
  go_enter Tryz.func13, Tryz.ntmps13
  go_wp2_with (first
    | (go_at_call 19; refine (tnew_bad _ _ H.out).mono ?_; rintro e w1 ⟨rfl, rfl⟩)
    | (go_at_call 25; refine (mustT_bad _ _ _ (by decide)).mono ?_; rintro e w2 ⟨rfl, rfl⟩))
  exact ⟨rfl, rfl, Chg.refl _ _⟩

/-- how find ends, when there is an order, and when there is none -/
def FindEnd (w : World) (res : Option (List Int)) (e : Ending) (w' : World) : Prop :=
  match res with
  | some r => ListEnd w r e w'
  | none => e = .panicked (fault 0 6) ∧ Same w w'

set_option maxRecDepth 100000 in
set_option maxHeartbeats 16000000 in
theorem find_any {A : Option Addr} {c : Nat} {l : List Dd} (most : Int) (w : World) (h1 : 1 ≤ most) (h2 : most ≤ 1048576) (h : Dds w A l) (hl : l.length ≤ 8) (hlc : l.length ≤ c) (hfar : FarD w.heap.size A l) (hwf : ∀ d ∈ l, WfC d.r.c) :
    Calls Tryz.prog 13 #[.slice A l.length c, .int .i64 most] w (FindEnd w (found l most)) := by
  have H := hide h
  have HG := hide (fun sk (hb : w.heap.size ≤ sk) w' V cv g pm sm => goes_any (most := most) (c := c) (by omega : l.length ≤ 64) hlc hfar hwf sk hb l.length [] [] [] ⟨List.Pairwise.nil, fun x hx => by cases hx⟩ (by simp) w' V cv g pm sm)
  have HL := hide hl
  have HB := hide (And.intro h1 h2)
  obtain ⟨n, hn⟩ : ∃ n, l.length = n := ⟨_, rfl⟩
  rw [hn] at HG hl ⊢
  have Hn := hide hn
  unfold found
  rw [hn]
  clear h hlc hfar hwf hn h1 h2
  go_enter Tryz.func13, Tryz.ntmps13
  go_wp2_with (first
    | (go_at_call 19; refine (tnew_any _ _ HB.out.1 HB.out.2).mono ?_; rintro e w1 ⟨g, pm, sm, rfl, hs, ht, z1, z2, z3⟩; have Hs1 : Hid (Same w w1) := hide hs; have HT1 := hide ht; have Hz1 := hide (And.intro z1 (And.intro z2 z3)); clear hs ht z1 z2 z3)
    | (go_at_call 25; refine (mustT_ok _ _).mono ?_; rintro e w2 ⟨rfl, rfl⟩))
  go_loopg [6, 8, 17] n (fun k cn u vi wr => ∃ (i m : Nat), i ≤ n ∧ k = n - i ∧ vi = .int .i64 i ∧ cn = .int .i64 m ∧ m ≤ i ∧ Same w1 wr)
  case atStart => exact ⟨0, 0, Nat.zero_le _, rfl, rfl, rfl, Nat.le_refl _, Chg.refl _ _⟩
  case round =>
    obtain ⟨i, m, hi, hk, rfl, rfl, hm, hsm⟩ := hrel
    have Hk := hide hk
    have Hsm := hide hsm
    clear hk hsm
    by_cases hlt : i < n
    · have hil : i < l.length := by rw [Hn.out]; exact hlt
      obtain ⟨b, off, rfl, hbl, hra, hrp⟩ := ((H.out.same Hs1.out).same Hsm.out).at_ hil
      have Hra := hide hra
      obtain ⟨d, hdd⟩ : ∃ d, l[i] = d := ⟨_, rfl⟩
      rw [hdd] at Hra
      have HC := hide (can_any d)
      have Hll := hide (ddL_length d)
      have Hon := hide (one_ddL d)
      have Hbd := hide (blk_deed wr 45 d)
      unfold ddV at HC
      obtain ⟨mu, hmu⟩ : ∃ mu, canD d = mu := ⟨_, rfl⟩
      rw [hmu] at HC
      clear hra hrp hdd hmu
      generalize ddL d = L at *
      have hm0 : (0 : Int) ≤ (m : Int) := by omega
      have hm8 : (m : Int) ≤ 8 := by omega
      cases mu
      all_goals
        go_wp2_with (first
          | (refine wpList_ld (by rfl) 45 _ rfl b (off + i * 29) rfl L _ Hra.out Tryz.underlying45 rfl (by rw [Hll.out]; exact infoDeed) ?_)
          | (refine wpList_st (by rfl) 45 _ _ rfl rfl L rfl _ _ (by rw [Hll.out]; exact infoDeed) (by rw [Hll.out]; rfl) Hon.out ?_)
          | (refine wpList_ld (by rfl) 45 _ rfl wr.heap.size 0 rfl L _ Hbd.out Tryz.underlying45 rfl (by rw [Hll.out]; exact infoDeed) ?_)
          | (go_at_call 26; have hF := HC.out; refine (hF _).mono ?_; rintro e w2 ⟨rfl, hs⟩; have Hs2 : Hid (Same wr w2) := hide (((Chg.refl _ wr).alloc _).same hs); clear hs hF))
        go_roundg (n - (i + 1))
        case measure => have := Hk.out; omega
        case rel => first | exact ⟨i + 1, m, by omega, rfl, by go_num, rfl, by omega, Hsm.out.trans Hs2.out⟩ | exact ⟨i + 1, m + 1, by omega, rfl, by go_num, by go_num, by omega, Hsm.out.trans Hs2.out⟩
    · have hie : n = i := by omega
      subst hie
      have hmm : (m : Int) ≤ 8 := by omega
      have HD2 := hide ((H.out.same Hs1.out).same Hsm.out)
      have HT2 := hide (HT1.out.same Hsm.out)
      obtain ⟨res, hres⟩ : ∃ res, srch l most n [] [] [] = res := ⟨_, rfl⟩
      rw [hres] at HG
      have Hres := hide hres
      have hs3 : Same wr (wr.alloc (.cells #[.slice A n c, .slice none 0 0] 80)) := (Chg.refl _ wr).alloc _
      have hbk := Blk.new wr 80 #[.slice A n c, .slice none 0 0]
      have Hs3 := hide hs3
      have Hbk := hide hbk
      have Hgo := hide (HG.out wr.heap.size (Nat.le_trans Hs1.out.size Hsm.out.size) _ none 0 g pm sm (HD2.out.same hs3) ⟨hbk, World.ownsRow_nil _ _ _ _, fun b hb => by simp [blkOf] at hb⟩ (HT2.out.same hs3) ⟨(by have := HT2.out.blk.lt; have := HT2.out.mp.lt; have := HT2.out.ms.lt; omega), fun b hb => by simp [blkOf] at hb⟩)
      clear hres hs3 hbk HG
      have hfw : ∀ (S : Nat → Prop) w5, (∀ k, S k → k = wr.heap.size ∨ blkOf none = some k) → Chg S (wr.alloc (.cells #[.slice A n c, .slice none 0 0] 80)) w5 → Same w w5 := fun S w5 hS hc => by
        have h1 := Same.trans (Same.trans (Same.trans Hs1.out Hsm.out) Hs3.out) (Chg.refl (fun _ => False) _)
        refine Chg.fresh (S := fun k => w.heap.size ≤ k) (h1.to.trans hc fun k _ hk => ?_) fun _ h => h
        rcases hS k hk with rfl | h
        · exact Nat.le_trans Hs1.out.size Hsm.out.size
        · simp [blkOf] at h
      have Hfw := hide hfw
      clear hfw
      cases res with
      | none =>
        go_wp2_with (first
          | (go_at_call 28; have hF := Hgo.out; refine hF.mono ?_; rintro e w5 ⟨rfl, V', cv', hsk, hch, hv⟩; have Hch := hide hch; clear hsk hch hv hF)
          | (go_at_call 27; refine (Throw_bad _ _ _ (by decide)).mono ?_; rintro e w6 ⟨rfl, rfl⟩))
        refine ⟨rfl, ?_⟩
        show FindEnd w (srch l most n [] [] []) _ _
        rw [Hres.out]
        exact ⟨rfl, Hfw.out _ _ (fun k hk => hk) Hch.out⟩
      | some r =>
        go_wp2_with (go_at_call 28; have hF := Hgo.out; refine hF.mono ?_; rintro e w5 ⟨rfl, V', cv', hsk, hch, hv⟩; have hsk' : Seek w5 wr.heap.size A n c w.heap.size V' cv' r := hsk; have Hsk := hide hsk'; have hks := hsk'.blk.cell; have Hch := hide hch; clear hsk hch hv hF hsk')
        go_ret
        show FindEnd w (srch l most n [] [] []) _ _
        rw [Hres.out]
        exact ⟨V', cv', rfl, (by obtain ⟨_, _, e, h1, _⟩ := own_form Hsk.out.own; cases e; exact h1), own_rd Hsk.out.own, fun b hb => (Hsk.out.vlt b hb).1, Hfw.out _ _ (fun k hk => hk) Hch.out⟩

/-! Search -/
set_option maxRecDepth 100000 in
set_option maxHeartbeats 1000000 in
theorem search1_ok {A : Option Addr} {n c : Nat} (most : Int) (xs : List Int) (x y : Nat) (w : World) (hx : w.cell? ⟨x, 0, none⟩ = some (.slice A n c)) (hy : w.cell? ⟨y, 0, none⟩ = some (.int .i64 most))
    (hf : Calls Tryz.prog 13 #[.slice A n c, .int .i64 most] w (ListEnd w xs)) :
    Calls Tryz.prog 12 #[.pointer (some ⟨x, 0, none⟩), .pointer (some ⟨y, 0, none⟩)] w (ListEnd w xs) := by
  have HF := hide hf
  clear hf
  go_enter Tryz.func12, Tryz.ntmps12
  go_wp2_with (go_at_call 13; have hF := HF.out; refine hF.mono ?_; rintro e w2 ⟨A2, c2, rfl, hcap, hr, hfr, hs⟩; have HR := hide (And.intro hcap (And.intro hr (And.intro hfr hs))); clear hcap hr hfr hs hF)
  go_ret
  exact ⟨A2, c2, rfl, HR.out.1, HR.out.2.1, HR.out.2.2.1, HR.out.2.2.2⟩
set_option maxRecDepth 100000 in
set_option maxHeartbeats 1000000 in
theorem search1_bad {A : Option Addr} {n c : Nat} (most : Int) (wh e0 : Int) (x y : Nat) (w : World) (hx : w.cell? ⟨x, 0, none⟩ = some (.slice A n c)) (hy : w.cell? ⟨y, 0, none⟩ = some (.int .i64 most))
    (hf : Calls Tryz.prog 13 #[.slice A n c, .int .i64 most] w fun e w' => e = .panicked (fault wh e0) ∧ Same w w') :
    Calls Tryz.prog 12 #[.pointer (some ⟨x, 0, none⟩), .pointer (some ⟨y, 0, none⟩)] w fun e w' => e = .panicked (fault wh e0) ∧ Same w w' := by
  have HF := hide hf
  clear hf
  go_enter Tryz.func12, Tryz.ntmps12
  go_wp2_with (go_at_call 13; have hF := HF.out; refine hF.mono ?_; rintro e w2 ⟨rfl, hs⟩; have Hs := hide hs; clear hs hF)
  exact ⟨rfl, rfl, Hs.out⟩

theorem eS : ∀ args w, (callFunc 12 args).run Tryz.prog w = .ok (.enter 12 args) w := enters_of Tryz.func12 (by kernel_rfl) rfl

set_option maxRecDepth 100000 in
set_option maxHeartbeats 4000000 in
/-- what Search tells, when what find does is known -/
theorem Search_ok {A : Option Addr} {n c : Nat} (most : Int) (xs : List Int) (w : World)
    (hf : ∀ w1, Same w w1 → Calls Tryz.prog 13 #[.slice A n c, .int .i64 most] w1 (ListEnd w1 xs)) :
    Calls Tryz.prog 6 #[.slice A n c, .int .i64 most] w fun e w' => ∃ A' c', e = .returned (.tuple #[.slice A' xs.length c', .int .i64 0]) ∧ xs.length ≤ c' ∧ Rd w' A' (is xs) ∧ Same w w' := by
  have hmf : ∀ (fn : Fn) (first cap : Array Value) (w : World), (Instr.makeFunc fn first cap).run Tryz.prog w = .ok (.func fn first cap) w := fun _ _ _ _ => rfl
  have hs0 : Same w ((w.alloc (.cells #[.slice A n c] 22)).alloc (.cells #[.int .i64 most] 3)) := ((Chg.refl _ w).alloc _).alloc _
  have hx := (Blk.new w 22 #[.slice A n c]).alloc (.cells #[.int .i64 most] 3)
  have hy := Blk.new (w.alloc (.cells #[.slice A n c] 22)) 3 #[.int .i64 most]
  simp only [World.size_alloc] at hy
  have HV := hide (value_ok (caps := #[.pointer (some ⟨w.heap.size, 0, none⟩), .pointer (some ⟨w.heap.size + 1, 0, none⟩)]) eS xs _ (fun w1 hs1 => search1_ok (A := A) (n := n) (c := c) most xs w.heap.size (w.heap.size + 1) w1 ((hx.same hs1).cell 0) ((hy.same hs1).cell 0) (hf w1 (Same.trans hs0 hs1))))
  have Hs0 := hide hs0
  clear hs0 hx hy hf
  go_enter Tryz.func6, Tryz.ntmps6
  go_wp2_with (go_at_call 11; have hF := HV.out; refine hF.mono ?_; rintro e w2 ⟨A2, c2, rfl, hcap, hr, hs⟩; have HR := hide (And.intro hcap (And.intro hr hs)); clear hcap hr hs hF)
  go_ret2
  exact ⟨A2, c2, rfl, HR.out.1, HR.out.2.1, Same.trans Hs0.out HR.out.2.2⟩
set_option maxRecDepth 100000 in
set_option maxHeartbeats 4000000 in
theorem Search_bad {A : Option Addr} {n c : Nat} (most : Int) (wh e0 : Int) (w : World)
    (hf : ∀ w1, Same w w1 → Calls Tryz.prog 13 #[.slice A n c, .int .i64 most] w1 fun e w' => e = .panicked (fault wh e0) ∧ Same w1 w') :
    Calls Tryz.prog 6 #[.slice A n c, .int .i64 most] w fun e w' => e = .returned (.tuple #[.slice none 0 0, .int .i64 e0]) ∧ Same w w' := by
  have hmf : ∀ (fn : Fn) (first cap : Array Value) (w : World), (Instr.makeFunc fn first cap).run Tryz.prog w = .ok (.func fn first cap) w := fun _ _ _ _ => rfl
  have hs0 : Same w ((w.alloc (.cells #[.slice A n c] 22)).alloc (.cells #[.int .i64 most] 3)) := ((Chg.refl _ w).alloc _).alloc _
  have hx := (Blk.new w 22 #[.slice A n c]).alloc (.cells #[.int .i64 most] 3)
  have hy := Blk.new (w.alloc (.cells #[.slice A n c] 22)) 3 #[.int .i64 most]
  simp only [World.size_alloc] at hy
  have HV := hide (value_bad (caps := #[.pointer (some ⟨w.heap.size, 0, none⟩), .pointer (some ⟨w.heap.size + 1, 0, none⟩)]) eS wh e0 _ (fun w1 hs1 => search1_bad (A := A) (n := n) (c := c) most wh e0 w.heap.size (w.heap.size + 1) w1 ((hx.same hs1).cell 0) ((hy.same hs1).cell 0) (hf w1 (Same.trans hs0 hs1))))
  have Hs0 := hide hs0
  clear hs0 hx hy hf
  go_enter Tryz.func6, Tryz.ntmps6
  go_wp2_with (go_at_call 11; have hF := HV.out; refine hF.mono ?_; rintro e w2 ⟨rfl, hs⟩; have HR := hide hs; clear hs hF)
  go_ret2
  exact ⟨rfl, Same.trans Hs0.out HR.out⟩

/-- what Search tells of any operations -/
theorem Search_anyC {A : Option Addr} {c : Nat} {l : List Dd} (most : Int) (w : World) (h1 : 1 ≤ most) (h2 : most ≤ 1048576) (h : Dds w A l) (hl : l.length ≤ 8) (hlc : l.length ≤ c) (hfar : FarD w.heap.size A l) (hwf : ∀ d ∈ l, WfC d.r.c) :
    Calls Tryz.prog 6 #[.slice A l.length c, .int .i64 most] w fun e w' => ∃ A' c', e = .returned (.tuple #[.slice A' ((found l most).getD []).length c', .int .i64 (if (found l most).isSome then 0 else 6)]) ∧ ((found l most).getD []).length ≤ c' ∧ Rd w' A' (is ((found l most).getD [])) ∧ Same w w' := by
  have hfind := fun (w1 : World) (hs : Same w w1) => find_any (c := c) most w1 h1 h2 (h.same hs) hl hlc ⟨fun b hb => Nat.lt_of_lt_of_le (hfar.1 b hb) hs.size, fun d hd b hb => Nat.lt_of_lt_of_le (hfar.2 d hd b hb) hs.size⟩ hwf
  cases hf : found l most with
  | none =>
    rw [hf] at hfind
    exact (Search_bad most 0 6 w hfind).mono fun e w' ⟨he, hs⟩ => ⟨none, 0, he, Nat.le_refl _, Rd.nil _ _, hs⟩
  | some r =>
    rw [hf] at hfind
    exact (Search_ok most r w hfind).mono fun e w' ⟨A', c', he, hc, hr, hs⟩ => ⟨A', c', he, hc, hr, hs⟩
theorem Search_any {A : Option Addr} {c : Nat} {l : List Dd} (most : Int) (w : World) (h1 : 1 ≤ most) (h2 : most ≤ 1048576) (h : Dds w A l) (hl : l.length ≤ 8) (hlc : l.length ≤ c) (hfar : FarD w.heap.size A l) (hwf : ∀ d ∈ l, WfC d.r.c) :
    Calls Tryz.prog 6 #[.slice A l.length c, .int .i64 most] w fun e w' => ∃ A' c', e = .returned (.tuple #[.slice A' ((found l most).getD []).length c', .int .i64 (if (found l most).isSome then 0 else 6)]) ∧ Rd w' A' (is ((found l most).getD [])) ∧ Same w w' :=
  (Search_anyC (c := c) most w h1 h2 h hl hlc hfar hwf).mono fun e w' ⟨A', c', he, _, hr, hs⟩ => ⟨A', c', he, hr, hs⟩
theorem Search_arg {A : Option Addr} {n c : Nat} (most : Int) (w : World) (h : most < 1 ∨ 1048576 < most) :
    Calls Tryz.prog 6 #[.slice A n c, .int .i64 most] w fun e w' => e = .returned (.tuple #[.slice none 0 0, .int .i64 1]) ∧ Same w w' :=
  Search_bad most 0 1 w fun w1 _ => find_bad most w1 h
end Go.Proofs.YtenkdjfikppkdaaGreat
/-! Qt -/
namespace Go.Al
open Go.RowKit

/-- '[]T{x}', x a struct -/
theorem wpList_bs1 {P : Program} {ops : Array Oper} {rest : List Oper} {o : Oper} {a : Act} {w : World} {Q : Exit → Act → World → Prop} (hg : o.guard = none) (t e : TypeId) (x : Operand) (ho : o.op = .buildSlice t 1 #[(0, x)])
    (cs : List Value) (hx : a.eval x = .agg cs.toArray) (z : Value) (n bytes : Nat) (hu : P.underlying t = some (.slice e)) (hi : (P.info? e).map (fun i => (i.zero, i.size, i.bytes)) = some (some z, n, bytes)) (hn : cs.length = n) (h0 : 0 < n) (hs : n ≤ 1000)
    (h : wpList P ops Q rest (a.put o.dst (.slice (some ⟨w.heap.size, 0, none⟩) 1 1)) (w.alloc (.cells cs.toArray e))) : wpList P ops Q (o :: rest) a w := by
  obtain ⟨ie, hie, hz, hsz, _⟩ := info_parts hi
  subst hsz
  refine wpList_buildSlice hg t e 1 _ ho cs.toArray ie z hu hie hz (by omega) (by omega) ?_ h
  have h2 := Go.Great.fill_whole h0 [.agg cs.toArray] ((Array.range (1 * ie.size)).map (z.cells[· % z.cells.size]!)) (by intro v hv; simp at hv; subst hv; simpa [Value.cells] using hn) (by simp)
  have h3 : (((#[(0, x)] : Array (Nat × Operand)).map fun (i, x) => (i, a.eval x)).toList) = (([Value.agg cs.toArray].zipIdx 0).map fun x => (x.2, x.1)) := by simp [hx]
  have h4 : ([Value.agg cs.toArray].flatMap fun v => v.cells.toList).toArray = cs.toArray := by simp [Value.cells]
  rw [h3, h2, h4]
end Go.Al
/-! LnI -/
namespace Go.Proofs.YtenkdjfikppkdaaGreat
open Go.RowKit Go.Al
set_option linter.unusedVariables false

/-- what a search finds -/
def foundP (l : List Dd) (most : Int) : Option (List Int) := srch l most l.length [] [] []

theorem len_del3' (k : Int) (l : List P3) : (del3 k l).length ≤ l.length := List.length_filter_le _ _
theorem room_any {p s : List P3} {most : Int} (c : Cg) (h : (p.length : Int) + (s.length : Int) ≤ most) : ((doP' p s most c).length : Int) + ((doS' p s most c).length : Int) ≤ most := by
  unfold doP' doS'
  by_cases hm : mayE p s most c = 0
  · rw [if_pos hm, if_pos hm]
    obtain ⟨hk, hadd, hdrop, _⟩ := may_zero hm
    obtain ⟨k, q, x⟩ := c
    simp only at hk
    rcases hk with rfl | rfl | rfl | rfl
    · obtain ⟨h1, h2⟩ := hadd rfl
      have h3 : hasK p q.1 = false := h1
      show ((put3 q p).length : Int) + (s.length : Int) ≤ most
      rw [len_put3 h3]; omega
    · have := len_del3' q.1 p
      show ((del3 q.1 p).length : Int) + (s.length : Int) ≤ most
      omega
    · obtain ⟨h1, h2⟩ := hadd rfl
      have h3 : hasK s x.1 = false := h1
      show (p.length : Int) + ((put3 x s).length : Int) ≤ most
      rw [len_put3 h3]; omega
    · have := len_del3' x.1 s
      show (p.length : Int) + ((del3 x.1 s).length : Int) ≤ most
      omega
  · rw [if_neg hm, if_neg hm]; exact h
theorem room_does {p s : List P3} {most : Int} (r : Rq) (h : (p.length : Int) + (s.length : Int) ≤ most) : ((doesP r p s most).length : Int) + ((doesS r p s most).length : Int) ≤ most := by
  unfold doesP doesS
  cases goodR r && decide (r.k = 1)
  · exact h
  · exact room_any r.c h
theorem ids_len (q : Qy) (p s : List P3) : (idsOf q p s).length ≤ p.length + s.length := by
  unfold idsOf
  split
  · rw [List.length_map]; exact Nat.le_trans (List.length_filter_le _ _) (by omega)
  · rw [List.length_map]; exact Nat.le_trans (List.length_filter_le _ _) (by omega)

/-- a query that counts, told more than there can be -/
structure Wrong (d : Dd) : Prop where
  must : 0 ≤ d.rp
  kind : d.r.k = 2
  asked : d.t.asked = true
  many : 50 < d.t.n
theorem wrong_tells {d : Dd} (h : Wrong d) {p s : List P3} (hr : (p.length : Int) + (s.length : Int) ≤ 50) : tellsB p s 50 d = false := by
  unfold tellsB mustD
  rw [decide_eq_true h.must]
  cases ht : (decide (doesE d.r = 0) && if true = true then sameA (doesA d.r p s 50) d.t.ans else decide ((doesA d.r p s 50).e = 0)) with
  | false => rfl
  | true =>
    exfalso
    simp only [if_true, Bool.and_eq_true, decide_eq_true_eq] at ht
    obtain ⟨hE, hs⟩ := ht
    have hg : goodR d.r = true := by
      unfold doesE at hE
      split at hE
      · assumption
      · cases hE
    have hk : ¬ d.r.k = 1 := by rw [h.kind]; decide
    have hd : doesA d.r p s 50 = told d.r.q p s := by unfold doesA; rw [hg, if_pos rfl, if_neg hk]
    rw [hd] at hs
    unfold sameA Rp.ans at hs
    simp only [Bool.and_eq_true, decide_eq_true_eq, beq_iff_eq] at hs
    obtain ⟨_, h2, _, h4, _⟩ := hs
    have hi := ids_len d.r.q p s
    have hm := h.many
    unfold told at h2 h4
    split at h4
    · split at h4
      · simp only at h4; omega
      · simp only at h4; omega
    · rename_i hc
      rw [if_neg hc] at h2
      rw [h.asked] at h2
      cases h2
theorem wrong_none {l : List Dd} {i : Nat} (hi : i < l.length) (h : Wrong l[i]) : ∀ (f : Nat) (p s : List P3) (done : List Int), (p.length : Int) + (s.length : Int) ≤ 50 → hasI done i = false → srch l 50 f p s done = none := by
  have hex : ∀ done, hasI done i = false → explainsB l done = false := fun done hn => by
    unfold explainsB
    rw [List.all_eq_false]
    refine ⟨i, List.mem_range.2 hi, ?_⟩
    unfold leftB mustD
    rw [List.getElem?_eq_getElem hi]
    simp [h.must, hn]
  intro f
  induction f with
  | zero => intro p s done hr hn; simp [srch, hex done hn]
  | succ f ih =>
    intro p s done hr hn
    simp only [srch, hex done hn, Bool.false_eq_true, if_false]
    rw [List.findSome?_eq_none_iff]
    intro x hx
    obtain ⟨k, hk, rfl, hfr⟩ := mem_allL.1 hx
    rw [Int.toNat_natCast, List.getElem?_eq_getElem hk]
    simp only
    cases ht : tellsB p s 50 l[k] with
    | false => rfl
    | true =>
      rw [if_pos rfl]
      have hki : ¬ k = i := fun e => by
        subst e
        rw [wrong_tells h hr] at ht
        cases ht
      refine ih _ _ _ (room_does _ hr) ?_
      cases hh : hasI (done ++ [(k : Int)]) i with
      | false => rfl
      | true =>
        rw [hasI_iff, List.mem_append] at hh
        rcases hh with hh | hh
        · rw [hasI_iff.2 hh] at hn; cases hn
        · simp at hh; omega
def addD : Dd := ⟨0, -1, 3, -1, -1, 0, ⟨1, ⟨1, (1, 0, 0), (0, 0, 0)⟩, ⟨0, 0, 0, 0, 0, 0, 0, 0, 0, 0⟩⟩, ⟨0, false, false, 0, none, 0, []⟩⟩
def askD : Dd := ⟨0, -1, 2, -1, -1, 0, ⟨2, ⟨0, (0, 0, 0), (0, 0, 0)⟩, ⟨2, 0, 0, 0, 0, 0, 0, 0, 0, 0⟩⟩, ⟨0, true, false, 1, none, 0, []⟩⟩
theorem lives_found : foundP [askD, addD] 5 = some [1, 0] := by decide +kernel
end Go.Proofs.YtenkdjfikppkdaaGreat
/-! LnJ -/
namespace Go.Proofs.YtenkdjfikppkdaaGreat
open Go.RowKit Go.Al
set_option linter.unusedVariables false

/-- an operation without its list's place -/
def strip (d : Dd) : Dd := { d with t := { d.t with A := none, cp := 0 } }
/-- .. its ids cut -/
def cutD (d : Dd) : Dd := { d with t := { d.t with A := none, cp := 0, ids := d.t.ids.take 20 } }
/-- .. with a list elsewhere -/
def laidD (d : Dd) (A : Option Addr) (c : Nat) : Dd := { d with t := { d.t with A := A, cp := c, ids := d.t.ids.take 20 } }
theorem strip_laid (d : Dd) (A : Option Addr) (c : Nat) : strip (laidD d A c) = cutD d := rfl
def flatD (l : List Dd) : List Value := l.flatMap ddL
theorem flatD_len : ∀ l : List Dd, (flatD l).length = l.length * 29
  | [] => rfl
  | d :: r => by
    have := flatD_len r
    unfold flatD at this ⊢
    rw [List.flatMap_cons, List.length_append, ddL_length, this, List.length_cons]
    omega
theorem flatD_snoc (l : List Dd) (d : Dd) : flatD (l ++ [d]) = flatD l ++ ddL d := by simp [flatD]
theorem flatD_get : ∀ {l : List Dd} {i : Nat} (h : i < l.length) (j : Nat), j < 29 → (flatD l)[i * 29 + j]? = (ddL l[i])[j]?
  | d :: r, 0, h, j, hj => by
    unfold flatD
    rw [List.flatMap_cons, Nat.zero_mul, Nat.zero_add, List.getElem?_append_left (by rw [ddL_length]; exact hj)]
    rfl
  | d :: r, i + 1, h, j, hj => by
    have := flatD_get (l := r) (i := i) (by simpa using h) j hj
    unfold flatD at this ⊢
    rw [List.flatMap_cons, List.getElem?_append_right (by rw [ddL_length]; omega), ddL_length, show (i + 1) * 29 + j - 29 = i * 29 + j by omega, this]
    rfl
theorem one_flatD (l : List Dd) : ∀ u ∈ flatD l, u.oneCell' = true := by
  intro u hu
  obtain ⟨d, _, hu⟩ := List.mem_flatMap.1 hu
  exact one_ddL d u hu
theorem slD : SlTy Tryz.prog 22 45 29 240 := SlTy.of (z := ddV ⟨0, 0, 0, 0, 0, 0, ⟨0, ⟨0, (0, 0, 0), (0, 0, 0)⟩, ⟨0, 0, 0, 0, 0, 0, 0, 0, 0, 0⟩⟩, ⟨0, false, false, 0, none, 0, []⟩⟩) Tryz.underlying22 (by kernel_rfl) rfl (by decide)
theorem infoD3 : (Tryz.prog.info? 45).map (fun i => (i.zero, i.size, i.bytes)) = some (some (ddV ⟨0, 0, 0, 0, 0, 0, ⟨0, ⟨0, (0, 0, 0), (0, 0, 0)⟩, ⟨0, 0, 0, 0, 0, 0, 0, 0, 0, 0⟩⟩, ⟨0, false, false, 0, none, 0, []⟩⟩), 29, 240) := by kernel_rfl
theorem ddL_set (d : Dd) (A : Option Addr) (c : Nat) : (ddL d).set 28 (.slice A (d.t.ids.take 20).length c) = ddL (laidD d A c) := rfl
theorem dds_own {w : World} {base c : Nat} {A : Option Addr} {l : List Dd} (h : w.ownsRow base 45 29 (.slice A l.length c) l.length (flatD l)) (hr : ∀ d ∈ l, RpAt w d.t) : Dds w A l := by
  refine ⟨fun hn => ?_, hr⟩
  obtain ⟨A', c', hv, h1, h2, h3, h4, h5, h6⟩ := own_form h
  cases hv
  have hne : flatD l ≠ [] := fun e => by
    have := flatD_len l
    rw [e] at this
    obtain ⟨x, r, rfl⟩ := List.exists_cons_of_ne_nil hn
    simp at this
  obtain ⟨b, off, e, hc⟩ := h2 hne
  obtain ⟨b', hb', hlt⟩ := h2.lt hne
  have hbb : b' = b := by rw [e] at hb'; simp [blkOf] at hb'; exact hb'.symm
  subst hbb
  refine ⟨b', off, e, hlt, fun i hi j v hv => ?_⟩
  have hj : j < 29 := by have := (List.getElem?_eq_some_iff.1 hv).1; rw [ddL_length] at this; exact this
  have := hc (i * 29 + j) v (by rw [flatD_get hi j hj]; exact hv)
  rw [← Nat.add_assoc] at this
  exact this

theorem rangeAt_own {w : World} {g : Nat} {t : TypeId} {L : List Value} {v : Value} (h : Blk w g t (L.toArray.setIfInBounds 28 v)) : w.rangeAt g 0 (L.set 28 v) := fun j x hx => by
  rw [Nat.zero_add, h.cell]
  simpa using hx
/-- one more operation, laid -/
theorem few_step {w wr w5 w8 : World} {l l' : List Dd} {d : Dd} {i n k q q2 : Nat} {A0 A3 A4 : Option Addr} {c0 c3 c4 : Nat} {fl L : List Value} {ob : Obj} (hk : k ≤ 64) (hdr : RpAt wr d.t) (htk : l.take (i + 1) = l.take i ++ [d]) (hq : (d.t.ids.take 20).length = q) (hq2 : q2 = q)
    (hsm : Same w wr) (hs5 : Same wr w5) (hown3 : w5.ownsRow (wr.heap.size + 1) 3 1 (.slice A3 (0 + q) c3) (0 + q) ([] ++ is (d.t.ids.take 20))) (hown : wr.ownsRow w.heap.size 45 29 (.slice A0 i c0) i fl)
    (hown8 : w8.ownsRow w.heap.size 45 29 (.slice A4 (i + 1) c4) (i + 1) (fl ++ L.set 28 (.slice A3 q2 c3))) (hc8 : Chg (fun k => blkOf A0 = some k) ((w5.setCell ⟨wr.heap.size, 28, none⟩ (.slice A3 q2 c3)).alloc ob) w8)
    (hb8 : blkOf A4 = blkOf A0 ∨ blkOf A4 = some ((w5.setCell ⟨wr.heap.size, 28, none⟩ (.slice A3 q2 c3)).alloc ob).heap.size) (hrp : ∀ d ∈ l', RpAt wr d.t) (hbl : ∀ d ∈ l', ∀ b, blkOf d.t.A = some b → w.heap.size ≤ b ∧ b < wr.heap.size ∧ blkOf A0 ≠ some b)
    (hmap : l'.map strip = (l.take i).map cutD) (hll : l'.length = i) (hfl : flatD l' = fl) (hL : ddL d = L) (hin : i + 1 ≤ n) (hik : i + 1 ≤ k) (vi : Value) (hvi : vi = .int .i64 ((i + 1 : Nat) : Int)) :
    ∃ (i' : Nat) (A' : Option Addr) (c' : Nat) (m : List Dd), i' ≤ n ∧ i' ≤ k ∧ n - (i + 1) = n - i' ∧ vi = .int .i64 i' ∧ Value.slice A4 (i + 1) c4 = .slice A' i' c' ∧ m.length = i' ∧ w8.ownsRow w.heap.size 45 29 (.slice A' m.length c') m.length (flatD m) ∧ (∀ d ∈ m, RpAt w8 d.t) ∧ (∀ d ∈ m, ∀ b, blkOf d.t.A = some b → w.heap.size ≤ b ∧ b < w8.heap.size ∧ blkOf A' ≠ some b) ∧ m.map strip = (l.take i').map cutD ∧ Same w w8 := by
  subst hvi
  subst hq2
  rw [Nat.zero_add] at hown3
  have hl8 : flatD (l' ++ [laidD d A3 c3]) = fl ++ L.set 28 (.slice A3 q2 c3) := by
    rw [flatD_snoc, hfl, ← ddL_set, hL, hq]
  obtain ⟨_, _, hv, h1, h2, _, _, h5, h6⟩ := own_form hown3
  cases hv
  have hA0 : ∀ b, blkOf A0 = some b → w.heap.size ≤ b ∧ b < wr.heap.size := fun b hb => hown.lt b (by rw [ownBlock_slice]; exact hb)
  have hA3 : ∀ b, blkOf A3 = some b → wr.heap.size + 1 ≤ b ∧ b < w5.heap.size := fun b hb => hown3.lt b (by rw [ownBlock_slice]; exact hb)
  have hz : ((w5.setCell ⟨wr.heap.size, 28, none⟩ (.slice A3 q2 c3)).alloc ob).heap.size = w5.heap.size + 1 := by simp
  have hz8 := hc8.size
  have z5 := hs5.size
  have z1 := hsm.size
  have hkeep : ∀ (A : Option Addr) (xs : List Value), Rd w5 A xs → (∀ b, blkOf A = some b → b ≠ wr.heap.size ∧ blkOf A0 ≠ some b) → Rd w8 A xs := fun A xs hr hA =>
    ((hr.setCell (p := ⟨wr.heap.size, 28, none⟩) (fun e => (hA _ e).1 rfl) _).alloc ob).chg hc8 (fun b hb _ e => (hA b hb).2 e)
  refine ⟨i + 1, A4, c4, l' ++ [laidD d A3 c3], hin, hik, rfl, rfl, rfl, by simp [hll], ?_, ?_, ?_, ?_, ?_⟩
  · rw [List.length_append, hll, hl8]
    exact hown8
  · intro x hx
    rw [List.mem_append] at hx
    rcases hx with hx | hx
    · exact (hrp x hx).keep (hkeep _ _ ((hrp x hx).rd.same hs5) fun b hb => by have := hbl x hx b hb; exact ⟨by omega, this.2.2⟩)
    · simp at hx
      subst hx
      refine ⟨hkeep A3 _ h2 fun b hb => by have := hA3 b hb; exact ⟨by omega, fun e => by have := hA0 b e; omega⟩, ?_, h5⟩
      show (d.t.ids.take 20).length ≤ c3
      rw [hq]; exact h1
  · intro x hx b hb
    rw [List.mem_append] at hx
    rcases hx with hx | hx
    · have := hbl x hx b hb
      refine ⟨this.1, by omega, ?_⟩
      rcases hb8 with h | h
      · rw [h]; exact this.2.2
      · rw [h]; intro e; simp at e; omega
    · simp at hx
      subst hx
      have h3 := hA3 b hb
      refine ⟨by omega, by omega, ?_⟩
      rcases hb8 with h | h
      · rw [h]; intro e; have := hA0 b e; omega
      · rw [h]; intro e; simp at e; omega
  · rw [List.map_append, hmap, htk, List.map_append]
    rfl
  · have h3 : Chg (fun k => w.heap.size ≤ k) w ((w5.setCell ⟨wr.heap.size, 28, none⟩ (.slice A3 q2 c3)).alloc ob) := ((Same.trans hsm hs5).to.setCell (p := ⟨wr.heap.size, 28, none⟩) (.inl z1) _).alloc ob
    exact Chg.fresh (h3.trans hc8 fun b _ e => (hA0 b e).1) fun _ h => h

/-- how Few ends: operations alike, all in memory of the call's own -/
def FewEnd (w : World) (src : List Dd) (e : Ending) (w' : World) : Prop :=
  ∃ A c l, e = .returned (.slice A l.length c) ∧ w'.ownsRow w.heap.size 45 29 (.slice A l.length c) l.length (flatD l) ∧ (∀ d ∈ l, RpAt w' d.t) ∧ (∀ d ∈ l, ∀ b, blkOf d.t.A = some b → w.heap.size ≤ b ∧ b < w'.heap.size ∧ blkOf A ≠ some b) ∧ l.map strip = src.map cutD ∧ Same w w'

set_option maxRecDepth 100000 in
set_option maxHeartbeats 16000000 in
theorem few_any {A : Option Addr} {c : Nat} {l : List Dd} (k : Nat) (w : World) (h : Dds w A l) (hl : l.length ≤ maxLen) (hk : k ≤ 64) :
    Calls Tryz.prog 5 #[.slice A l.length c, .int .i64 k] w (FewEnd w (l.take k)) := by
  have H := hide h
  unfold maxLen at hl
  obtain ⟨n, hn⟩ : ∃ n, l.length = n := ⟨_, rfl⟩
  rw [hn] at hl ⊢
  have Hn := hide hn
  have Hk64 := hide hk
  have hk0 : (0 : Int) ≤ (k : Int) := by omega
  have hk1 : (k : Int) ≤ 64 := by omega
  clear h hn
  go_enter Tryz.func5, Tryz.ntmps5
  go_wp2_with fail
  go_loopg [5, 6, 7, 8] n (fun kk out vi u1 u2 wr => ∃ (i : Nat) (A0 : Option Addr) (c0 : Nat) (l' : List Dd), i ≤ n ∧ i ≤ k ∧ kk = n - i ∧ vi = .int .i64 i ∧ out = .slice A0 i c0 ∧ l'.length = i ∧ wr.ownsRow w.heap.size 45 29 (.slice A0 l'.length c0) l'.length (flatD l') ∧ (∀ d ∈ l', RpAt wr d.t) ∧ (∀ d ∈ l', ∀ b, blkOf d.t.A = some b → w.heap.size ≤ b ∧ b < wr.heap.size ∧ blkOf A0 ≠ some b) ∧ l'.map strip = (l.take i).map cutD ∧ Same w wr)
  case atStart => exact ⟨0, _, _, [], Nat.zero_le _, Nat.zero_le _, rfl, rfl, rfl, rfl, own_lit w w.heap.size _ 29 #[] 0 (Nat.le_refl _) (by decide) rfl, by simp, by simp, by simp, (Chg.refl _ w).alloc _⟩
  case round =>
    obtain ⟨i, A0, c0, l', hi, hik, hkk, rfl, rfl, hll, hown, hrp, hbl, hmap, hsm⟩ := hrel
    have Hk := hide hkk
    have Hsm := hide hsm
    have Hown := hide hown
    have Hrp := hide hrp
    have Hbl := hide hbl
    have Hmap := hide hmap
    have Hll := hide hll
    clear hkk hsm hown hrp hbl hmap hll
    by_cases hlt : i < n
    · by_cases hlk : i < k
      · have hil : i < l.length := by rw [Hn.out]; exact hlt
        obtain ⟨b, off, rfl, hbb, hra, hra2⟩ := (H.out.same Hsm.out).at_ hil
        have Hra := hide hra
        have Hdr := hide hra2
        have Htk := hide (List.take_succ_eq_append_getElem (l := l) hil)
        obtain ⟨d, hdd⟩ : ∃ d, l[i] = d := ⟨_, rfl⟩
        rw [hdd] at Hra Hdr Htk
        have h28 : (ddL d)[28]? = some (.slice d.t.A d.t.ids.length d.t.cp) := rfl
        have Hlen := hide (ddL_length d)
        have Hon := hide (one_ddL d)
        have Hset := hide (fun A c => ddL_set d A c)
        have Hlen2 := hide (fun A c => ddL_length (laidD d A c))
        have HBl := hide (Blk.new wr 45 (ddL d).toArray)
        have hlm : d.t.ids.length ≤ maxLen := Nat.le_trans Hdr.out.le Hdr.out.cp
        unfold maxLen at hlm
        obtain ⟨m, hm⟩ : ∃ m, d.t.ids.length = m := ⟨_, rfl⟩
        have hcp := Hdr.out.le
        rw [hm] at h28 hlm hcp
        have Hm := hide hm
        have hcut := cut_hi (P := Tryz.prog) slI d.t.A m d.t.cp .i64 20 20 rfl
        have Hcut := hide hcut
        have Hrd0 := hide Hdr.out.rd
        obtain ⟨At, hAt⟩ : ∃ At, d.t.A = At := ⟨_, rfl⟩
        obtain ⟨ct, hct⟩ : ∃ ct, d.t.cp = ct := ⟨_, rfl⟩
        rw [hAt, hct] at h28 Hcut
        rw [hct] at hcp
        rw [hAt] at Hrd0
        clear hra hra2 hdd hm hcut hAt hct
        have hll := Hll.out
        obtain ⟨fl, hfl⟩ : ∃ fl, flatD l' = fl := ⟨_, rfl⟩
        have Hfl := hide hfl
        rw [hfl] at Hown
        rw [hll] at Hown
        clear hfl hll
        generalize hL : ddL d = L at *
        have HL := hide hL
        clear hL
        have hO : ((wr.alloc (.cells L.toArray 45)).alloc (.cells #[] 3)).ownsRow (wr.heap.size + 1) 3 1 (.slice (some ⟨wr.heap.size + 1, 0, none⟩) 0 0) 0 [] := by
          have h := own_lit (wr.alloc (.cells L.toArray 45)) (wr.heap.size + 1) 3 1 #[] 0 (by simp) (by decide) rfl
          rw [World.size_alloc] at h
          exact h
        have HO := hide hO
        clear hO
        by_cases h20 : 20 < m
        · have hc20 := Hcut.out (by omega)
          have htk : (d.t.ids.take 20).length = 20 := by rw [List.length_take, Hm.out]; omega
          have Htl := hide htk
          have Hr20 := hide (show Rd wr At (is (d.t.ids.take 20)) by rw [← is_take]; exact Hrd0.out.take 20)
          clear htk Hcut
          go_wp2_with (first
            | (refine wpList_ld (by rfl) 45 _ rfl b (off + i * 29) rfl L _ Hra.out Tryz.underlying45 rfl (by rw [Hlen.out]; exact infoDeed) ?_)
            | (refine wpList_st (by rfl) 45 _ _ rfl rfl L rfl _ _ (by rw [Hlen.out]; exact infoDeed) (by rw [Hlen.out]; rfl) Hon.out ?_)
            | (at_builtin; refine wpList_appS (by rfl) (.tmp 34) (.tmp 35) _ (by rfl) slI (by rfl) (base := wr.heap.size + 1) (by exact HO.out) (by rfl) (show (is (d.t.ids.take 20)).length = 20 * 1 from by rw [is_length, Htl.out]) (by exact (Hr20.out.alloc _).alloc _) (one_is _) (by omega) (by omega) (by simp) ?_; intro A3 c3 w5 hown hc hb; have Hown3 := hide hown; have Hs5 : Hid (Same wr w5) := hide (Chg.fresh (S := fun k => wr.heap.size < k) ((((Chg.refl (fun k => wr.heap.size < k) wr).alloc _).alloc _).trans hc (fun k _ e => by simp [blkOf] at e; omega)) (fun _ h => Nat.le_of_lt h)); have hb5 : Blk w5 wr.heap.size 45 L.toArray := (HBl.out.alloc _).chg hc (fun e => by simp [blkOf] at e); have HB5 := hide hb5; have hk5 : w5.cell? ⟨wr.heap.size, 28, none⟩ = some (.slice At m ct) := (by rw [hb5.cell]; simpa using h28); have hf5 := hb5.frozen 28; clear hown hc hb hb5)
            | (refine wpList_ld (by rfl) 45 _ rfl wr.heap.size 0 rfl (L.set 28 (.slice A3 (0 + 20) c3)) _ (rangeAt_own (HB5.out.set_ 28 (.slice A3 (0 + 20) c3))) Tryz.underlying45 rfl (by rw [List.length_set, Hlen.out]; exact infoDeed) ?_)
            | (refine wpList_bs1 (by rfl) 22 45 _ rfl (L.set 28 (.slice A3 (0 + 20) c3)) rfl _ 29 240 Tryz.underlying22 infoD3 (by rw [List.length_set, Hlen.out]) (by decide) (by decide) ?_)
            | (at_builtin; refine wpList_appS (by rfl) (.tmp 40) (.tmp 42) _ (by rfl) slD (by rfl) (base := w.heap.size) (by exact own_chg Hown.out ((((Same.to Hs5.out : Chg (fun k => k = wr.heap.size) wr w5)).setCell (p := ⟨wr.heap.size, 28, none⟩) (.inl rfl) _).alloc _) (fun b' hb' e => by have := (Hown.out.lt b' hb').2; omega)) (by rfl) (show (L.set 28 (.slice A3 (0 + 20) c3)).length = 1 * 29 from by rw [List.length_set, Hlen.out]) (by exact rd_lit _ _ _ _ _ (by simp)) (by intro u hu; rcases List.mem_or_eq_of_mem_set hu with h | h; exact Hon.out u h; rw [h]; rfl) (by have := Hk64.out; omega) (by have := Hk64.out; omega) (by have := (Hsm.out.trans Hs5.out).size; simp; omega) ?_; intro A4 c4 w8 hown hc hb; have Hown8 := hide hown; have HC8 := hide hc; have HB8 := hide hb; clear hown hc hb))
          go_roundg (n - (i + 1))
          case measure => have := Hk.out; omega
          case rel =>
            exact few_step Hk64.out Hdr.out Htk.out (by rw [Htl.out]) rfl Hsm.out Hs5.out Hown3.out Hown.out Hown8.out HC8.out HB8.out Hrp.out Hbl.out Hmap.out Hll.out Hfl.out HL.out (by omega) (by omega) _ (by go_num)
        · have htk : d.t.ids.take 20 = d.t.ids := List.take_of_length_le (by rw [Hm.out]; omega)
          have Htl := hide (show (d.t.ids.take 20).length = m by rw [htk, Hm.out])
          have Hr20 := hide (show Rd wr At (is (d.t.ids.take 20)) by rw [htk]; exact Hrd0.out)
          clear htk Hcut
          go_wp2_with (first
            | (refine wpList_ld (by rfl) 45 _ rfl b (off + i * 29) rfl L _ Hra.out Tryz.underlying45 rfl (by rw [Hlen.out]; exact infoDeed) ?_)
            | (refine wpList_st (by rfl) 45 _ _ rfl rfl L rfl _ _ (by rw [Hlen.out]; exact infoDeed) (by rw [Hlen.out]; rfl) Hon.out ?_)
            | (at_builtin; refine wpList_appS (by rfl) (.tmp 34) (.tmp 35) _ (by rfl) slI (by rfl) (base := wr.heap.size + 1) (by exact HO.out) (by rfl) (show (is (d.t.ids.take 20)).length = m * 1 from by rw [is_length, Htl.out, Nat.mul_one]) (by exact (Hr20.out.alloc _).alloc _) (one_is _) (by omega) (by omega) (by simp) ?_; intro A3 c3 w5 hown hc hb; have Hown3 := hide hown; have Hs5 : Hid (Same wr w5) := hide (Chg.fresh (S := fun k => wr.heap.size < k) ((((Chg.refl (fun k => wr.heap.size < k) wr).alloc _).alloc _).trans hc (fun k _ e => by simp [blkOf] at e; omega)) (fun _ h => Nat.le_of_lt h)); have hb5 : Blk w5 wr.heap.size 45 L.toArray := (HBl.out.alloc _).chg hc (fun e => by simp [blkOf] at e); have HB5 := hide hb5; have hk5 : w5.cell? ⟨wr.heap.size, 28, none⟩ = some (.slice At m ct) := (by rw [hb5.cell]; simpa using h28); have hf5 := hb5.frozen 28; clear hown hc hb hb5)
            | (refine wpList_ld (by rfl) 45 _ rfl wr.heap.size 0 rfl (L.set 28 (.slice A3 m c3)) _ (rangeAt_own (HB5.out.set_ 28 (.slice A3 m c3))) Tryz.underlying45 rfl (by rw [List.length_set, Hlen.out]; exact infoDeed) ?_)
            | (refine wpList_bs1 (by rfl) 22 45 _ rfl (L.set 28 (.slice A3 m c3)) rfl _ 29 240 Tryz.underlying22 infoD3 (by rw [List.length_set, Hlen.out]) (by decide) (by decide) ?_)
            | (at_builtin; refine wpList_appS (by rfl) (.tmp 40) (.tmp 42) _ (by rfl) slD (by rfl) (base := w.heap.size) (by exact own_chg Hown.out ((((Same.to Hs5.out : Chg (fun k => k = wr.heap.size) wr w5)).setCell (p := ⟨wr.heap.size, 28, none⟩) (.inl rfl) _).alloc _) (fun b' hb' e => by have := (Hown.out.lt b' hb').2; omega)) (by rfl) (show (L.set 28 (.slice A3 m c3)).length = 1 * 29 from by rw [List.length_set, Hlen.out]) (by exact rd_lit _ _ _ _ _ (by simp)) (by intro u hu; rcases List.mem_or_eq_of_mem_set hu with h | h; exact Hon.out u h; rw [h]; rfl) (by have := Hk64.out; omega) (by have := Hk64.out; omega) (by have := (Hsm.out.trans Hs5.out).size; simp; omega) ?_; intro A4 c4 w8 hown hc hb; have Hown8 := hide hown; have HC8 := hide hc; have HB8 := hide hb; clear hown hc hb))
          go_roundg (n - (i + 1))
          case measure => have := Hk.out; omega
          case rel =>
            exact few_step Hk64.out Hdr.out Htk.out (by rw [Htl.out]) rfl Hsm.out Hs5.out Hown3.out Hown.out Hown8.out HC8.out HB8.out Hrp.out Hbl.out Hmap.out Hll.out Hfl.out HL.out (by omega) (by omega) _ (by go_num)
      · have hie : i = k := by omega
        subst hie
        go_wp2_with fail
        go_ret
        refine ⟨A0, c0, l', by rw [Hll.out]; rfl, Hown.out, Hrp.out, Hbl.out, Hmap.out, Hsm.out⟩
    · have hie : n = i := by omega
      subst hie
      go_wp2_with fail
      go_ret
      refine ⟨A0, c0, l', by rw [Hll.out]; rfl, Hown.out, Hrp.out, Hbl.out, ?_, Hsm.out⟩
      rw [Hmap.out, List.take_of_length_le (by rw [Hn.out]; omega), List.take_of_length_le (by rw [Hn.out]; omega)]
end Go.Proofs.YtenkdjfikppkdaaGreat
/-! CgIn -/
namespace Go.Proofs.YtenkdjfikppkdaaGreat
open Go.Al Go.RowKit Go.ChangeShapes Go.WideShapes
set_option linter.unusedVariables false

def Wf3 (p : P3) : Prop := (Lit.int .i64 p.1).wf = true ∧ (Lit.int .i64 p.2.1).wf = true ∧ (Lit.int .i64 p.2.2).wf = true
def WfCg (c : Cg) : Prop := (Lit.int .i64 c.k).wf = true ∧ Wf3 c.p ∧ Wf3 c.s
section
variable {H : Type} {enc : TypeId × Value → H} {P : Program} {w : World} {base : Nat} {spare : Nat → Bool} {held : Bool}
theorem trod_i1 {t : TypeId} {n : Nat} {cs : List Value} {x : DataW H × List MemPlace} (hu : P.underlying t = some (.int .i64)) (h : DataW.trod enc P w base spare held n t cs = some x) :
    ∃ a, cs = [.int .i64 a] ∧ (Lit.int .i64 a).wf = true := by
  obtain ⟨k, hk, _, wk⟩ := DataW.trod_int hu h
  exact ⟨k, hk, wk⟩
theorem trod_i3 {t : TypeId} {f0 f1 f2 : Field} {n : Nat} {cs : List Value} {x : DataW H × List MemPlace} (hs : P.underlying t = some (.struct #[f0, f1, f2])) (hC : P.cellsOf t = 3)
    (o0 : f0.offset = 0) (o1 : f1.offset = 1) (o2 : f2.offset = 2) (u0 : P.underlying f0.type = some (.int .i64)) (u1 : P.underlying f1.type = some (.int .i64)) (u2 : P.underlying f2.type = some (.int .i64))
    (k0 : P.cellsOf f0.type = 1) (k1 : P.cellsOf f1.type = 1) (k2 : P.cellsOf f2.type = 1) (h : DataW.trod enc P w base spare held n t cs = some x) :
    ∃ p : P3, cs = [.int .i64 p.1, .int .i64 p.2.1, .int .i64 p.2.2] ∧ Wf3 p := by
  obtain ⟨xs, m, _, _, hl, hlen, hf⟩ := DataW.trod_struct hs h
  rw [hC] at hl
  match cs, hl with
  | [c0, c1, c2], _ =>
    match xs, hlen with
    | [y0, y1, y2], _ =>
      have g0 := hf 0 f0 rfl
      have g1 := hf 1 f1 rfl
      have g2 := hf 2 f2 rfl
      simp [o0, o1, o2, k0, k1, k2] at g0 g1 g2
      obtain ⟨a, ha, wa⟩ := trod_i1 u0 g0
      obtain ⟨b, hb, wb⟩ := trod_i1 u1 g1
      obtain ⟨c, hc, wc⟩ := trod_i1 u2 g2
      simp at ha hb hc
      subst ha hb hc
      exact ⟨(a, b, c), rfl, wa, wb, wc⟩
theorem trod_cg {t : TypeId} {f0 f1 f2 p0 p1 p2 s0 s1 s2 : Field} {n : Nat} {cs : List Value} {x : DataW H × List MemPlace} (hs : P.underlying t = some (.struct #[f0, f1, f2])) (hC : P.cellsOf t = 7)
    (o0 : f0.offset = 0) (o1 : f1.offset = 1) (o2 : f2.offset = 4) (u0 : P.underlying f0.type = some (.int .i64)) (k0 : P.cellsOf f0.type = 1)
    (hp : P.underlying f1.type = some (.struct #[p0, p1, p2])) (kp : P.cellsOf f1.type = 3) (hss : P.underlying f2.type = some (.struct #[s0, s1, s2])) (ks : P.cellsOf f2.type = 3)
    (hpp : p0.offset = 0 ∧ p1.offset = 1 ∧ p2.offset = 2 ∧ P.underlying p0.type = some (.int .i64) ∧ P.underlying p1.type = some (.int .i64) ∧ P.underlying p2.type = some (.int .i64) ∧ P.cellsOf p0.type = 1 ∧ P.cellsOf p1.type = 1 ∧ P.cellsOf p2.type = 1)
    (hsp : s0.offset = 0 ∧ s1.offset = 1 ∧ s2.offset = 2 ∧ P.underlying s0.type = some (.int .i64) ∧ P.underlying s1.type = some (.int .i64) ∧ P.underlying s2.type = some (.int .i64) ∧ P.cellsOf s0.type = 1 ∧ P.cellsOf s1.type = 1 ∧ P.cellsOf s2.type = 1)
    (h : DataW.trod enc P w base spare held n t cs = some x) :
    ∃ c : Cg, cs = [.int .i64 c.k, .int .i64 c.p.1, .int .i64 c.p.2.1, .int .i64 c.p.2.2, .int .i64 c.s.1, .int .i64 c.s.2.1, .int .i64 c.s.2.2] ∧ WfCg c := by
  obtain ⟨xs, m, _, _, hl, hlen, hf⟩ := DataW.trod_struct hs h
  rw [hC] at hl
  match cs, hl with
  | [c0, c1, c2, c3, c4, c5, c6], _ =>
    match xs, hlen with
    | [y0, y1, y2], _ =>
      have g0 := hf 0 f0 rfl
      have g1 := hf 1 f1 rfl
      have g2 := hf 2 f2 rfl
      simp [o0, o1, o2, k0, kp, ks] at g0 g1 g2
      obtain ⟨a, ha, wa⟩ := trod_i1 u0 g0
      obtain ⟨p, hb, wb⟩ := trod_i3 hp kp hpp.1 hpp.2.1 hpp.2.2.1 hpp.2.2.2.1 hpp.2.2.2.2.1 hpp.2.2.2.2.2.1 hpp.2.2.2.2.2.2.1 hpp.2.2.2.2.2.2.2.1 hpp.2.2.2.2.2.2.2.2 g1
      obtain ⟨q, hc, wc⟩ := trod_i3 hss ks hsp.1 hsp.2.1 hsp.2.2.1 hsp.2.2.2.1 hsp.2.2.2.2.1 hsp.2.2.2.2.2.1 hsp.2.2.2.2.2.2.1 hsp.2.2.2.2.2.2.2.1 hsp.2.2.2.2.2.2.2.2 g2
      simp at ha hb hc
      obtain ⟨rfl, rfl, rfl⟩ := hb
      obtain ⟨rfl, rfl, rfl⟩ := hc
      subst ha
      exact ⟨⟨a, p, q⟩, rfl, wa, wb, wc⟩
end

/-- the program's own change -/
theorem trod_change {H : Type} {enc : TypeId × Value → H} {w : World} {base : Nat} {spare : Nat → Bool} {held : Bool} {n : Nat} {cs : List Value} {x : DataW H × List MemPlace} (h : DataW.trod enc Tryz.prog w base spare held n 35 cs = some x) :
    ∃ c : Cg, cs = [.int .i64 c.k, .int .i64 c.p.1, .int .i64 c.p.2.1, .int .i64 c.p.2.2, .int .i64 c.s.1, .int .i64 c.s.2.1, .int .i64 c.s.2.2] ∧ WfCg c :=
  trod_cg Tryz.underlying35 (by kernel_rfl) rfl rfl rfl Tryz.underlying3 (by kernel_rfl) Tryz.underlying31 (by kernel_rfl) Tryz.underlying33 (by kernel_rfl)
    ⟨rfl, rfl, rfl, Tryz.underlying3, Tryz.underlying3, Tryz.underlying3, by kernel_rfl, by kernel_rfl, by kernel_rfl⟩ ⟨rfl, rfl, rfl, Tryz.underlying3, Tryz.underlying3, Tryz.underlying3, by kernel_rfl, by kernel_rfl, by kernel_rfl⟩ h

set_option maxRecDepth 100000 in
/-- a change by value -/
theorem open_change {H : Type} {enc : TypeId × Value → H} {w : World} {base b0 : Nat} {spare : Nat → Bool} {held : Bool} {r : Reach} {v : Value} {d : DataW H} {p : List MemPlace}
    (hv : Value.okWide Tryz.prog w r b0 35 v) (h : DataW.Trod enc Tryz.prog w base spare held 35 v d p) : ∃ c : Cg, v = cgV c ∧ WfCg c := by
  obtain ⟨cs, rfl, hsz⟩ := okWide_struct Tryz.underlying35 hv
  obtain ⟨n, hn⟩ := h
  obtain ⟨c, hc, hw⟩ := trod_change hn
  refine ⟨c, ?_, hw⟩
  have : cs.toList = _ := hc
  rw [← Array.toArray_toList (xs := cs), this]
  rfl

/-- a slice of changes that came in -/
def ActsC (w : World) (A : Option Addr) (n : Nat) (l : List Cg) : Prop :=
  l.length = n ∧ (l ≠ [] → ∃ b off, A = some ⟨b, off, none⟩ ∧ b < w.heap.size ∧ ∀ i (h : i < l.length),
    w.cell? ⟨b, off + i * 7, none⟩ = some (.int .i64 l[i].k) ∧ w.cell? ⟨b, off + i * 7 + 1, none⟩ = some (.int .i64 l[i].p.1) ∧ w.cell? ⟨b, off + i * 7 + 2, none⟩ = some (.int .i64 l[i].p.2.1) ∧ w.cell? ⟨b, off + i * 7 + 3, none⟩ = some (.int .i64 l[i].p.2.2) ∧
    w.cell? ⟨b, off + i * 7 + 4, none⟩ = some (.int .i64 l[i].s.1) ∧ w.cell? ⟨b, off + i * 7 + 5, none⟩ = some (.int .i64 l[i].s.2.1) ∧ w.cell? ⟨b, off + i * 7 + 6, none⟩ = some (.int .i64 l[i].s.2.2))
def CellsC (w : World) (b o : Nat) (c : Cg) : Prop :=
  w.cell? ⟨b, o, none⟩ = some (.int .i64 c.k) ∧ w.cell? ⟨b, o + 1, none⟩ = some (.int .i64 c.p.1) ∧ w.cell? ⟨b, o + 2, none⟩ = some (.int .i64 c.p.2.1) ∧ w.cell? ⟨b, o + 3, none⟩ = some (.int .i64 c.p.2.2) ∧
    w.cell? ⟨b, o + 4, none⟩ = some (.int .i64 c.s.1) ∧ w.cell? ⟨b, o + 5, none⟩ = some (.int .i64 c.s.2.1) ∧ w.cell? ⟨b, o + 6, none⟩ = some (.int .i64 c.s.2.2)
theorem ActsC.at_ {w wr : World} {A : Option Addr} {n i : Nat} {l : List Cg} (h : ActsC w A n l) (hw : ∀ c ∈ l, WfCg c) (hs : Same w wr) (hi : i < n) :
    ∃ b off c, A = some ⟨b, off, none⟩ ∧ b < w.heap.size ∧ l[i]? = some c ∧ WfCg c ∧ CellsC wr b (off + i * 7) c := by
  have hl : i < l.length := by rw [h.1]; exact hi
  obtain ⟨b, off, e, hb, hc⟩ := h.2 (fun e => by rw [e] at hl; simp at hl)
  obtain ⟨h0, h1, h2, h3, h4, h5, h6⟩ := hc i hl
  have k : ∀ j, wr.cell? ⟨b, j, none⟩ = w.cell? ⟨b, j, none⟩ := fun j => hs.cell (p := ⟨b, j, none⟩) hb (fun h => h)
  exact ⟨b, off, l[i], e, hb, List.getElem?_eq_getElem hl, hw _ (List.getElem_mem hl), (k _).trans h0, (k _).trans h1, (k _).trans h2, (k _).trans h3, (k _).trans h4, (k _).trans h5, (k _).trans h6⟩
def IsActsC (w : World) (a : Option Addr) (len cap : Nat) (l : List Cg) : Prop := ActsC w a len l ∧ (∀ c ∈ l, WfCg c) ∧ len ≤ cap ∧ cap ≤ maxLen
end Go.Proofs.YtenkdjfikppkdaaGreat
/-! DdIn -/
namespace Go.Proofs.YtenkdjfikppkdaaGreat
open Go.Al Go.RowKit Go.ChangeShapes Go.WideShapes
set_option linter.unusedVariables false
section
variable {H : Type} {enc : TypeId × Value → H} {w : World} {base : Nat} {spare : Nat → Bool} {held : Bool} {n : Nat} {cs : List Value} {x : DataW H × List MemPlace}
set_option maxRecDepth 100000 in
theorem trod_box (h : DataW.trod enc Tryz.prog w base spare held n 25 cs = some x) : ∃ a b c d : Int, cs = [.int .i64 a, .int .i64 b, .int .i64 c, .int .i64 d] := by
  obtain ⟨xs, m, _, _, hl, hlen, hf⟩ := DataW.trod_struct Tryz.underlying25 h
  rw [show Tryz.prog.cellsOf 25 = 4 by kernel_rfl] at hl
  match cs, hl with
  | [c0, c1, c2, c3], _ =>
    match xs, hlen with
    | [y0, y1, y2, y3], _ =>
      have g0 := hf 0 _ rfl
      have g1 := hf 1 _ rfl
      have g2 := hf 2 _ rfl
      have g3 := hf 3 _ rfl
      simp [show Tryz.prog.cellsOf 3 = 1 by kernel_rfl] at g0
      simp [show Tryz.prog.cellsOf 3 = 1 by kernel_rfl] at g1
      simp [show Tryz.prog.cellsOf 3 = 1 by kernel_rfl] at g2
      simp [show Tryz.prog.cellsOf 3 = 1 by kernel_rfl] at g3
      obtain ⟨a, e0, _⟩ := trod_i1 Tryz.underlying3 g0
      obtain ⟨b, e1, _⟩ := trod_i1 Tryz.underlying3 g1
      obtain ⟨c, e2, _⟩ := trod_i1 Tryz.underlying3 g2
      obtain ⟨d, e3, _⟩ := trod_i1 Tryz.underlying3 g3
      simp at e0 e1 e2 e3
      subst e0
      subst e1
      subst e2
      subst e3
      exact ⟨a, b, c, d, rfl⟩
set_option maxRecDepth 100000 in
theorem trod_win (h : DataW.trod enc Tryz.prog w base spare held n 27 cs = some x) : ∃ a b c : Int, cs = [.int .i64 a, .int .i64 b, .int .i64 c] := by
  obtain ⟨xs, m, _, _, hl, hlen, hf⟩ := DataW.trod_struct Tryz.underlying27 h
  rw [show Tryz.prog.cellsOf 27 = 3 by kernel_rfl] at hl
  match cs, hl with
  | [c0, c1, c2], _ =>
    match xs, hlen with
    | [y0, y1, y2], _ =>
      have g0 := hf 0 _ rfl
      have g1 := hf 1 _ rfl
      have g2 := hf 2 _ rfl
      simp [show Tryz.prog.cellsOf 3 = 1 by kernel_rfl] at g0
      simp [show Tryz.prog.cellsOf 3 = 1 by kernel_rfl] at g1
      simp [show Tryz.prog.cellsOf 3 = 1 by kernel_rfl] at g2
      obtain ⟨a, e0, _⟩ := trod_i1 Tryz.underlying3 g0
      obtain ⟨b, e1, _⟩ := trod_i1 Tryz.underlying3 g1
      obtain ⟨c, e2, _⟩ := trod_i1 Tryz.underlying3 g2
      simp at e0 e1 e2
      subst e0
      subst e1
      subst e2
      exact ⟨a, b, c, rfl⟩
set_option maxRecDepth 100000 in
theorem trod_query (h : DataW.trod enc Tryz.prog w base spare held n 29 cs = some x) : ∃ q : Qy, cs = qL q := by
  obtain ⟨xs, m, _, _, hl, hlen, hf⟩ := DataW.trod_struct Tryz.underlying29 h
  rw [show Tryz.prog.cellsOf 29 = 10 by kernel_rfl] at hl
  match cs, hl with
  | [c0, c1, c2, c3, c4, c5, c6, c7, c8, c9], _ =>
    match xs, hlen with
    | [y0, y1, y2, y3, y4], _ =>
      have g0 := hf 0 _ rfl
      have g1 := hf 1 _ rfl
      have g2 := hf 2 _ rfl
      have g3 := hf 3 _ rfl
      have g4 := hf 4 _ rfl
      simp [show Tryz.prog.cellsOf 3 = 1 by kernel_rfl] at g0
      simp [show Tryz.prog.cellsOf 25 = 4 by kernel_rfl] at g1
      simp [show Tryz.prog.cellsOf 27 = 3 by kernel_rfl] at g2
      simp [show Tryz.prog.cellsOf 3 = 1 by kernel_rfl] at g3
      simp [show Tryz.prog.cellsOf 3 = 1 by kernel_rfl] at g4
      obtain ⟨k, e0, _⟩ := trod_i1 Tryz.underlying3 g0
      obtain ⟨a, b, c, d, e1⟩ := trod_box g1
      obtain ⟨e, f, g, e2⟩ := trod_win g2
      obtain ⟨u, e3, _⟩ := trod_i1 Tryz.underlying3 g3
      obtain ⟨v, e4, _⟩ := trod_i1 Tryz.underlying3 g4
      simp at e0 e1 e2 e3 e4
      subst e0
      obtain ⟨rfl, rfl, rfl, rfl⟩ := e1
      obtain ⟨rfl, rfl, rfl⟩ := e2
      subst e3
      subst e4
      exact ⟨⟨k, a, b, c, d, e, f, g, u, v⟩, rfl⟩
set_option maxRecDepth 100000 in
theorem trod_req (h : DataW.trod enc Tryz.prog w base spare held n 37 cs = some x) : ∃ r : Rq, cs = rqL r ∧ WfCg r.c := by
  obtain ⟨xs, m, _, _, hl, hlen, hf⟩ := DataW.trod_struct Tryz.underlying37 h
  rw [show Tryz.prog.cellsOf 37 = 18 by kernel_rfl] at hl
  match cs, hl with
  | [c0, c1, c2, c3, c4, c5, c6, c7, c8, c9, c10, c11, c12, c13, c14, c15, c16, c17], _ =>
    match xs, hlen with
    | [y0, y1, y2], _ =>
      have g0 := hf 0 _ rfl
      have g1 := hf 1 _ rfl
      have g2 := hf 2 _ rfl
      simp [show Tryz.prog.cellsOf 3 = 1 by kernel_rfl] at g0
      simp [show Tryz.prog.cellsOf 35 = 7 by kernel_rfl] at g1
      simp [show Tryz.prog.cellsOf 29 = 10 by kernel_rfl] at g2
      obtain ⟨k, e0, _⟩ := trod_i1 Tryz.underlying3 g0
      obtain ⟨c, e1, wc⟩ := trod_change g1
      obtain ⟨q, e2⟩ := trod_query g2
      unfold qL at e2
      simp at e0 e1 e2
      subst e0
      obtain ⟨rfl, rfl, rfl, rfl, rfl, rfl, rfl⟩ := e1
      obtain ⟨rfl, rfl, rfl, rfl, rfl, rfl, rfl, rfl, rfl, rfl⟩ := e2
      exact ⟨⟨k, c, q⟩, rfl, wc⟩
theorem trod_list (h : DataW.trod enc Tryz.prog w base spare held n 38 cs = some x) : ∃ (A : Option Addr) (c : Nat) (l : List Int), cs = [.slice A l.length c] ∧ Rd w A (is l) ∧ l.length ≤ c ∧ c ≤ maxLen := by
  rcases open_ints Tryz.underlying38 Tryz.underlying3 (by kernel_rfl) h with ⟨hcs, _⟩ | ⟨a, len, cap, zs, hcs, _, hl, hm, hz, _, hcell, hwz⟩
  · exact ⟨none, 0, [], by simpa using hcs, Rd.nil _ _, Nat.le_refl _, Nat.zero_le _⟩
  · have hzl : len ≤ zs.length := by
      rw [hz]; split <;> omega
    refine ⟨some a, cap, zs.take len, by rw [List.length_take, Nat.min_eq_left hzl]; simpa using hcs, ?_, by rw [List.length_take, Nat.min_eq_left hzl]; exact hl, hm⟩
    by_cases h0 : len = 0
    · subst h0; simpa [is] using Rd.nil w (some a)
    · have hc0 := hcell 0 (by omega)
      have hs := World.cell?_spot hc0
      obtain ⟨xb, xo, xs⟩ := a
      have hs' : xs = none := by simpa [Addr.add] using hs
      subst hs'
      intro _
      refine ⟨xb, xo, rfl, fun i v hv => ?_⟩
      have hi : i < len := by
        have := (List.getElem?_eq_some_iff.1 hv).1
        simpa [List.length_take, Nat.min_eq_left hzl] using this
      have := hcell i (by omega)
      rw [add_lit] at this
      rw [this, ← hv]
      simp [is, hi, List.getD_eq_getElem?_getD, show i < zs.length by omega]
set_option maxRecDepth 100000 in
theorem trod_ans (h : DataW.trod enc Tryz.prog w base spare held n 40 cs = some x) : ∃ (k : Int) (A : Option Addr) (c : Nat) (l : List Int), cs = [.int .i64 k, .slice A l.length c] ∧ Rd w A (is l) ∧ l.length ≤ c ∧ c ≤ maxLen := by
  obtain ⟨xs, m, _, _, hl, hlen, hf⟩ := DataW.trod_struct Tryz.underlying40 h
  rw [show Tryz.prog.cellsOf 40 = 2 by kernel_rfl] at hl
  match cs, hl with
  | [c0, c1], _ =>
    match xs, hlen with
    | [y0, y1], _ =>
      have g0 := hf 0 _ rfl
      have g1 := hf 1 _ rfl
      simp [show Tryz.prog.cellsOf 3 = 1 by kernel_rfl] at g0
      simp [show Tryz.prog.cellsOf 38 = 1 by kernel_rfl] at g1
      obtain ⟨k, e0, _⟩ := trod_i1 Tryz.underlying3 g0
      obtain ⟨A, c, l, e1, hr, h1, h2⟩ := trod_list g1
      simp at e0 e1
      subst e0
      subst e1
      exact ⟨k, A, c, l, rfl, hr, h1, h2⟩
set_option maxRecDepth 100000 in
theorem trod_rep (h : DataW.trod enc Tryz.prog w base spare held n 43 cs = some x) : ∃ t : Rp, cs = rpL t ∧ RpAt w t := by
  obtain ⟨xs, m, _, _, hl, hlen, hf⟩ := DataW.trod_struct Tryz.underlying43 h
  rw [show Tryz.prog.cellsOf 43 = 5 by kernel_rfl] at hl
  match cs, hl with
  | [c0, c1, c2, c3, c4], _ =>
    match xs, hlen with
    | [y0, y1, y2, y3], _ =>
      have g0 := hf 0 _ rfl
      have g1 := hf 1 _ rfl
      have g2 := hf 2 _ rfl
      have g3 := hf 3 _ rfl
      simp [show Tryz.prog.cellsOf 41 = 1 by kernel_rfl] at g0
      simp [show Tryz.prog.cellsOf 4 = 1 by kernel_rfl] at g1
      simp [show Tryz.prog.cellsOf 4 = 1 by kernel_rfl] at g2
      simp [show Tryz.prog.cellsOf 40 = 2 by kernel_rfl] at g3
      obtain ⟨e, e0, _⟩ := trod_i1 Tryz.underlying41 g0
      obtain ⟨a, e1, _⟩ := DataW.trod_bool Tryz.underlying4 g1
      obtain ⟨b, e2, _⟩ := DataW.trod_bool Tryz.underlying4 g2
      obtain ⟨k, A, c, l, e3, hr, h1, h2⟩ := trod_ans g3
      simp at e0 e1 e2 e3
      subst e0
      subst e1
      subst e2
      obtain ⟨rfl, rfl⟩ := e3
      exact ⟨⟨e, a, b, k, A, c, l⟩, rfl, hr, h1, h2⟩
set_option maxRecDepth 100000 in
theorem trod_deed (h : DataW.trod enc Tryz.prog w base spare held n 45 cs = some x) : ∃ d : Dd, cs = ddL d ∧ WfCg d.r.c ∧ RpAt w d.t := by
  obtain ⟨xs, m, _, _, hl, hlen, hf⟩ := DataW.trod_struct Tryz.underlying45 h
  rw [show Tryz.prog.cellsOf 45 = 29 by kernel_rfl] at hl
  obtain ⟨c0, c1, c2, c3, c4, c5, R, rfl⟩ : ∃ c0 c1 c2 c3 c4 c5 R, cs = c0 :: c1 :: c2 :: c3 :: c4 :: c5 :: R := by
    match cs, hl with
    | c0 :: c1 :: c2 :: c3 :: c4 :: c5 :: R, _ => exact ⟨c0, c1, c2, c3, c4, c5, R, rfl⟩
  have hR : R.length = 23 := by simpa using hl
  match xs, hlen with
  | [y0, y1, y2, y3, y4, y5, y6, y7], _ =>
    have g0 := hf 0 _ rfl
    have g1 := hf 1 _ rfl
    have g2 := hf 2 _ rfl
    have g3 := hf 3 _ rfl
    have g4 := hf 4 _ rfl
    have g5 := hf 5 _ rfl
    have g6 := hf 6 _ rfl
    have g7 := hf 7 _ rfl
    simp [show Tryz.prog.cellsOf 3 = 1 by kernel_rfl] at g0 g1 g2 g3 g4 g5
    simp [show Tryz.prog.cellsOf 37 = 18 by kernel_rfl] at g6
    simp [show Tryz.prog.cellsOf 43 = 5 by kernel_rfl] at g7
    obtain ⟨iv, e0, _⟩ := trod_i1 Tryz.underlying3 g0
    obtain ⟨tk, e1, _⟩ := trod_i1 Tryz.underlying3 g1
    obtain ⟨rp, e2, _⟩ := trod_i1 Tryz.underlying3 g2
    obtain ⟨ab, e3, _⟩ := trod_i1 Tryz.underlying3 g3
    obtain ⟨rf, e4, _⟩ := trod_i1 Tryz.underlying3 g4
    obtain ⟨ss, e5, _⟩ := trod_i1 Tryz.underlying3 g5
    obtain ⟨r, e6, wc⟩ := trod_req g6
    obtain ⟨t, e7, ht⟩ := trod_rep g7
    simp at e0 e1 e2 e3 e4 e5
    subst e0 e1 e2 e3 e4 e5
    refine ⟨⟨iv, tk, rp, ab, rf, ss, r, t⟩, ?_, wc, ht⟩
    have e8 : R = rqL r ++ rpL t := by
      rw [← e6]
      have h7 : R.drop 18 = rpL t := by
        rw [← e7]
        first | rfl | (rw [List.take_of_length_le (by simp; omega)])
      rw [← h7, List.take_append_drop]
    rw [e8]
    rfl
end
end Go.Proofs.YtenkdjfikppkdaaGreat
/-! LnK -/
namespace Go.Proofs.YtenkdjfikppkdaaGreat
open Go.RowKit Go.Al Go.ChangeShapes Go.WideShapes
set_option linter.unusedVariables false

def IsDeeds (w : World) (a : Option Addr) (len cap : Nat) (l : List Dd) : Prop := l.length = len ∧ Dds w a l ∧ (∀ d ∈ l, WfC d.r.c) ∧ len ≤ cap ∧ cap ≤ maxLen
theorem open_deeds {H : Type} {enc : TypeId × Value → H} {w : World} {base fuel : Nat} {spare : Nat → Bool} {held : Bool} {a : Option Addr} {len cap : Nat} {x : DataW H × List MemPlace}
    (h : DataW.trod enc Tryz.prog w base spare held fuel 22 [.slice a len cap] = some x) : ∃ l, IsDeeds w a len cap l := by
  rcases Deep.open_slice Tryz.underlying22 h with ⟨h0, _⟩ | ⟨A, l, c, m, n, D, Pl, hcs, _, hl, hm, hmm, _, hx⟩
  · simp at h0
    obtain ⟨rfl, rfl, rfl⟩ := h0
    exact ⟨[], rfl, ⟨fun h => absurd rfl h, by simp⟩, by simp, Nat.le_refl _, Nat.zero_le _⟩
  · simp at hcs
    obtain ⟨rfl, rfl, rfl⟩ := hcs
    have hlm : len ≤ m := by rw [hmm]; split <;> omega
    have each : ∀ i, ∃ d : Dd, i < len → WfCg d.r.c ∧ RpAt w d.t ∧ ∀ j v, (ddL d)[j]? = some v → w.cell? (A.add (i * 29 + j)) = some v := fun i => by
      by_cases hi : i < len
      · obtain ⟨cs', h1, h2⟩ := hx i (Nat.lt_of_lt_of_le hi hlm)
        rw [show Tryz.prog.cellsOf 45 = 29 by kernel_rfl] at h1
        obtain ⟨_, hlen, hcell⟩ := World.cells?_some h1
        obtain ⟨d, rfl, hw, hr⟩ := trod_deed h2
        refine ⟨d, fun _ => ⟨hw, hr, fun j v hv => ?_⟩⟩
        have hj := (List.getElem?_eq_some_iff.1 hv).1
        have := hcell j (by rw [ddL_length] at hj; exact hj)
        rw [Deep.add_add] at this
        rw [this]
        first | exact hv | (rw [← hv, List.getElem?_eq_getElem hj])
      · exact ⟨addD, fun h => absurd h hi⟩
    obtain ⟨f, hf⟩ := Classical.skolem.1 each
    refine ⟨(List.range len).map f, by simp, ⟨fun hne => ?_, ?_⟩, ?_, hl, hm⟩
    · have h0 : 0 < len := by
        rcases Nat.eq_zero_or_pos len with e | e
        · subst e; simp at hne
        · exact e
      have hz := (hf 0 h0).2.2 0 _ (show (ddL (f 0))[0]? = some (.int .i64 (f 0).iv) from rfl)
      have hlt := World.block_lt_of_cell? w _ hz
      obtain ⟨xb, xo, xs⟩ := A
      have hs : xs = none := by simpa [Addr.add] using World.cell?_spot hz
      subst hs
      rw [add_lit] at hlt
      refine ⟨xb, xo, rfl, hlt, fun i hi j v hv => ?_⟩
      have hi' : i < len := by simpa using hi
      have hv' : (ddL (f i))[j]? = some v := by simpa using hv
      have := (hf i hi').2.2 j v hv'
      rw [add_lit] at this
      rw [← this, ← Nat.add_assoc]
    · intro d hd
      obtain ⟨i, hi, rfl⟩ := List.mem_map.1 hd
      exact (hf i (List.mem_range.1 hi)).2.1
    · intro d hd
      obtain ⟨i, hi, rfl⟩ := List.mem_map.1 hd
      have := (hf i (List.mem_range.1 hi)).1
      exact ⟨this.2.1.1, this.2.2.1⟩

theorem wpList_bs2 {P : Program} {ops : Array Oper} {rest : List Oper} {o : Oper} {a : Act} {w : World} {Q : Exit → Act → World → Prop} (hg : o.guard = none) (t e : TypeId) (x y : Operand) (ho : o.op = .buildSlice t 2 #[(0, x), (1, y)])
    (cs ds : List Value) (hx : a.eval x = .agg cs.toArray) (hy : a.eval y = .agg ds.toArray) (z : Value) (n bytes : Nat) (hu : P.underlying t = some (.slice e)) (hi : (P.info? e).map (fun i => (i.zero, i.size, i.bytes)) = some (some z, n, bytes)) (hn : cs.length = n) (hn2 : ds.length = n) (h0 : 0 < n) (hs : n ≤ 1000)
    (h : wpList P ops Q rest (a.put o.dst (.slice (some ⟨w.heap.size, 0, none⟩) 2 2)) (w.alloc (.cells (cs ++ ds).toArray e))) : wpList P ops Q (o :: rest) a w := by
  obtain ⟨ie, hie, hz, hsz, _⟩ := info_parts hi
  subst hsz
  refine wpList_buildSlice hg t e 2 _ ho (cs ++ ds).toArray ie z hu hie hz (by omega) (by omega) ?_ h
  have h2 := Go.Great.fill_whole h0 [.agg cs.toArray, .agg ds.toArray] ((Array.range (2 * ie.size)).map (z.cells[· % z.cells.size]!)) (by intro v hv; simp at hv; rcases hv with rfl | rfl; simpa [Value.cells] using hn; simpa [Value.cells] using hn2) (by simp)
  have h3 : (((#[(0, x), (1, y)] : Array (Nat × Operand)).map fun (i, x) => (i, a.eval x)).toList) = (([Value.agg cs.toArray, Value.agg ds.toArray].zipIdx 0).map fun x => (x.2, x.1)) := by simp [hx, hy]
  have h4 : ([Value.agg cs.toArray, Value.agg ds.toArray].flatMap fun v => v.cells.toList).toArray = (cs ++ ds).toArray := by simp [Value.cells]
  rw [h3, h2, h4]

set_option maxHeartbeats 1000000 in
theorem Must_is (d : Dd) (w : World) (v : Bool) (h : mustD d = v) :
    Calls Tryz.prog 14 #[ddV d] w fun e w' => e = .returned (.bool v) ∧ Same w w' := by
  have hb := blk_deed w 45 d
  have HM := hide (fun w' => must_is d w' v h)
  have Hs := hide ((Chg.refl (fun _ => False) w).alloc (.cells (ddL d).toArray 45))
  have Hlen := hide (ddL_length d)
  unfold ddV at HM ⊢
  generalize ddL d = L at *
  have Hb := hide hb
  clear hb
  go_enter Tryz.func14, Tryz.ntmps14
  go_wp2_with (first
    | (refine wpList_ld (by rfl) 45 _ rfl w.heap.size 0 rfl L _ Hb.out Tryz.underlying45 rfl (by rw [Hlen.out]; exact infoDeed) ?_)
    | (go_at_call 29; have hF := HM.out (w.alloc (.cells L.toArray 45)); refine hF.mono ?_; rintro e w2 ⟨rfl, hw2⟩; have Hw2 := hide hw2; clear hF hw2))
  go_ret
  exact ⟨rfl, Same.trans Hs.out Hw2.out⟩

theorem built_add : Tryz.prog.built 45 [(1, .int .i64 (-1)), (2, .int .i64 3), (3, .int .i64 (-1)), (4, .int .i64 (-1)), (6, (.agg #[.int .i64 1, .int .i64 1, .int .i64 1, .int .i64 0, .int .i64 0, .int .i64 0, .int .i64 0, .int .i64 0, .int .i64 0, .int .i64 0, .int .i64 0, .int .i64 0, .int .i64 0, .int .i64 0, .int .i64 0, .int .i64 0, .int .i64 0, .int .i64 0]))] = some (ddL addD).toArray := by kernel_rfl
theorem built_ask : Tryz.prog.built 45 [(1, .int .i64 (-1)), (2, .int .i64 2), (3, .int .i64 (-1)), (4, .int .i64 (-1)), (6, (.agg #[.int .i64 2, .int .i64 0, .int .i64 0, .int .i64 0, .int .i64 0, .int .i64 0, .int .i64 0, .int .i64 0, .int .i64 2, .int .i64 0, .int .i64 0, .int .i64 0, .int .i64 0, .int .i64 0, .int .i64 0, .int .i64 0, .int .i64 0, .int .i64 0])), (7, (.agg #[.int .i64 0, .bool true, .bool false, .int .i64 1, .slice none 0 0]))] = some (ddL askD).toArray := by kernel_rfl
theorem rpAt_nil (w : World) {t : Rp} (h : t.ids = []) (hc : t.cp ≤ maxLen) : RpAt w t := ⟨by rw [h]; exact Rd.nil _ _, by rw [h]; exact Nat.zero_le _, hc⟩
/-- two operations, laid one behind the other -/
theorem two_dds {w : World} {g : Nat} (a b : Dd) (h : Blk w g 45 (ddL a ++ ddL b).toArray) (ha : RpAt w a.t) (hb : RpAt w b.t) : Dds w (some ⟨g, 0, none⟩) [a, b] := by
  refine ⟨fun _ => ⟨g, 0, rfl, h.lt, fun i hi => ?_⟩, fun d hd => ?_⟩
  · have hi2 : i = 0 ∨ i = 1 := by simp at hi; omega
    rcases hi2 with rfl | rfl
    · have := rangeAt_blk [] (ddL a) (ddL b) (by simpa using h)
      simpa using this
    · have := rangeAt_blk (ddL a) (ddL b) [] (by simpa using h)
      rw [ddL_length] at this
      simpa using this
  · simp at hd
    rcases hd with rfl | rfl
    · exact ha
    · exact hb
theorem search_two (w : World) : Calls Tryz.prog 6 #[.slice (some ⟨w.heap.size, 0, none⟩) 2 2, .int .i64 5] (w.alloc (.cells (ddL askD ++ ddL addD).toArray 45)) fun e w' => ∃ A' c', e = .returned (.tuple #[.slice A' 2 c', .int .i64 0]) ∧ Rd w' A' (is [1, 0]) ∧ Same (w.alloc (.cells (ddL askD ++ ddL addD).toArray 45)) w' := by
  have h := Search_any (c := 2) (l := [askD, addD]) (A := some ⟨w.heap.size, 0, none⟩) 5 (w.alloc (.cells (ddL askD ++ ddL addD).toArray 45)) (by decide) (by decide) (two_dds askD addD (Blk.new _ _ _) (rpAt_nil _ rfl (Nat.zero_le _)) (rpAt_nil _ rfl (Nat.zero_le _))) (by decide) (by decide) ⟨fun b hb => by simp [blkOf] at hb; subst hb; simp, fun d hd b hb => by simp at hd; rcases hd with rfl | rfl <;> simp [blkOf, askD, addD] at hb⟩ (fun d hd => by simp at hd; rcases hd with rfl | rfl <;> exact ⟨by decide, by decide⟩)
  have hf : found [askD, addD] 5 = some [1, 0] := lives_found
  rw [hf] at h
  exact h

set_option maxRecDepth 100000 in
set_option maxHeartbeats 16000000 in
theorem lives_any (w : World) :
    Calls Tryz.prog 7 #[] w fun e w' => e = .returned (.bool true) ∧ Same w w' := by
  have hb1 : (w.alloc (.cells (ddL addD).toArray 45)).rangeAt w.heap.size 0 (ddL addD) := blk_deed w _ addD
  have hb2 := blk_deed (w.alloc (.cells (ddL addD).toArray 45)) 45 askD
  simp only [World.size_alloc] at hb2
  have hs1 : Same w (w.alloc (.cells (ddL addD).toArray 45)) := (Chg.refl _ _).alloc _
  have hs2 : Same (w.alloc (.cells (ddL addD).toArray 45)) ((w.alloc (.cells (ddL addD).toArray 45)).alloc (.cells (ddL askD).toArray 45)) := (Chg.refl _ _).alloc _
  have hb3 := rangeAt_same hb1 hs2
  have hS := search_two ((w.alloc (.cells (ddL addD).toArray 45)).alloc (.cells (ddL askD).toArray 45))
  simp only [World.size_alloc] at hS
  have HS := hide hS
  have hs3 : Same w (((w.alloc (.cells (ddL addD).toArray 45)).alloc (.cells (ddL askD).toArray 45)).alloc (.cells (ddL askD ++ ddL addD).toArray 45)) := (Same.trans hs1 hs2).alloc _
  have Hb4 := hide (rangeAt_same hb3 ((Chg.refl (fun _ => False) _).alloc (.cells (ddL askD ++ ddL addD).toArray 45)))
  have Hs3 := hide hs3
  have Hb2 := hide hb2
  have Hb3 := hide hb3
  clear hb1 hb2 hs1 hs2 hb3 hS hs3
  have HM := hide (fun w' => Must_is addD w' true rfl)
  unfold ddV at HM
  have HB1 := hide built_add
  have HB2 := hide built_ask
  have Hl1 := hide (ddL_length addD)
  have Hl2 := hide (ddL_length askD)
  have Ho1 := hide (one_ddL addD)
  have Ho2 := hide (one_ddL askD)
  generalize ddL addD = L1 at *
  generalize ddL askD = L2 at *
  go_enter Tryz.func7, Tryz.ntmps7
  go_upto_region 2 with (first
    | (refine wpList_buildTo (by rfl) 45 _ (by rfl) (some 8) rfl L1.toArray (by rw [Array.toList_map]; exact HB1.out) ?_)
    | (refine wpList_st (by rfl) 45 _ _ rfl (by rfl) L1 rfl _ _ (by rw [Hl1.out]; exact infoDeed) (by rw [Hl1.out]; rfl) Ho1.out ?_))
  go_upto_region 3 with (first
    | (refine wpList_buildTo (by rfl) 45 _ (by rfl) (some 13) rfl L2.toArray (by rw [Array.toList_map]; exact HB2.out) ?_)
    | (refine wpList_st (by rfl) 45 _ _ rfl (by show Value.pointer (some ⟨w.heap.size + 1, 0, none⟩) = _; rw [World.size_alloc]) L2 rfl _ _ (by rw [Hl2.out]; exact infoDeed) (by rw [Hl2.out]; rfl) Ho2.out ?_))
  go_wp2_with (first
    | (refine wpList_ld (by rfl) 45 _ rfl (w.heap.size + 1) 0 rfl L2 _ Hb2.out Tryz.underlying45 rfl (by rw [Hl2.out]; exact infoDeed) ?_)
    | (refine wpList_ld (by rfl) 45 _ rfl w.heap.size 0 rfl L1 _ Hb3.out Tryz.underlying45 rfl (by rw [Hl1.out]; exact infoDeed) ?_)
    | (refine wpList_bs2 (by rfl) 22 45 _ _ rfl L2 L1 rfl rfl _ 29 240 Tryz.underlying22 infoD3 Hl2.out Hl1.out (by decide) (by decide) ?_)
    | (go_at_call 6; have hF := HS.out; refine hF.mono ?_; rintro e w2 ⟨A', c', rfl, hr, hs⟩; obtain ⟨b, off, rfl, hcell⟩ := hr.at_ (i := 0) (by decide); have hc0 : w2.cell? ⟨b, off, none⟩ = some (.int .i64 1) := (by simpa [is] using hcell); have Hb5 := hide (rangeAt_same Hb4.out hs); have Hs5 := hide (Same.trans Hs3.out hs); clear hF hr hs hcell)
    | (refine wpList_ld (by rfl) 45 _ rfl w.heap.size 0 rfl L1 _ Hb5.out Tryz.underlying45 rfl (by rw [Hl1.out]; exact infoDeed) ?_)
    | (go_at_call 14; have hF := HM.out; refine (hF _).mono ?_; rintro e w3 ⟨rfl, hs⟩; have Hs6 := hide hs; clear hF hs))
  go_ret
  exact ⟨rfl, Same.trans Hs5.out Hs6.out⟩
end Go.Proofs.YtenkdjfikppkdaaGreat
