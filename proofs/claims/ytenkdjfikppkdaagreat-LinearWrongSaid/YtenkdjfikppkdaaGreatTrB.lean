/-
  trap.Must at a table, trap.Value at a list of integers. No conditions.
-/
import Derived.Test.YtenkdjfikppkdaaGreatTrA
import Derived.Test.YtenkdjfikppkdaaGreatIn
import Derived.Shelf.Abstract
namespace Go.Proofs.YtenkdjfikppkdaaGreat
open Go.RowKit Go.Al Go.Shelf
set_option linter.unusedVariables false

set_option maxHeartbeats 400000 in
theorem mustT_ok (v : Option Addr) (w : World) :
    Calls Tryz.prog 25 #[.pointer v, .int .i64 0] w fun e w' => e = .returned (.pointer v) ∧ w = w' := by
  go_enter Tryz.func25, Tryz.ntmps25
  go_wp2_with (go_at_call 42; refine (throw_ok _ _).mono ?_; rintro e w' ⟨rfl, rfl⟩)
  go_ret
  exact ⟨rfl, rfl⟩
set_option maxHeartbeats 400000 in
theorem mustT_bad (v : Option Addr) (c : Int) (w : World) (h : ¬ c = 0) :
    Calls Tryz.prog 25 #[.pointer v, .int .i64 c] w fun e w' => e = .panicked (fault 0 c) ∧ w = w' := by
  have H := hide h
  clear h
  go_enter Tryz.func25, Tryz.ntmps25
  go_wp2_with (go_at_call 42; refine (throw_bad _ _ _ H.out).mono ?_; rintro e w' ⟨rfl, rfl⟩)
  exact ⟨rfl, rfl, rfl⟩

/-- a list that a closure hands back -/
def ListEnd (w : World) (xs : List Int) (e : Ending) (w' : World) : Prop :=
  ∃ A c, e = .returned (.slice A xs.length c) ∧ Rd w' A (is xs) ∧ (∀ b, blkOf A = some b → w.heap.size ≤ b) ∧ Same w w'
def ListHeld (n base : Nat) (xs : List Int) (w : World) : Prop :=
  ∃ A c, Blk w n 38 #[.slice A xs.length c] ∧ Rd w A (is xs) ∧ (∀ b, blkOf A = some b → b ≠ n ∧ base ≤ b)

set_option maxRecDepth 100000 in
set_option maxHeartbeats 1000000 in
theorem value1_ok {K : Nat} {caps : Array Value} (eK : ∀ args w, (callFunc K args).run Tryz.prog w = .ok (.enter K args) w) {xs : List Int} (n m : Nat) (hnm : m ≠ n) (w : World) (hm : Blk w m 61 #[.func (.func K) #[] caps]) (hn : Blk w n 38 #[.slice none 0 0])
    (hf : Calls Tryz.prog K caps w (ListEnd w xs)) :
    Calls Tryz.prog 24 #[.pointer (some ⟨m, 0, none⟩), .pointer (some ⟨n, 0, none⟩)] w fun e w' => e = .returned (.tuple #[]) ∧ Chg (fun k => k = n) w w' ∧ ListHeld n w.heap.size xs w' := by
  have HF := hide hf
  have hk := hm.cell 0
  simp at hk
  have Hn := hide hn
  have hnl := hn.lt
  clear hf hm hn
  go_enter Tryz.func24, Tryz.ntmps24
  go_wp2_with fail
  refine HF.out.mono ?_
  rintro e w2 ⟨A, c, rfl, hr, hfr, hs⟩
  have Hr := hide hr
  have Hfr := hide hfr
  have Hs := hide hs
  have hkn := (Hn.out.same hs).cell
  have hfn := (Hn.out.same hs).frozen
  clear hr hfr hs hk
  go_wp2_with fail
  go_end0
  have hb := (Hn.out.same Hs.out).set_ 0 (.slice A xs.length c)
  exact ⟨rfl, Chg.setCell (S := fun k => k = n) (p := ⟨n, 0, none⟩) (Same.to Hs.out) (.inl rfl) _, A, c, hb, Hr.out.setCell (p := ⟨n, 0, none⟩) (fun e => by have h7 : w.heap.size ≤ n := Hfr.out _ e; omega) _, fun b hb' => by have h7 : w.heap.size ≤ b := Hfr.out _ hb'; omega⟩

set_option maxRecDepth 100000 in
set_option maxHeartbeats 1000000 in
theorem value1_bad {K : Nat} {caps : Array Value} (eK : ∀ args w, (callFunc K args).run Tryz.prog w = .ok (.enter K args) w) (wh c : Int) (n m : Nat) (w : World) (hm : Blk w m 61 #[.func (.func K) #[] caps])
    (hf : Calls Tryz.prog K caps w fun e w' => e = .panicked (fault wh c) ∧ Same w w') :
    Calls Tryz.prog 24 #[.pointer (some ⟨m, 0, none⟩), .pointer (some ⟨n, 0, none⟩)] w fun e w' => e = .panicked (fault wh c) ∧ Same w w' := by
  have HF := hide hf
  have hk := hm.cell 0
  simp at hk
  clear hf hm
  go_enter Tryz.func24, Tryz.ntmps24
  go_wp2_with fail
  refine HF.out.mono ?_
  rintro e w2 ⟨rfl, hs⟩
  have Hs := hide hs
  clear hs hk
  go_wp2_with fail
  exact ⟨rfl, rfl, Hs.out⟩

theorem results_sl {w : World} {fn : Func} {x u : Tmp} {g : Nat} {v : Value} (hf : fn.results = #[.cell x 38, .tmp u]) {tmps : Array Value} (ha : tmps.getD x undef = .pointer (some ⟨g, 0, none⟩)) (hl : (loadVar 38 ⟨g, 0, none⟩).run Tryz.prog w = .ok v w) :
    (results fn tmps).run Tryz.prog w = .ok (.tuple #[v, tmps.getD u undef]) w := by
  rw [Array.getD_eq_getD_getElem?] at ha
  simp [results, hf, asAddr, ha, hl, Result.andThen]

set_option maxRecDepth 100000 in
set_option maxHeartbeats 4000000 in
theorem value_ok {K : Nat} {caps : Array Value} (eK : ∀ args w, (callFunc K args).run Tryz.prog w = .ok (.enter K args) w) (xs : List Int) (w : World)
    (hf : ∀ w1, Same w w1 → Calls Tryz.prog K caps w1 (ListEnd w1 xs)) :
    Calls Tryz.prog 11 #[.func (.func K) #[] caps] w fun e w' => ∃ A c, e = .returned (.tuple #[.slice A xs.length c, .int .i64 0]) ∧ Rd w' A (is xs) ∧ Same w w' := by
  have e1 : ∀ args w, (callFunc 24 args).run Tryz.prog w = .ok (.enter 24 args) w := enters_of Tryz.func24 (by kernel_rfl) rfl
  have hmf : ∀ (fn : Fn) (first cap : Array Value) (w : World), (Instr.makeFunc fn first cap).run Tryz.prog w = .ok (.func fn first cap) w := fun _ _ _ _ => rfl
  have hs0 : Same w ((w.alloc (.cells #[.func (.func K) #[] caps] 61)).alloc (.cells #[.slice none 0 0] 38)) := ((Chg.refl _ w).alloc _).alloc _
  have hm := (Blk.new w 61 #[.func (.func K) #[] caps]).alloc (.cells #[.slice none 0 0] 38)
  have hn := Blk.new (w.alloc (.cells #[.func (.func K) #[] caps] 61)) 38 #[.slice none 0 0]
  simp only [World.size_alloc] at hn
  have hz : ((w.alloc (.cells #[.func (.func K) #[] caps] 61)).alloc (.cells #[.slice none 0 0] 38)).heap.size = w.heap.size + 2 := by simp
  have HC := hide (catch_ok (K := 24) (caps := #[.pointer (some ⟨w.heap.size, 0, none⟩), .pointer (some ⟨w.heap.size + 1, 0, none⟩)]) e1 (S := fun k => k = w.heap.size + 1) (fun w1 w2 => ListHeld (w.heap.size + 1) w1.heap.size xs w2) _ (fun k hk => by omega)
    (fun w1 hs1 => (value1_ok eK (w.heap.size + 1) w.heap.size (by omega) w1 (hm.same hs1) (hn.same hs1) (hf w1 (Same.trans hs0 hs1)))))
  have Hs0 := hide hs0
  have Hz := hide hz
  clear hs0 hm hn hz hf
  go_enter Tryz.func11, Tryz.ntmps11
  go_wp2_with (go_at_call 23; have hF := HC.out; refine hF.mono ?_; rintro e w4 ⟨rfl, w1, w2, hs1, hc2, hq, hc4⟩; have hb4 : ListHeld (w.heap.size + 1) w1.heap.size xs w2 := hq; obtain ⟨A, c, hb, hr, hfr⟩ := hb4; have hb5 := hb.chg hc4 (fun e => by have := Hz.out; omega); have Hb5 := hide hb5; have Hr5 := hide (hr.chg hc4 (fun b hb' _ e => by have := (hfr b hb').2; omega)); have Hne := hide (fun b hb' => (hfr b hb').1); have hkb := hb5.cell; have hfb := hb5.frozen; have hlt4 := hb5.lt; have Hs4 : Hid (Same w w4) := hide (Chg.fresh (S := fun k => w.heap.size ≤ k) (((Same.trans Hs0.out hs1).to.trans hc2 (fun k _ e => by omega)).trans hc4 (fun k _ e => by have := Hz.out; omega)) (fun _ h => h)); clear hs1 hc2 hq hc4 hb hr hfr hb5 hF)
  have hb9 := (Hb5.out.set_ 0 (.slice A xs.length c)).alloc (.cells #[.int .i64 0, .int .i64 0] 73)
  have hc9 := hb9.cell 0
  simp at hc9
  refine bodyPost_ret (results_sl rfl rfl (v := .slice A xs.length c) (by simp [go_sem, hc9])) rfl ⟨A, c, rfl, ?_, ?_⟩
  · exact (Hr5.out.setCell (p := ⟨w.heap.size + 1, 0, none⟩) (fun e => Hne.out _ e rfl) _).alloc _
  · exact (Hs4.out.setCell (p := ⟨w.heap.size + 1, 0, none⟩) (.inr (by show w.heap.size ≤ w.heap.size + 1; omega)) _).alloc _

set_option maxRecDepth 100000 in
set_option maxHeartbeats 4000000 in
theorem value_bad {K : Nat} {caps : Array Value} (eK : ∀ args w, (callFunc K args).run Tryz.prog w = .ok (.enter K args) w) (wh c : Int) (w : World)
    (hf : ∀ w1, Same w w1 → Calls Tryz.prog K caps w1 fun e w2 => e = .panicked (fault wh c) ∧ Same w1 w2) :
    Calls Tryz.prog 11 #[.func (.func K) #[] caps] w fun e w' => e = .returned (.tuple #[.slice none 0 0, .int .i64 c]) ∧ Same w w' := by
  have e1 : ∀ args w, (callFunc 24 args).run Tryz.prog w = .ok (.enter 24 args) w := enters_of Tryz.func24 (by kernel_rfl) rfl
  have hmf : ∀ (fn : Fn) (first cap : Array Value) (w : World), (Instr.makeFunc fn first cap).run Tryz.prog w = .ok (.func fn first cap) w := fun _ _ _ _ => rfl
  have hs0 : Same w ((w.alloc (.cells #[.func (.func K) #[] caps] 61)).alloc (.cells #[.slice none 0 0] 38)) := ((Chg.refl _ w).alloc _).alloc _
  have hm := (Blk.new w 61 #[.func (.func K) #[] caps]).alloc (.cells #[.slice none 0 0] 38)
  have hn := Blk.new (w.alloc (.cells #[.func (.func K) #[] caps] 61)) 38 #[.slice none 0 0]
  simp only [World.size_alloc] at hn
  have hz : ((w.alloc (.cells #[.func (.func K) #[] caps] 61)).alloc (.cells #[.slice none 0 0] 38)).heap.size = w.heap.size + 2 := by simp
  have HC := hide (catch_bad (K := 24) (caps := #[.pointer (some ⟨w.heap.size, 0, none⟩), .pointer (some ⟨w.heap.size + 1, 0, none⟩)]) e1 (S := fun _ => False) (fun w1 w2 => True) wh c _ (fun k hk => hk.elim)
    (fun w1 hs1 => (value1_bad eK wh c (w.heap.size + 1) w.heap.size w1 (hm.same hs1) (hf w1 (Same.trans hs0 hs1))).mono fun e w2 h => ⟨h.1, h.2, trivial⟩))
  have Hs0 := hide hs0
  have Hn := hide hn
  have Hz := hide hz
  clear hs0 hm hn hz hf
  go_enter Tryz.func11, Tryz.ntmps11
  go_wp2_with (go_at_call 23; have hF := HC.out; refine hF.mono ?_; rintro e w4 ⟨rfl, w1, w2, hs1, hc2, _, hc4⟩; have hb5 := ((Hn.out.same hs1).same hc2).chg hc4 (fun e => by have := Hz.out; omega); have Hb5 := hide hb5; have hkb := hb5.cell; have hfb := hb5.frozen; have hlt4 := hb5.lt; have Hs4 : Hid (Same w w4) := hide (Chg.fresh (S := fun k => w.heap.size ≤ k) (((Same.trans (Same.trans Hs0.out hs1) hc2).to).trans hc4 (fun k _ e => by have := Hz.out; omega)) (fun _ h => h)); clear hs1 hc2 hc4 hb5 hF)
  have hkF : ∀ i, (w4.alloc (.cells #[.int .i64 wh, .int .i64 c] 73)).cell? ⟨w4.heap.size, i, none⟩ = (#[Value.int .i64 wh, .int .i64 c])[i]? := (Blk.new w4 73 #[.int .i64 wh, .int .i64 c]).cell
  have h1 := hkF 1
  have hkb0 : w4.cell? ⟨w.heap.size + 1, 0, none⟩ = some (.slice none 0 0) := by have := hkb 0; simpa using this
  have hfb0 := hfb 0
  simp at h1
  clear hkF hkb hfb
  go_region
  go_wp2_with fail
  have hb9 := ((Hb5.out.set_ 0 (.slice none 0 0)).alloc (.cells #[.int .i64 wh, .int .i64 c] 73)).drew
  have hc9 := hb9.cell 0
  simp at hc9
  refine bodyPost_ret (results_sl rfl rfl (v := .slice none 0 0) (by simp [go_sem, hc9])) rfl ⟨rfl, ?_⟩
  exact ((Hs4.out.setCell (p := ⟨w.heap.size + 1, 0, none⟩) (.inr (by show w.heap.size ≤ w.heap.size + 1; omega)) _).alloc _).drew
end Go.Proofs.YtenkdjfikppkdaaGreat
