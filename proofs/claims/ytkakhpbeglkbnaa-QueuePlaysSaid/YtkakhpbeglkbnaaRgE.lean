/-
  A ring as a thing with a footprint ('Ring F': the blocks F are its own): each method in one contract, whatever the ring holds. Then the law's own 'lives'. Condition: at most 65536 wait.
-/
import Derived.Test.YtkakhpbeglkbnaaRgD
namespace Go.Proofs.Ytkakhpbeglkbnaa
open Go.RowKit Go.Al Go.Al.Rg
set_option linter.unusedVariables false

/-- what a call that may write the blocks F leaves: nothing else is changed, and the new footprint holds old or fresh blocks -/
structure Stp (F : Nat → Prop) (w : World) (F' : Nat → Prop) (w' : World) : Prop where
  chg : Chg F w w'
  foot : ∀ k, F' k → F k ∨ w.heap.size ≤ k
theorem Stp.refl (F : Nat → Prop) (w : World) : Stp F w F w := ⟨Chg.refl _ _, fun _ h => .inl h⟩
theorem Stp.trans {F F' F'' : Nat → Prop} {w w' w'' : World} (h : Stp F w F' w') (h' : Stp F' w' F'' w'') : Stp F w F'' w'' :=
  ⟨h.chg.trans h'.chg fun k hk hF => (h.foot k hF).elim id fun hh => by omega, fun k hk => (h'.foot k hk).elim (fun h1 => h.foot k h1) fun h1 => .inr (by have := h.chg.size; omega)⟩
theorem Stp.same {F F' : Nat → Prop} {w w' w'' : World} (h : Stp F w F' w') (h' : Same w' w'') : Stp F w F' w'' := ⟨h.chg.same h', h.foot⟩
theorem Stp.of_same {F F' : Nat → Prop} {w w' w'' : World} (h : Same w w') (h' : Stp F w' F' w'') : Stp F w F' w'' := ⟨Chg.of_same h h'.chg, fun k hk => (h'.foot k hk).imp id fun hh => by have := h.size; omega⟩
theorem Stp.fresh {F F' : Nat → Prop} {w0 w w' : World} (h0 : Same w0 w) (hF : ∀ k, F k → w0.heap.size ≤ k) (h : Stp F w F' w') : Same w0 w' ∧ ∀ k, F' k → w0.heap.size ≤ k :=
  ⟨Chg.trans h0 h.chg fun k hk hk' => by have := hF k hk'; omega, fun k hk => (h.foot k hk).elim (hF k) fun hh => by have := h0.size; omega⟩
/-- a block outside the footprint stays outside -/
theorem Stp.out {F F' : Nat → Prop} {w w' : World} (h : Stp F w F' w') {k : Nat} (hk : k < w.heap.size) (hn : ¬ F k) : ¬ F' k := fun hf => (h.foot k hf).elim hn fun hh => by omega

/-- a ring and its footprint -/
def Ring (F : Nat → Prop) (w : World) (g most : Nat) (q : List Int) : Prop :=
  ∃ A P a, Rgm w g most q A P a ∧ F = fun k => k = g ∨ blkOf A = some k
theorem Ring.lt {F : Nat → Prop} {w : World} {g most : Nat} {q : List Int} (h : Ring F w g most q) : ∀ k, F k → k < w.heap.size := by
  obtain ⟨A, P, a, h, rfl⟩ := h
  rintro k (rfl | hk)
  · exact h.1.lt
  · exact (h.blk k hk).1
theorem Ring.chg {S F : Nat → Prop} {w w' : World} {g most : Nat} {q : List Int} (h : Ring F w g most q) (hc : Chg S w w') (hS : ∀ k, F k → ¬ S k) : Ring F w' g most q := by
  obtain ⟨A, P, a, h, rfl⟩ := h
  exact ⟨A, P, a, h.chg hc (hS _ (.inl rfl)) fun b hb => hS _ (.inr hb), rfl⟩
theorem Ring.same {F : Nat → Prop} {w w' : World} {g most : Nat} {q : List Int} (h : Ring F w g most q) (hc : Same w w') : Ring F w' g most q := h.chg hc fun _ _ hf => hf
theorem Ring.len {F : Nat → Prop} {w : World} {g most : Nat} {q : List Int} (h : Ring F w g most q) : q.length ≤ most := by
  obtain ⟨A, P, a, h, rfl⟩ := h
  exact h.2.2.2.2.2.1

def pushE (q : List Int) (most : Nat) (v : Int) : Int := if v ∈ q then 5 else if most ≤ q.length then 4 else 0
def pushQ (q : List Int) (most : Nat) (v : Int) : List Int := if v ∈ q then q else if most ≤ q.length then q else q ++ [v]
def dropQ (q : List Int) (v : Int) : List Int := if v ∈ q then q.eraseIdx (pos q v) else q
def headI (q : List Int) : Int := q.headD 0
def someQ (q : List Int) : Bool := !q.isEmpty
def placeI (q : List Int) (v : Int) : Int := if v ∈ q then (pos q v : Nat) else 0

theorem ring_new (m : Nat) (w : World) (h1 : 1 ≤ (m : Int)) (h2 : (m : Int) ≤ 65536) :
    Calls Try.prog 9 #[.int .i64 m] w fun e w' => e = .returned (.tuple #[.pointer (some ⟨w.heap.size, 0, none⟩), .int .i64 0]) ∧ Same w w' ∧ ∃ F, Ring F w' w.heap.size m [] ∧ ∀ k, F k → w.heap.size ≤ k := by
  refine (rnew_ok m w h1 h2).mono ?_
  rintro e w' ⟨rfl, hr, hs⟩
  refine ⟨rfl, hs, _, ⟨none, [], 0, hr, rfl⟩, ?_⟩
  rintro k (rfl | hk)
  · exact Nat.le_refl _
  · cases hk

theorem ring_push {F : Nat → Prop} {g most : Nat} {q : List Int} (v : Int) {w : World} (hr : Ring F w g most q) (hm : most ≤ 65536) :
    Calls Try.prog 10 #[.pointer (some ⟨g, 0, none⟩), .int .i64 v] w fun e w' => e = .returned (.int .i64 (pushE q most v)) ∧ ∃ F', Ring F' w' g most (pushQ q most v) ∧ Stp F w F' w' := by
  obtain ⟨A, P, a, hr, rfl⟩ := hr
  by_cases hv : v ∈ q
  · rw [pushE, if_pos hv, pushQ, if_pos hv]
    refine (Push_dup g most a q P A v w hr hm hv).mono ?_
    rintro e w' ⟨rfl, hs⟩
    exact ⟨rfl, _, ⟨A, P, a, hr.same hs, rfl⟩, hs.to, fun _ h => .inl h⟩
  · by_cases hn : most ≤ q.length
    · rw [pushE, if_neg hv, if_pos hn, pushQ, if_neg hv, if_pos hn]
      refine (Push_full g most a q P A v w hr hm hv hn).mono ?_
      rintro e w' ⟨rfl, hs⟩
      exact ⟨rfl, _, ⟨A, P, a, hr.same hs, rfl⟩, hs.to, fun _ h => .inl h⟩
    · rw [pushE, if_neg hv, if_neg hn, pushQ, if_neg hv, if_neg hn]
      refine (Push_ok g most a q P A v w hr hm hv (by omega)).mono ?_
      rintro e w' ⟨rfl, A', P', a', h1, h2, h3⟩
      refine ⟨rfl, _, ⟨A', P', a', h1, rfl⟩, h2, ?_⟩
      rintro k (rfl | hk)
      · exact .inl (.inl rfl)
      · rcases h3 with h | h
        · exact .inl (.inr (h ▸ hk))
        · exact .inr (h k hk)

theorem ring_pop {F : Nat → Prop} {g most : Nat} {q : List Int} {w : World} (hr : Ring F w g most q) (hm : most ≤ 65536) :
    Calls Try.prog 11 #[.pointer (some ⟨g, 0, none⟩)] w fun e w' => e = .returned (.tuple #[.int .i64 (headI q), .bool (someQ q)]) ∧ ∃ F', Ring F' w' g most q.tail ∧ Stp F w F' w' := by
  obtain ⟨A, P, a, hr, rfl⟩ := hr
  cases q with
  | nil =>
    refine (Pop_empty g most a P A w hr).mono ?_
    rintro e w' ⟨rfl, rfl⟩
    exact ⟨rfl, _, ⟨A, P, a, hr, rfl⟩, Stp.refl _ _⟩
  | cons x q =>
    refine (Pop_any g most a x q P A w hr hm).mono ?_
    rintro e w' ⟨rfl, P', a', h1, h2⟩
    exact ⟨rfl, _, ⟨A, P', a', h1, rfl⟩, h2, fun _ h => .inl h⟩

theorem ring_drop {F : Nat → Prop} {g most : Nat} {q : List Int} (v : Int) {w : World} (hr : Ring F w g most q) (hm : most ≤ 65536) :
    Calls Try.prog 13 #[.pointer (some ⟨g, 0, none⟩), .int .i64 v] w fun e w' => e = .returned (.bool (decide (v ∈ q))) ∧ ∃ F', Ring F' w' g most (dropQ q v) ∧ Stp F w F' w' := by
  obtain ⟨A, P, a, hr, rfl⟩ := hr
  by_cases hv : v ∈ q
  · rw [dropQ, if_pos hv, decide_eq_true hv]
    refine (Drop_yes g most a q P A v w hr hm hv).mono ?_
    rintro e w' ⟨rfl, P', a', h1, h2⟩
    exact ⟨rfl, _, ⟨A, P', a', h1, rfl⟩, h2, fun _ h => .inl h⟩
  · rw [dropQ, if_neg hv, decide_eq_false hv]
    refine (Drop_no g most a q P A v w hr hm hv).mono ?_
    rintro e w' ⟨rfl, hs⟩
    exact ⟨rfl, _, ⟨A, P, a, hr.same hs, rfl⟩, hs.to, fun _ h => .inl h⟩

theorem ring_head {F : Nat → Prop} {g most : Nat} {q : List Int} {w : World} (hr : Ring F w g most q) (hm : most ≤ 65536) :
    Calls Try.prog 18 #[.pointer (some ⟨g, 0, none⟩)] w fun e w' => e = .returned (.tuple #[.int .i64 (headI q), .bool (someQ q)]) ∧ Same w w' := by
  obtain ⟨A, P, a, hr, rfl⟩ := hr
  cases q with
  | nil =>
    refine (Head_empty g most a P A w hr).mono ?_
    rintro e w' ⟨rfl, rfl⟩
    exact ⟨rfl, Chg.refl _ _⟩
  | cons x q =>
    refine (Head_any g most a x q P A w hr hm).mono ?_
    rintro e w' ⟨rfl, hs⟩
    exact ⟨rfl, hs⟩

theorem ring_place {F : Nat → Prop} {g most : Nat} {q : List Int} (v : Int) {w : World} (hr : Ring F w g most q) (hm : most ≤ 65536) :
    Calls Try.prog 14 #[.pointer (some ⟨g, 0, none⟩), .int .i64 v] w fun e w' => e = .returned (.tuple #[.int .i64 (placeI q v), .bool (decide (v ∈ q))]) ∧ Same w w' := by
  obtain ⟨A, P, a, hr, rfl⟩ := hr
  refine (Place_any g most a q P A v w hr hm).mono ?_
  rintro e w' ⟨rfl, hs⟩
  refine ⟨?_, hs⟩
  by_cases hv : v ∈ q
  · rw [seekV, if_pos hv, placeI, if_pos hv, decide_eq_true hv]
  · rw [seekV, if_neg hv, placeI, if_neg hv, decide_eq_false hv]

theorem ring_len {F : Nat → Prop} {g most : Nat} {q : List Int} {w : World} (hr : Ring F w g most q) :
    Calls Try.prog 21 #[.pointer (some ⟨g, 0, none⟩)] w fun e w' => e = .returned (.int .i64 (q.length : Nat)) ∧ w = w' := by
  obtain ⟨A, P, a, hr, rfl⟩ := hr
  exact Len_any g most a q P A w hr

theorem ring_all {F : Nat → Prop} {g most : Nat} {q : List Int} {w : World} (hr : Ring F w g most q) (hm : most ≤ 65536) :
    Calls Try.prog 20 #[.pointer (some ⟨g, 0, none⟩)] w (AllTold w q) := by
  obtain ⟨A, P, a, hr, rfl⟩ := hr
  exact All_any g most a q P A w hr hm

set_option maxRecDepth 100000 in
set_option maxHeartbeats 2000000 in
theorem lives_any (w : World) :
    Calls Try.prog 12 #[] w fun e w' => e = .returned (.bool true) ∧ Same w w' := by
  go_enter Try.func12, Try.ntmps12
  go_wp2_with (first
    | (go_at_call 9
       have hF := ring_new 3 w (by decide) (by decide)
       refine hF.mono ?_
       rintro e w1 ⟨rfl, hs1, F1, hr1, hf1⟩
       have Hr1 := hide hr1; have Hs1 := hide hs1; have Hf1 := hide hf1; clear hr1 hs1 hF hf1
       generalize hgg : w.heap.size = g at *)
    | (go_at_call 13
       have hF := ring_drop 7 Hr3.out (by decide)
       refine hF.mono ?_
       rintro e w4 ⟨rfl, F4, hr4, hs4⟩
       have Hr4 := hide hr4; have Hs4 := hide hs4; clear hr4 hs4 hF)
    | (go_at_call 11
       have hF := ring_pop Hr4.out (by decide)
       refine hF.mono ?_
       rintro e w5 ⟨rfl, F5, hr5, hs5⟩
       have Hs5 := hide hs5; clear hr5 hs5 hF)
    | (go_at_call_of 10 (Value.int IntKind.i64 (7 : Int))
       have hF := ring_push 7 Hr1.out (by decide)
       refine hF.mono ?_
       rintro e w2 ⟨rfl, F2, hr2, hs2⟩
       have Hr2 := hide hr2; have Hs2 := hide hs2; clear hr2 hs2 hF)
    | (go_at_call_of 10 (Value.int IntKind.i64 (8 : Int))
       have hF := ring_push 8 Hr2.out (by decide)
       refine hF.mono ?_
       rintro e w3 ⟨rfl, F3, hr3, hs3⟩
       have Hr3 := hide hr3; have Hs3 := hide hs3; clear hr3 hs3 hF))
  go_ret
  subst hgg
  exact ⟨rfl, (Stp.fresh Hs1.out Hf1.out (((Hs2.out.trans Hs3.out).trans Hs4.out).trans Hs5.out)).1⟩
end Go.Proofs.Ytkakhpbeglkbnaa
