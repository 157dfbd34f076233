/-
  The queue's Want, Grant, Release, Leave, Holder, Waits, Ahead, Turns; the law's own 'lives'. Condition: at most 65536 wait.
-/
import Derived.Test.YtkakhpbeglkbnaaRqA
namespace Go.Proofs.Ytkakhpbeglkbnaa
open Go.RowKit Go.Al Go.Al.Rg
set_option linter.unusedVariables false

/-- what a queue becomes when its ring does -/
theorem Que.ring {Fr Fr' : Nat → Prop} {w w' : World} {g gr most : Nat} {q' : List Int} {id turns : Int} {held : Bool} (hb : Blk w g 63 #[.pointer (some ⟨gr, 0, none⟩), .int .i64 id, .bool held, .int .i64 turns])
    (hg : ¬ Fr g) (hr : Ring Fr' w' gr most q') (hs : Stp Fr w Fr' w') : Que (fun k => k = g ∨ Fr' k) w' g most q' id held turns ∧ Stp (fun k => k = g ∨ Fr k) w (fun k => k = g ∨ Fr' k) w' :=
  ⟨⟨gr, Fr', hb.chg hs.chg hg, hr, hs.out hb.lt hg, rfl⟩, hs.chg.mono fun _ _ h => .inr h, fun k hk => hk.elim (fun e => .inl (.inl e)) fun h => (hs.foot k h).imp .inr (fun h => h)⟩
/-- what a queue becomes when its own cells do -/
theorem Que.own {Fr : Nat → Prop} {w w' : World} {g gr most : Nat} {q : List Int} {id turns : Int} {held : Bool} (hb : Blk w' g 63 #[.pointer (some ⟨gr, 0, none⟩), .int .i64 id, .bool held, .int .i64 turns])
    (hg : ¬ Fr g) (hr : Ring Fr w gr most q) (hs : Chg (fun k => k = g) w w') : Que (fun k => k = g ∨ Fr k) w' g most q id held turns ∧ Stp (fun k => k = g ∨ Fr k) w (fun k => k = g ∨ Fr k) w' :=
  ⟨⟨gr, Fr, hb, hr.chg hs (fun k hk e => hg (e ▸ hk)), hg, rfl⟩, hs.mono fun _ _ h => .inl h, fun k hk => .inl hk⟩

def wantE (q : List Int) (most : Nat) (id : Int) (held : Bool) (v : Int) : Int := if held = true ∧ id = v then 5 else pushE q most v
def wantQ (q : List Int) (most : Nat) (id : Int) (held : Bool) (v : Int) : List Int := if held = true ∧ id = v then q else pushQ q most v

set_option maxHeartbeats 400000 in
theorem que_want {F : Nat → Prop} {g most : Nat} {q : List Int} {id turns : Int} {held : Bool} (v : Int) {w : World} (h : Que F w g most q id held turns) (hm : most ≤ 65536) :
    Calls Try.prog 23 #[.pointer (some ⟨g, 0, none⟩), .int .i64 v] w fun e w' => e = .returned (.int .i64 (wantE q most id held v)) ∧ ∃ F', Que F' w' g most (wantQ q most id held v) id held turns ∧ Stp F w F' w' := by
  have H := hide h
  obtain ⟨gr, Fr, hb, hr, hg, rfl⟩ := h
  have hF := qhas g _ id v turns held w hb
  have hk := hb.cell 0
  by_cases hv : held = true ∧ id = v
  · have e1 : (held && id == v) = true := by simp [hv.1, hv.2]
    rw [e1] at hF
    rw [wantE, wantQ, if_pos hv, if_pos hv]
    have HF := hide hF
    clear hF hb hr hg hv e1 hk
    go_enter Try.func23, Try.ntmps23
    go_wp2_with (go_at_call 38; have hF := HF.out; refine hF.mono ?_; rintro e w1 ⟨rfl, rfl⟩; clear hF)
    go_ret
    exact ⟨rfl, _, H.out, Stp.refl _ _⟩
  · have e1 : (held && id == v) = false := by
      cases held
      · rfl
      · simp at hv; simp [hv]
    rw [e1] at hF
    rw [wantE, wantQ, if_neg hv, if_neg hv]
    have HF := hide hF
    have Hb := hide hb
    have Hr := hide hr
    have Hg := hide hg
    clear hF hb hr hg hv e1
    go_enter Try.func23, Try.ntmps23
    go_wp2_with (first
      | (go_at_call 38; have hF := HF.out; refine hF.mono ?_; rintro e w1 ⟨rfl, rfl⟩; clear hF)
      | (go_at_call 10; have hF := ring_push v Hr.out hm; refine hF.mono ?_; rintro e w2 ⟨rfl, F2, hr2, hs2⟩; have Hr2 := hide hr2; have Hs2 := hide hs2; clear hr2 hs2 hF))
    go_ret
    have h := Que.ring Hb.out Hg.out Hr2.out Hs2.out
    exact ⟨rfl, _, h.1, h.2⟩

/-- what Leave tells, and who waits then -/
def leaveE (q : List Int) (id : Int) (held : Bool) (v : Int) : Int := if held = true ∧ id = v then 10 else if v ∈ q then 0 else 6
def leaveQ (q : List Int) (id : Int) (held : Bool) (v : Int) : List Int := if held = true ∧ id = v then q else dropQ q v
set_option maxHeartbeats 400000 in
theorem que_leave {F : Nat → Prop} {g most : Nat} {q : List Int} {id turns : Int} {held : Bool} (v : Int) {w : World} (h : Que F w g most q id held turns) (hm : most ≤ 65536) :
    Calls Try.prog 24 #[.pointer (some ⟨g, 0, none⟩), .int .i64 v] w fun e w' => e = .returned (.int .i64 (leaveE q id held v)) ∧ ∃ F', Que F' w' g most (leaveQ q id held v) id held turns ∧ Stp F w F' w' := by
  have H := hide h
  obtain ⟨gr, Fr, hb, hr, hg, rfl⟩ := h
  have hF := qhas g _ id v turns held w hb
  have hk := hb.cell 0
  by_cases hv : held = true ∧ id = v
  · have e1 : (held && id == v) = true := by simp [hv.1, hv.2]
    rw [e1] at hF
    rw [leaveE, leaveQ, if_pos hv, if_pos hv]
    have HF := hide hF
    clear hF hb hr hg hv e1 hk
    go_enter Try.func24, Try.ntmps24
    go_wp2_with (go_at_call 38; have hF := HF.out; refine hF.mono ?_; rintro e w1 ⟨rfl, rfl⟩; clear hF)
    go_ret
    exact ⟨rfl, _, H.out, Stp.refl _ _⟩
  · have e1 : (held && id == v) = false := by
      cases held
      · rfl
      · simp at hv; simp [hv]
    rw [e1] at hF
    rw [leaveE, leaveQ, if_neg hv, if_neg hv]
    have HF := hide hF
    have Hb := hide hb
    have Hr := hide hr
    have Hg := hide hg
    clear hF hb hr hg hv e1
    by_cases hin : v ∈ q
    · rw [if_pos hin]
      have Hin := hide hin
      clear hin
      go_enter Try.func24, Try.ntmps24
      go_wp2_with (first
        | (go_at_call 38; have hF := HF.out; refine hF.mono ?_; rintro e w1 ⟨rfl, rfl⟩; clear hF)
        | (go_at_call 13; have hF := ring_drop v Hr.out hm; rw [decide_eq_true Hin.out] at hF; refine hF.mono ?_; rintro e w2 ⟨rfl, F2, hr2, hs2⟩; have Hr2 := hide hr2; have Hs2 := hide hs2; clear hr2 hs2 hF))
      go_ret
      have h := Que.ring Hb.out Hg.out Hr2.out Hs2.out
      exact ⟨rfl, _, h.1, h.2⟩
    · rw [if_neg hin]
      have Hin := hide hin
      clear hin
      go_enter Try.func24, Try.ntmps24
      go_wp2_with (first
        | (go_at_call 38; have hF := HF.out; refine hF.mono ?_; rintro e w1 ⟨rfl, rfl⟩; clear hF)
        | (go_at_call 13; have hF := ring_drop v Hr.out hm; rw [decide_eq_false Hin.out] at hF; refine hF.mono ?_; rintro e w2 ⟨rfl, F2, hr2, hs2⟩; have Hr2 := hide hr2; have Hs2 := hide hs2; clear hr2 hs2 hF))
      go_ret
      have h := Que.ring Hb.out Hg.out Hr2.out Hs2.out
      exact ⟨rfl, _, h.1, h.2⟩

set_option maxHeartbeats 400000 in
theorem que_release_no {F : Nat → Prop} {g most : Nat} {q : List Int} {id turns : Int} {held : Bool} (v : Int) {w : World} (h : Que F w g most q id held turns) (hv : ¬ (held = true ∧ id = v)) :
    Calls Try.prog 27 #[.pointer (some ⟨g, 0, none⟩), .int .i64 v] w fun e w' => e = .returned (.int .i64 10) ∧ w = w' := by
  obtain ⟨gr, Fr, hb, hr, hg, rfl⟩ := h
  have hF := qhas g _ id v turns held w hb
  have e1 : (held && id == v) = false := by
    cases held
    · rfl
    · simp at hv; simp [hv]
  rw [e1] at hF
  have HF := hide hF
  clear hF hb hr hg hv e1
  go_enter Try.func27, Try.ntmps27
  go_wp2_with (go_at_call 38; have hF := HF.out; refine hF.mono ?_; rintro e w1 ⟨rfl, rfl⟩; clear hF)
  go_ret
  exact ⟨rfl, rfl⟩
set_option maxHeartbeats 400000 in
theorem que_release_yes {F : Nat → Prop} {g most : Nat} {q : List Int} {id turns : Int} {w : World} (h : Que F w g most q id true turns) :
    Calls Try.prog 27 #[.pointer (some ⟨g, 0, none⟩), .int .i64 id] w fun e w' => e = .returned (.int .i64 0) ∧ ∃ F', Que F' w' g most q 0 false turns ∧ Stp F w F' w' := by
  obtain ⟨gr, Fr, hb, hr, hg, rfl⟩ := h
  have hF := qhas g _ id id turns true w hb
  have e1 : (true && id == id) = true := by simp
  rw [e1] at hF
  have HF := hide hF
  have Hb := hide hb
  have Hr := hide hr
  have Hg := hide hg
  have hz := hb.frozen
  have hk := hb.cell
  clear hF hb hr hg e1
  go_enter Try.func27, Try.ntmps27
  go_wp2_with (go_at_call 38; have hF := HF.out; refine hF.mono ?_; rintro e w1 ⟨rfl, rfl⟩; clear hF)
  go_ret
  have h := Que.own (w' := (w.setCell ⟨g, 1, none⟩ (.int .i64 0)).setCell ⟨g, 2, none⟩ (.bool false)) (id := 0) (held := false) (turns := turns) (by have := (Hb.out.set_ 1 (.int .i64 0)).set_ 2 (.bool false); simpa using this) Hg.out Hr.out (((Chg.refl _ w).set1 1 _).set1 2 _)
  exact ⟨rfl, _, h.1, h.2⟩

set_option maxHeartbeats 400000 in
theorem que_turns {F : Nat → Prop} {g most : Nat} {q : List Int} {id turns : Int} {held : Bool} {w : World} (h : Que F w g most q id held turns) :
    Calls Try.prog 28 #[.pointer (some ⟨g, 0, none⟩)] w fun e w' => e = .returned (.int .i64 turns) ∧ w = w' := by
  obtain ⟨gr, Fr, hb, hr, hg, rfl⟩ := h
  have hk := hb.cell
  clear hb hr hg
  go_enter Try.func28, Try.ntmps28
  go_wp2_with fail
  go_ret
  exact ⟨rfl, rfl⟩
set_option maxHeartbeats 400000 in
theorem que_waits {F : Nat → Prop} {g most : Nat} {q : List Int} {id turns : Int} {held : Bool} {w : World} (h : Que F w g most q id held turns) (hm : most ≤ 65536) :
    Calls Try.prog 31 #[.pointer (some ⟨g, 0, none⟩)] w (AllTold w q) := by
  obtain ⟨gr, Fr, hb, hr, hg, rfl⟩ := h
  have hk := hb.cell
  have Hr := hide hr
  clear hb hr hg
  go_enter Try.func31, Try.ntmps31
  go_wp2_with (go_at_call 20; have hF := ring_all Hr.out hm; refine hF.mono ?_; rintro e w1 ⟨A, c, rfl, h1, h2⟩; have H1 := hide h1; have H2 := hide h2; clear h1 h2 hF)
  go_ret
  exact ⟨A, c, rfl, H1.out, H2.out⟩
set_option maxHeartbeats 400000 in
theorem que_holder {F : Nat → Prop} {g most : Nat} {q : List Int} {id turns : Int} {held : Bool} {w : World} (h : Que F w g most q id held turns) :
    Calls Try.prog 33 #[.pointer (some ⟨g, 0, none⟩)] w fun e w' => e = .returned (.tuple #[.int .i64 id, .bool held]) ∧ Same w w' := by
  obtain ⟨gr, Fr, hb, hr, hg, rfl⟩ := h
  have hk := hb.cell
  clear hb hr hg
  go_enter Try.func33, Try.ntmps33
  go_wp2_with fail
  go_quiet (fail)
  go_wp2_with fail
  go_ret2
  exact ⟨rfl, Same.of_drewN _ _⟩
end Go.Proofs.Ytkakhpbeglkbnaa
