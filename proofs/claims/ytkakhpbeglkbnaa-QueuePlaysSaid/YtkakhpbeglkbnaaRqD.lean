/-
  The queue's Ahead; a queue stays what it is where others are changed. Condition: at most 65536 wait.
-/
import Derived.Test.YtkakhpbeglkbnaaRqC
import Derived.Test.YtkakhpbeglkbnaaRgI
namespace Go.Proofs.Ytkakhpbeglkbnaa
open Go.RowKit Go.Al Go.Al.Rg
set_option linter.unusedVariables false

theorem Que.chg {S F : Nat → Prop} {w w' : World} {g most : Nat} {q : List Int} {id turns : Int} {held : Bool} (h : Que F w g most q id held turns) (hc : Chg S w w') (hS : ∀ k, F k → ¬ S k) : Que F w' g most q id held turns := by
  obtain ⟨gr, Fr, h1, h2, h3, rfl⟩ := h
  exact ⟨gr, Fr, h1.chg hc (hS g (.inl rfl)), h2.chg hc fun k hk => hS k (.inr hk), h3, rfl⟩

set_option maxHeartbeats 400000 in
theorem ahead_has {F : Nat → Prop} {g most : Nat} {q : List Int} {id turns : Int} {w : World} (h : Que F w g most q id true turns) :
    Calls Try.prog 26 #[.pointer (some ⟨g, 0, none⟩), .int .i64 id] w fun e w' => e = .returned (.tuple #[.int .i64 0, .bool true]) ∧ Same w w' := by
  obtain ⟨gr, Fr, hb, hr, hg, rfl⟩ := h
  have hF := qhas g _ id id turns true w hb
  rw [show (true && id == id) = true by simp] at hF
  have HF := hide hF
  clear hF hb hr hg
  go_enter Try.func26, Try.ntmps26
  go_wp2_with (go_at_call 38; have hF := HF.out; refine hF.mono ?_; rintro e w1 ⟨rfl, rfl⟩; clear hF)
  go_ret2
  exact ⟨rfl, Chg.refl _ _⟩
theorem has_no {held : Bool} {id v : Int} (hv : ¬ (held = true ∧ id = v)) : (held && id == v) = false := by
  cases held
  · rfl
  · simp at hv; simp [hv]
set_option maxHeartbeats 400000 in
theorem ahead_out {F : Nat → Prop} {g most : Nat} {q : List Int} {id turns : Int} {held : Bool} (v : Int) {w : World} (h : Que F w g most q id held turns) (hm : most ≤ 65536) (hv : ¬ (held = true ∧ id = v)) (hin : ¬ v ∈ q) :
    Calls Try.prog 26 #[.pointer (some ⟨g, 0, none⟩), .int .i64 v] w fun e w' => e = .returned (.tuple #[.int .i64 0, .bool false]) ∧ Same w w' := by
  obtain ⟨gr, Fr, hb, hr, hg, rfl⟩ := h
  have hF := qhas g _ id v turns held w hb
  rw [has_no hv] at hF
  have hP := ring_place v hr hm
  rw [decide_eq_false hin, placeI, if_neg hin] at hP
  have HF := hide hF
  have HP := hide hP
  have hk := hb.cell
  clear hF hb hr hg hP hv hin
  go_enter Try.func26, Try.ntmps26
  go_wp2_with (first
    | (go_at_call 38; have hF := HF.out; refine hF.mono ?_; rintro e w1 ⟨rfl, rfl⟩; clear hF)
    | (go_at_call 14; have hF := HP.out; refine hF.mono ?_; rintro e w2 ⟨rfl, hs2⟩; have Hs2 := hide hs2; clear hs2 hF))
  go_ret2
  exact ⟨rfl, Hs2.out⟩
set_option maxHeartbeats 400000 in
theorem ahead_free {F : Nat → Prop} {g most : Nat} {q : List Int} {id turns : Int} (v : Int) {w : World} (h : Que F w g most q id false turns) (hm : most ≤ 65536) (hin : v ∈ q) :
    Calls Try.prog 26 #[.pointer (some ⟨g, 0, none⟩), .int .i64 v] w fun e w' => e = .returned (.tuple #[.int .i64 (pos q v : Nat), .bool true]) ∧ Same w w' := by
  obtain ⟨gr, Fr, hb, hr, hg, rfl⟩ := h
  have hF := qhas g _ id v turns false w hb
  rw [has_no (by simp)] at hF
  have hP := ring_place v hr hm
  rw [decide_eq_true hin, placeI, if_pos hin] at hP
  generalize pos q v = p at *
  have HF := hide hF
  have HP := hide hP
  have hb' := hide hb
  clear hF hb hr hg hP hin
  go_enter Try.func26, Try.ntmps26
  have hk := hb'.out.cell
  go_wp2_with (first
    | (go_at_call 38; have hF := HF.out; refine hF.mono ?_; rintro e w1 ⟨rfl, rfl⟩; clear hF)
    | (go_at_call 14; have hF := HP.out; refine hF.mono ?_; rintro e w2 ⟨rfl, hs2⟩; have Hs2 := hide hs2; have hk2 := (hb'.out.same hs2).cell; clear hs2 hF))
  go_ret2
  exact ⟨rfl, Hs2.out⟩
set_option maxHeartbeats 400000 in
theorem ahead_held {F : Nat → Prop} {g most : Nat} {q : List Int} {id turns : Int} (v : Int) {w : World} (h : Que F w g most q id true turns) (hm : most ≤ 65536) (hv : ¬ id = v) (hin : v ∈ q) :
    Calls Try.prog 26 #[.pointer (some ⟨g, 0, none⟩), .int .i64 v] w fun e w' => e = .returned (.tuple #[.int .i64 ((pos q v : Nat) + 1), .bool true]) ∧ Same w w' := by
  have hpl := Nat.lt_of_lt_of_le (pos_lt hin) h.len
  obtain ⟨gr, Fr, hb, hr, hg, rfl⟩ := h
  have hF := qhas g _ id v turns true w hb
  rw [has_no (by simp [hv])] at hF
  have hP := ring_place v hr hm
  rw [decide_eq_true hin, placeI, if_pos hin] at hP
  generalize pos q v = p at *
  have HF := hide hF
  have HP := hide hP
  have hb' := hide hb
  clear hF hb hr hg hP hin hv
  go_enter Try.func26, Try.ntmps26
  have hk := hb'.out.cell
  go_wp2_with (first
    | (go_at_call 38; have hF := HF.out; refine hF.mono ?_; rintro e w1 ⟨rfl, rfl⟩; clear hF)
    | (go_at_call 14; have hF := HP.out; refine hF.mono ?_; rintro e w2 ⟨rfl, hs2⟩; have Hs2 := hide hs2; have hk2 := (hb'.out.same hs2).cell; clear hs2 hF))
  go_ret2
  exact ⟨by rfl, Hs2.out⟩
end Go.Proofs.Ytkakhpbeglkbnaa
