/-
  Which points and intervals are good, and rise by their ids: kern.Good, Fair; digest.rising, well. Condition: at most 1048576 of each.
-/
import Derived.Test.YtopkdiiigidfdaaGreatTbA
import Derived.Test.YtopkdiiigidfdaaGreatDgP
import Derived.Test.YtopkdiiigidfdaaGreatMx
namespace Go.Proofs.YtopkdiiigidfdaaGreat
open Go.RowKit Go.Al
set_option linter.unusedVariables false

/-- not below; not at most: under a name, so that no simplifier turns it -/
structure NotLt (a b : Int) : Prop where
  out : ¬ a < b
structure NotLe (a b : Int) : Prop where
  out : ¬ a ≤ b
structure NotPos (i : Nat) : Prop where
  out : ¬ 0 < i
/-- good and rising so far -/
def RisAt (g : P3 → Bool) (l : List P3) (i : Nat) : Prop := (∀ j (h : j < l.length), j < i → g l[j] = true) ∧ ∀ j (h : j + 1 < l.length), j + 1 < i → l[j].1 < l[j + 1].1
theorem ris_iff (g : P3 → Bool) : ∀ l : List P3, risB g l = true ↔ (∀ j (h : j < l.length), g l[j] = true) ∧ ∀ j (h : j + 1 < l.length), l[j].1 < l[j + 1].1
  | [] => by simp [risB]
  | [p] => by
    simp only [risB, List.length_cons, List.length_nil]
    refine ⟨fun h => ⟨fun j hj => ?_, fun j hj => by omega⟩, fun h => h.1 0 (by omega)⟩
    have : j = 0 := by omega
    subst this
    exact h
  | p :: q :: l => by
    have ih := ris_iff g (q :: l)
    simp only [risB, Bool.and_eq_true, decide_eq_true_eq, ih]
    refine ⟨fun h => ⟨fun j hj => ?_, fun j hj => ?_⟩, fun h => ⟨⟨h.1 0 (by simp), h.2 0 (by simp)⟩, fun j hj => h.1 (j + 1) (by simpa using hj), fun j hj => h.2 (j + 1) (by simpa using hj)⟩⟩
    · cases j with
      | zero => exact h.1.1
      | succ j => exact h.2.1 j (by simpa using hj)
    · cases j with
      | zero => exact h.1.2
      | succ j => exact h.2.2 j (by simpa using hj)
theorem ris_true {g : P3 → Bool} {l : List P3} {n : Nat} (h : RisAt g l n) (hn : l.length ≤ n) : risB g l = true := (ris_iff g l).2 ⟨fun j hj => h.1 j hj (by omega), fun j hj => h.2 j hj (by omega)⟩
theorem ris_bad {g : P3 → Bool} {l : List P3} {i : Nat} (hi : i < l.length) (h : g l[i] = false) : risB g l = false := by
  cases hr : risB g l with
  | false => rfl
  | true => have := ((ris_iff g l).1 hr).1 i hi; rw [h] at this; cases this
theorem ris_turn {g : P3 → Bool} {l : List P3} {i m : Nat} (hm : i = m + 1) (hi : i < l.length) (h : ¬ l[m].1 < l[i].1) : risB g l = false := by
  subst hm
  cases hr : risB g l with
  | false => rfl
  | true => exact absurd (((ris_iff g l).1 hr).2 m hi) h
theorem ris_next {g : P3 → Bool} {l : List P3} {i : Nat} (h : RisAt g l i) (hi : i < l.length) (hg : g l[i] = true) (ho : ∀ m (hm : i = m + 1), l[m].1 < l[i].1) : RisAt g l (i + 1) := by
  refine ⟨fun j hj hji => ?_, fun j hj hji => ?_⟩
  · rcases Nat.lt_or_ge j i with h1 | h1
    · exact h.1 j hj h1
    · have : j = i := by omega
      subst this
      exact hg
  · rcases Nat.lt_or_ge (j + 1) i with h1 | h1
    · exact h.2 j hj h1
    · have : i = j + 1 := by omega
      subst this
      exact ho j rfl
set_option maxHeartbeats 1000000 in
theorem kid_any (n : Int) (w : World) :
    Calls Tryz.prog 141 #[.int .i64 n] w fun e w' => e = .returned (.bool (idB n)) ∧ w = w' := by
  unfold idB
  by_cases h : 1 ≤ n
  · go_enter Tryz.func141, Tryz.ntmps141
    go_wp2_with fail
    go_ret
    exact ⟨by simp [h], rfl⟩
  · rw [decide_eq_false h]
    go_enter Tryz.func141, Tryz.ntmps141
    go_wp2_with fail
    go_ret
    exact ⟨by simp, rfl⟩
set_option maxRecDepth 100000 in
set_option maxHeartbeats 2000000 in
theorem klies_any (p : P3) (w : World) :
    Calls Tryz.prog 142 #[agg3 p] w fun e w' => e = .returned (.bool (coordB p.2.1 && coordB p.2.2)) ∧ Same w w' := by
  obtain ⟨i, x, y⟩ := p
  unfold agg3
  have hx : good x = coordB x := rfl
  have hy : good y = coordB y := rfl
  have HX := hide (fun w' => good_is x w' _ hx)
  have HY := hide (fun w' => good_is y w' _ hy)
  simp only
  generalize coordB x = a at *
  generalize coordB y = b at *
  clear hx hy
  cases a
  all_goals cases b
  all_goals
    go_enter Tryz.func142, Tryz.ntmps142
    go_wp2_with (first
      | (go_at_call 143; (first | (with_reducible refine (HX.out _).mono ?_) | (with_reducible refine (HY.out _).mono ?_)); rintro e w' ⟨rfl, rfl⟩)
      | fail)
    go_ret
    exact ⟨rfl, by first | exact Chg.refl _ _ | exact (Chg.refl _ _).alloc _ | exact ((Chg.refl _ _).alloc _).alloc _⟩
set_option maxRecDepth 100000 in
set_option maxHeartbeats 2000000 in
theorem kgood_any (p : P3) (w : World) :
    Calls Tryz.prog 79 #[agg3 p] w fun e w' => e = .returned (.bool (goodPB p)) ∧ Same w w' := by
  have HI := hide (fun w' => kid_any p.1 w')
  have HL := hide (fun w' => klies_any p w')
  unfold goodPB
  generalize (coordB p.2.1 && coordB p.2.2) = b at *
  generalize idB p.1 = a at *
  obtain ⟨i, x, y⟩ := p
  unfold agg3 at *
  simp only at *
  cases a
  all_goals cases b
  all_goals
    go_enter Tryz.func79, Tryz.ntmps79
    go_wp2_with (first
      | (go_at_call 141; (with_reducible refine (HI.out _).mono ?_); rintro e w' ⟨rfl, rfl⟩)
      | (go_at_call 142; (with_reducible refine (HL.out _).mono ?_); rintro e w' ⟨rfl, hs⟩; have Hs := hide hs; clear hs)
      | fail)
    go_ret
    exact ⟨rfl, by first | exact (Chg.refl _ _).alloc _ | exact Same.trans ((Chg.refl _ _).alloc _) Hs.out⟩
set_option maxRecDepth 100000 in
set_option maxHeartbeats 4000000 in
theorem kfair_any (p : P3) (w : World) :
    Calls Tryz.prog 82 #[agg3 p] w fun e w' => e = .returned (.bool (fairB p)) ∧ Same w w' := by
  have HI := hide (fun w' => kid_any p.1 w')
  have HX := hide (fun w' => good_is p.2.1 w' _ (show good p.2.1 = coordB p.2.1 from rfl))
  have HY := hide (fun w' => good_is p.2.2 w' _ (show good p.2.2 = coordB p.2.2 from rfl))
  unfold fairB
  generalize coordB p.2.1 = b at *
  generalize coordB p.2.2 = c at *
  generalize idB p.1 = a at *
  obtain ⟨i, x, y⟩ := p
  unfold agg3 at *
  simp only at *
  have Hs : Hid (Same w (w.alloc (.cells #[.int .i64 i, .int .i64 x, .int .i64 y] 25))) := hide ((Chg.refl _ _).alloc _)
  by_cases hxy : x ≤ y
  all_goals cases a
  all_goals cases b
  all_goals cases c
  all_goals (first | rw [decide_eq_true hxy] | rw [decide_eq_false hxy])
  all_goals
    go_enter Tryz.func82, Tryz.ntmps82
    go_wp2_with (first
      | (go_at_call 141; (with_reducible refine (HI.out _).mono ?_); rintro e w' ⟨rfl, rfl⟩)
      | (go_at_call 143; (first | (with_reducible refine (HX.out _).mono ?_) | (with_reducible refine (HY.out _).mono ?_)); rintro e w' ⟨rfl, rfl⟩)
      | fail)
    go_ret
    exact ⟨by first | rfl | (simp [hxy]; done), Hs.out⟩
set_option maxRecDepth 100000 in
set_option maxHeartbeats 1000000 in
theorem pid_any (p : P3) (w : World) :
    Calls Tryz.prog 80 #[agg3 p] w fun e w' => e = .returned (.int .i64 p.1) ∧ Same w w' := by
  obtain ⟨i, x, y⟩ := p
  unfold agg3
  go_enter Tryz.func80, Tryz.ntmps80
  go_wp2_with fail
  go_ret
  exact ⟨rfl, (Chg.refl _ _).alloc _⟩
set_option maxRecDepth 100000 in
set_option maxHeartbeats 1000000 in
theorem sid_any (p : P3) (w : World) :
    Calls Tryz.prog 83 #[agg3 p] w fun e w' => e = .returned (.int .i64 p.1) ∧ Same w w' := by
  obtain ⟨i, x, y⟩ := p
  unfold agg3
  go_enter Tryz.func83, Tryz.ntmps83
  go_wp2_with fail
  go_ret
  exact ⟨rfl, (Chg.refl _ _).alloc _⟩
end Go.Proofs.YtopkdiiigidfdaaGreat
