/-
  The table's own judgement of a change: id, adds, places, judge. No conditions.
-/
import Derived.Test.YtjpiimobafkolaaGreatDoorRqP
import Derived.Test.YtjpiimobafkolaaGreatDoorChecked
namespace Go.Proofs.YtjpiimobafkolaaGreatDoor
open Go.RowKit Go.Al
set_option linter.unusedVariables false

def idC (c : Cg) : Int := if c.k = 1 ∨ c.k = 2 then c.p.1 else if c.k = 3 ∨ c.k = 4 then c.s.1 else 0
def kindC (c : Cg) : Bool := decide (c.k = 1 ∨ c.k = 2 ∨ c.k = 3 ∨ c.k = 4)
def good (x : Int) : Bool := decide (-1099511627776 ≤ x) && decide (x ≤ 1099511627776)
def placeE (c : Cg) : Int :=
  if c.k = 1 then (if good c.p.2.1 && good c.p.2.2 then 0 else 2)
  else if c.k = 3 then (if good c.s.2.1 && good c.s.2.2 then (if c.s.2.2 < c.s.2.1 then 3 else 0) else 2) else 0
def judgeE (c : Cg) : Int := if kindC c = false ∨ idC c < 1 ∨ 2147483647 < idC c then 1 else placeE c

set_option maxHeartbeats 400000 in
theorem good_any (x : Int) (w : World) :
    Calls Tryz.prog 53 #[.int .i64 x] w fun e w' => e = .returned (.bool (good x)) ∧ w = w' := by
  unfold good
  by_cases h : -1099511627776 ≤ x
  · go_enter Tryz.func53, Tryz.ntmps53
    go_wp2_with fail
    go_ret
    exact ⟨by simp [h], rfl⟩
  · rw [decide_eq_false h]
    go_enter Tryz.func53, Tryz.ntmps53
    go_wp2_with fail
    go_ret
    exact ⟨by simp, rfl⟩

theorem good_is (x : Int) (w : World) (v : Bool) (h : good x = v) :
    Calls Tryz.prog 53 #[.int .i64 x] w fun e w' => e = .returned (.bool v) ∧ w = w' := h ▸ good_any x w
set_option maxHeartbeats 400000 in
theorem id_any (c : Cg) (w : World) :
    Calls Tryz.prog 160 #[cgV c] w fun e w' => e = .returned (.tuple #[.int .i64 (idC c), .bool (kindC c)]) ∧ Same w w' := by
  obtain ⟨k, ⟨pi, px, py⟩, ⟨si, lo, hi⟩⟩ := c
  unfold cgV idC kindC
  have hs : Same w (w.alloc (.cells #[.int .i64 k, .int .i64 pi, .int .i64 px, .int .i64 py, .int .i64 si, .int .i64 lo, .int .i64 hi] 70)) := (Chg.refl _ w).alloc _
  have Hs := hide hs
  clear hs
  by_cases h1 : k = 1
  · subst h1
    go_enter Tryz.func160, Tryz.ntmps160
    go_wp2_with fail
    go_ret2
    exact ⟨by simp, Hs.out⟩
  · by_cases h2 : k = 2
    · subst h2
      go_enter Tryz.func160, Tryz.ntmps160
      go_wp2_with fail
      go_ret2
      exact ⟨by simp, Hs.out⟩
    · by_cases h3 : k = 3
      · subst h3
        go_enter Tryz.func160, Tryz.ntmps160
        go_wp2_with fail
        go_ret2
        exact ⟨by simp, Hs.out⟩
      · by_cases h4 : k = 4
        · subst h4
          go_enter Tryz.func160, Tryz.ntmps160
          go_wp2_with fail
          go_ret2
          exact ⟨by simp, Hs.out⟩
        · go_enter Tryz.func160, Tryz.ntmps160
          go_wp2_with fail
          go_ret2
          exact ⟨by simp, Hs.out⟩

def addsC (c : Cg) : Bool := decide (c.k = 1 ∨ c.k = 3)
set_option maxHeartbeats 400000 in
theorem adds_any (c : Cg) (w : World) :
    Calls Tryz.prog 120 #[cgV c] w fun e w' => e = .returned (.bool (addsC c)) ∧ Same w w' := by
  obtain ⟨k, ⟨pi, px, py⟩, ⟨si, lo, hi⟩⟩ := c
  unfold cgV addsC
  have hs : Same w (w.alloc (.cells #[.int .i64 k, .int .i64 pi, .int .i64 px, .int .i64 py, .int .i64 si, .int .i64 lo, .int .i64 hi] 70)) := (Chg.refl _ w).alloc _
  have Hs := hide hs
  clear hs
  by_cases h1 : k = 1
  · subst h1
    go_enter Tryz.func120, Tryz.ntmps120
    go_wp2_with fail
    go_ret
    exact ⟨by simp, Hs.out⟩
  · go_enter Tryz.func120, Tryz.ntmps120
    go_wp2_with fail
    go_ret
    have hb : (k == 1) = false := by simpa using h1
    exact ⟨by simp [h1]; rw [hb]; rfl, Hs.out⟩

set_option maxRecDepth 100000 in
set_option maxHeartbeats 1000000 in
theorem places_any (c : Cg) (w : World) :
    Calls Tryz.prog 161 #[cgV c] w fun e w' => e = .returned (.int .i64 (placeE c)) ∧ Same w w' := by
  obtain ⟨k, ⟨pi, px, py⟩, ⟨si, lo, hi⟩⟩ := c
  unfold cgV placeE
  have hs : Same w (w.alloc (.cells #[.int .i64 k, .int .i64 pi, .int .i64 px, .int .i64 py, .int .i64 si, .int .i64 lo, .int .i64 hi] 70)) := (Chg.refl _ w).alloc _
  have Hs := hide hs
  clear hs
  have HG := hide good_is
  by_cases h1 : k = 1
  · subst h1
    simp only [if_true]
    cases hx : good px
    · go_enter Tryz.func161, Tryz.ntmps161
      go_wp2_with ((go_at_call 53; refine (HG.out px _ _ hx).mono ?_; rintro e w1 ⟨rfl, hww⟩; subst hww))
      go_ret
      exact ⟨by simp, Hs.out⟩
    · cases hy : good py
      · go_enter Tryz.func161, Tryz.ntmps161
        go_wp2_with (first
          | (go_at_call_of 53 (Value.int IntKind.i64 px); refine (HG.out px _ _ hx).mono ?_; rintro e w1 ⟨rfl, hww⟩; subst hww)
          | (go_at_call_of 53 (Value.int IntKind.i64 py); refine (HG.out py _ _ hy).mono ?_; rintro e w1 ⟨rfl, hww⟩; subst hww))
        go_ret
        exact ⟨by simp, Hs.out⟩
      · go_enter Tryz.func161, Tryz.ntmps161
        go_wp2_with (first
          | (go_at_call_of 53 (Value.int IntKind.i64 px); refine (HG.out px _ _ hx).mono ?_; rintro e w1 ⟨rfl, hww⟩; subst hww)
          | (go_at_call_of 53 (Value.int IntKind.i64 py); refine (HG.out py _ _ hy).mono ?_; rintro e w1 ⟨rfl, hww⟩; subst hww))
        go_ret
        exact ⟨by simp, Hs.out⟩
  · by_cases h3 : k = 3
    · subst h3
      rw [if_neg (by decide : ¬ (3 : Int) = 1)]
      simp only [if_true]
      cases hx : good lo
      · go_enter Tryz.func161, Tryz.ntmps161
        go_wp2_with ((go_at_call 53; refine (HG.out lo _ _ hx).mono ?_; rintro e w1 ⟨rfl, hww⟩; subst hww))
        go_ret
        exact ⟨by simp, Hs.out⟩
      · cases hy : good hi
        · go_enter Tryz.func161, Tryz.ntmps161
          go_wp2_with (first
            | (go_at_call_of 53 (Value.int IntKind.i64 lo); refine (HG.out lo _ _ hx).mono ?_; rintro e w1 ⟨rfl, hww⟩; subst hww)
            | (go_at_call_of 53 (Value.int IntKind.i64 hi); refine (HG.out hi _ _ hy).mono ?_; rintro e w1 ⟨rfl, hww⟩; subst hww))
          go_ret
          exact ⟨by simp, Hs.out⟩
        · by_cases hl : hi < lo
          · go_enter Tryz.func161, Tryz.ntmps161
            go_wp2_with (first
              | (go_at_call_of 53 (Value.int IntKind.i64 lo); refine (HG.out lo _ _ hx).mono ?_; rintro e w1 ⟨rfl, hww⟩; subst hww)
              | (go_at_call_of 53 (Value.int IntKind.i64 hi); refine (HG.out hi _ _ hy).mono ?_; rintro e w1 ⟨rfl, hww⟩; subst hww))
            go_ret
            exact ⟨by simp, Hs.out⟩
          · go_enter Tryz.func161, Tryz.ntmps161
            go_wp2_with (first
              | (go_at_call_of 53 (Value.int IntKind.i64 lo); refine (HG.out lo _ _ hx).mono ?_; rintro e w1 ⟨rfl, hww⟩; subst hww)
              | (go_at_call_of 53 (Value.int IntKind.i64 hi); refine (HG.out hi _ _ hy).mono ?_; rintro e w1 ⟨rfl, hww⟩; subst hww))
            go_ret
            exact ⟨by simp, Hs.out⟩
    · go_enter Tryz.func161, Tryz.ntmps161
      go_wp2_with fail
      go_ret
      exact ⟨by simp, Hs.out⟩

theorem judgeE_bad {c : Cg} (h : kindC c = false ∨ idC c < 1 ∨ 2147483647 < idC c) : judgeE c = 1 := if_pos h
theorem judgeE_ok {c : Cg} (h : ¬ (kindC c = false ∨ idC c < 1 ∨ 2147483647 < idC c)) : judgeE c = placeE c := if_neg h
set_option maxRecDepth 100000 in
set_option maxHeartbeats 1000000 in
theorem judge_any (c : Cg) (w : World) :
    Calls Tryz.prog 118 #[cgV c] w fun e w' => e = .returned (.int .i64 (judgeE c)) ∧ Same w w' := by
  have HI := hide (id_any c)
  have HP := hide (places_any c)
  have HB := hide (judgeE_bad (c := c))
  have HO := hide (judgeE_ok (c := c))
  generalize judgeE c = j at *
  generalize placeE c = pl at *
  generalize idC c = i at *
  generalize kindC c = kk at *
  obtain ⟨k, ⟨pi, px, py⟩, ⟨si, lo, hi⟩⟩ := c
  unfold cgV at *
  have hs : Same w (w.alloc (.cells #[.int .i64 k, .int .i64 pi, .int .i64 px, .int .i64 py, .int .i64 si, .int .i64 lo, .int .i64 hi] 70)) := (Chg.refl _ w).alloc _
  have hb := Blk.new w 70 #[.int .i64 k, .int .i64 pi, .int .i64 px, .int .i64 py, .int .i64 si, .int .i64 lo, .int .i64 hi]
  have Hs := hide hs
  have Hb := hide hb
  clear hs hb
  cases kk
  · have hj := HB.out (.inl rfl)
    subst hj
    go_enter Tryz.func118, Tryz.ntmps118
    go_wp2_with ((go_at_call 160; refine (HI.out _).mono ?_; rintro e w1 ⟨rfl, hs1⟩; have Hs1 := hide (Hs.out.trans hs1); clear hs1))
    go_ret
    exact ⟨rfl, Hs1.out⟩
  · by_cases h1 : i < 1
    · have hj := HB.out (.inr (.inl h1))
      subst hj
      go_enter Tryz.func118, Tryz.ntmps118
      go_wp2_with ((go_at_call 160; refine (HI.out _).mono ?_; rintro e w1 ⟨rfl, hs1⟩; have Hs1 := hide (Hs.out.trans hs1); clear hs1))
      go_ret
      exact ⟨rfl, Hs1.out⟩
    · by_cases h2 : 2147483647 < i
      · have hj := HB.out (.inr (.inr h2))
        subst hj
        go_enter Tryz.func118, Tryz.ntmps118
        go_wp2_with ((go_at_call 160; refine (HI.out _).mono ?_; rintro e w1 ⟨rfl, hs1⟩; have Hs1 := hide (Hs.out.trans hs1); clear hs1))
        go_ret
        exact ⟨rfl, Hs1.out⟩
      · have hj := HO.out (by simp [h1, h2])
        subst hj
        go_enter Tryz.func118, Tryz.ntmps118
        go_wp2_with (first
          | (go_at_call 160; refine (HI.out _).mono ?_; rintro e w1 ⟨rfl, hs1⟩; have hk1 := (Hb.out.same hs1).cell; have Hs1 := hide (Hs.out.trans hs1); clear hs1)
          | (go_at_call 161; refine (HP.out _).mono ?_; rintro e w2 ⟨rfl, hs2⟩; have Hs2 := hide (Hs1.out.trans hs2); clear hs2))
        go_ret
        exact ⟨rfl, Hs2.out⟩
end Go.Proofs.YtjpiimobafkolaaGreatDoor
