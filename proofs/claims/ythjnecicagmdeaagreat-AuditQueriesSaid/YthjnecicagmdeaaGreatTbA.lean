/-
  The table's own judgement of a change: id, adds, places, judge. No conditions.
-/
import Derived.Test.YthjnecicagmdeaaGreatRqP
import Derived.Test.YthjnecicagmdeaaGreatChecked
namespace Go.Proofs.YthjnecicagmdeaaGreat
open Go.RowKit Go.Al
set_option linter.unusedVariables false

def idC (c : Cg) : Int := if c.k = 1 ∨ c.k = 2 then c.p.1 else if c.k = 3 ∨ c.k = 4 then c.s.1 else 0
def kindC (c : Cg) : Bool := decide (c.k = 1 ∨ c.k = 2 ∨ c.k = 3 ∨ c.k = 4)
def good (x : Int) : Bool := decide (-1099511627776 ≤ x) && decide (x ≤ 1099511627776)
def placeE (c : Cg) : Int :=
  if c.k = 1 then (if good c.p.2.1 && good c.p.2.2 then 0 else 2)
  else if c.k = 3 then (if good c.s.2.1 && good c.s.2.2 then (if c.s.2.2 < c.s.2.1 then 3 else 0) else 2) else 0
def judgeE (c : Cg) : Int := if kindC c = false ∨ idC c < 1 ∨ 2147483647 < idC c then 1 else placeE c

set_option maxHeartbeats 400000 in
theorem good_any (x : Int) (w : World) :
    Calls Tryz.prog 85 #[.int .i64 x] w fun e w' => e = .returned (.bool (good x)) ∧ w = w' := by
  unfold good
  by_cases h : -1099511627776 ≤ x
  · go_enter Tryz.func85, Tryz.ntmps85
    go_wp2_with fail
    go_ret
    exact ⟨by simp [h], rfl⟩
  · rw [decide_eq_false h]
    go_enter Tryz.func85, Tryz.ntmps85
    go_wp2_with fail
    go_ret
    exact ⟨by simp, rfl⟩

theorem good_is (x : Int) (w : World) (v : Bool) (h : good x = v) :
    Calls Tryz.prog 85 #[.int .i64 x] w fun e w' => e = .returned (.bool v) ∧ w = w' := h ▸ good_any x w
def addsC (c : Cg) : Bool := decide (c.k = 1 ∨ c.k = 3)
theorem judgeE_bad {c : Cg} (h : kindC c = false ∨ idC c < 1 ∨ 2147483647 < idC c) : judgeE c = 1 := if_pos h
theorem judgeE_ok {c : Cg} (h : ¬ (kindC c = false ∨ idC c < 1 ∨ 2147483647 < idC c)) : judgeE c = placeE c := if_neg h
end Go.Proofs.YthjnecicagmdeaaGreat
