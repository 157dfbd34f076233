/-
  WriteNone, whole: evaluated; the change is seven letters. No conditions.
-/
import Derived.Test.YtopkdiiigidfdaaGreatEvX
import Derived.Test.YtopkdiiigidfdaaGreatCgIn
namespace Go.Proofs.YtopkdiiigidfdaaGreat
open Go.RowKit Go.Al Go.Ev
set_option linter.unusedVariables false

/-- letters for the cells of a list -/
def lets (l : List Value) (n : Nat) : Value := l.getD n (.bool true)
theorem lets_one {l : List Value} (h : ∀ u ∈ l, u.oneCell' = true) (n : Nat) : (lets l n).oneCell' = true := by
  unfold lets
  rw [List.getD_eq_getElem?_getD]
  cases hn : l[n]? with
  | none => rfl
  | some v => exact h v (List.mem_of_getElem? hn)
theorem writeNone_any (c : Cg) (w : World) : Calls Tryz.prog 3 #[cgV c] w fun e w' => e = .returned (.bool true) ∧ Same w w' :=
  evT catchX_ok (fuel := 1000) (depth := 60) (args := [.agg [.atom 0, .atom 1, .atom 2, .atom 3, .atom 4, .atom 5, .atom 6]]) (by kernel_rfl)
    (lets [.int .i64 c.k, .int .i64 c.p.1, .int .i64 c.p.2.1, .int .i64 c.p.2.2, .int .i64 c.s.1, .int .i64 c.s.2.1, .int .i64 c.s.2.2])
    (lets_one (by intro u hu; simp at hu; rcases hu with rfl | rfl | rfl | rfl | rfl | rfl | rfl <;> rfl))
    ⟨⟨trivial, trivial, trivial, trivial, trivial, trivial, trivial, trivial⟩, trivial⟩ w
end Go.Proofs.YtopkdiiigidfdaaGreat
