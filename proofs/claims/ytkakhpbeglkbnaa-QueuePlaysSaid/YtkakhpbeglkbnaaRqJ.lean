/-
  The document's own queue: Want. Condition: at most 65536 wait.
-/
import Derived.Test.YtkakhpbeglkbnaaRqI
namespace Go.Proofs.Ytkakhpbeglkbnaa
open Go.RowKit Go.Al Go.Al.Rg
set_option linter.unusedVariables false

theorem RefQ.drewN {w : World} {g : Nat} {A : Option Addr} {n c : Nat} {l : List Int} {held : Bool} {most turns : Int} (h : RefQ w g A n c l held most turns) (k : Nat) : RefQ (w.drewN k) g A n c l held most turns :=
  ⟨h.1.drewN k, h.2.1.same (Same.of_drewN _ _), h.2.2⟩
set_option maxHeartbeats 400000 in
theorem wait_free {w : World} {g : Nat} {A : Option Addr} {n c : Nat} {l : List Int} {most turns : Int} (h : RefQ w g A n c l false most turns) :
    Calls Try.prog 32 #[.pointer (some ⟨g, 0, none⟩)] w fun e w' => e = .returned (.slice A n c) ∧ w = w' := by
  have hk := h.1.cell
  clear h
  go_enter Try.func32, Try.ntmps32
  go_wp2_with fail
  go_ret
  exact ⟨rfl, rfl⟩
set_option maxHeartbeats 400000 in
theorem wait_held {w : World} {g : Nat} {A A' : Option Addr} {n c : Nat} {l : List Int} {most turns : Int} (h : RefQ w g A n c l true most turns) (hcut : ∀ w : World, (Instr.slice 36 (.slice A n c) (some (.int .i64 1)) none none).run Try.prog w = .ok (.slice A' (n - 1) (c - 1)) w) :
    Calls Try.prog 32 #[.pointer (some ⟨g, 0, none⟩)] w fun e w' => e = .returned (.slice A' (n - 1) (c - 1)) ∧ w = w' := by
  have hk := h.1.cell
  clear h
  go_enter Try.func32, Try.ntmps32
  go_wp2_with fail
  go_ret
  exact ⟨rfl, rfl⟩
/-- what Wait tells, whenever it is asked -/
theorem wait_any {w : World} {g : Nat} {A : Option Addr} {n c : Nat} {l : List Int} {held : Bool} {most turns : Int} (h : RefQ w g A n c l held most turns) :
    ∃ A' c', Row w A' (waitL l held).length c' (waitL l held) ∧ ∀ k, Calls Try.prog 32 #[.pointer (some ⟨g, 0, none⟩)] (w.drewN k) fun e w' => e = .returned (.slice A' (waitL l held).length c') ∧ w.drewN k = w' := by
  cases held
  · have e : (waitL l false).length = n := h.2.1.2.1
    rw [e]
    exact ⟨A, c, h.2.1, fun k => wait_free (h.drewN k)⟩
  · obtain ⟨A', hcut, hrow, _⟩ := h.2.1.tail (h.2.2.2 rfl)
    have e : (waitL l true).length = n - 1 := hrow.2.1
    rw [e]
    exact ⟨A', c - 1, hrow, fun k => wait_held (h.drewN k) hcut⟩
end Go.Proofs.Ytkakhpbeglkbnaa
