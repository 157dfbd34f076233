/-
  The document's own queue: Grant, Release, Leave. Its list is never written in place. Condition: at most 65536 wait.
-/
import Derived.Test.YtkakhpbeglkbnaaRqF
namespace Go.Proofs.Ytkakhpbeglkbnaa
open Go.RowKit Go.Al Go.Al.Rg
set_option linter.unusedVariables false

/-- what a call of the document's queue leaves: only its own block is changed, the list is old or fresh -/
def RefStp (w : World) (g : Nat) (A : Option Addr) (w' : World) (A' : Option Addr) : Prop := Chg (fun k => k = g) w w' ∧ From w A A'

theorem RefQ.far {w w' : World} {g : Nat} {A : Option Addr} {n c : Nat} {l : List Int} (hr : Row w A n c l) (hA : blkOf A ≠ some g) (hc : Chg (fun k => k = g) w w') : Row w' A n c l :=
  hr.chg hc fun b hb e => hA (by rw [hb, e])

set_option maxHeartbeats 400000 in
theorem refq_grant_no {w : World} {g : Nat} {A : Option Addr} {n c : Nat} {l : List Int} {held : Bool} {most turns : Int} (h : RefQ w g A n c l held most turns) (hh : held = true ∨ n = 0) :
    Calls Try.prog 39 #[.pointer (some ⟨g, 0, none⟩)] w fun e w' => e = .returned (.tuple #[.int .i64 0, .bool false]) ∧ w = w' := by
  have hk := h.1.cell
  clear h
  cases held
  · have hn : n = 0 := hh.elim (fun h => by cases h) id
    subst hn
    clear hh
    go_enter Try.func39, Try.ntmps39
    go_wp2_with fail
    go_ret2
    exact ⟨rfl, rfl⟩
  · clear hh
    go_enter Try.func39, Try.ntmps39
    go_wp2_with fail
    go_ret2
    exact ⟨rfl, rfl⟩
set_option maxHeartbeats 400000 in
theorem refq_grant {w : World} {g : Nat} {A : Option Addr} {n c : Nat} {l : List Int} {most : Int} {t : Nat} (h : RefQ w g A n c l false most t) (hn : 0 < n) (ht : t ≤ 1048576) (hn65 : n ≤ 65536) :
    Calls Try.prog 39 #[.pointer (some ⟨g, 0, none⟩)] w fun e w' => e = .returned (.tuple #[.int .i64 (headI l), .bool true]) ∧ RefQ w' g A n c l true most ((t : Int) + 1) ∧ RefStp w g A w' A := by
  obtain ⟨hb, hr, hA, _⟩ := h
  have hk := hb.cell
  have hz := hb.frozen
  have Hb := hide hb
  have Hr := hide hr
  have HA := hide hA
  obtain ⟨b, off, rfl, hbl, hc⟩ := hr.at_ hn
  have hbg : b ≠ g := fun e => hA (by rw [e]; rfl)
  generalize headI l = x at *
  have hc2 : ((w.setCell ⟨g, 1, none⟩ (.bool true)).setCell ⟨g, 3, none⟩ (.int .i64 ((t : Int) + 1))).cell? ⟨b, off, none⟩ = some (.int .i64 x) := by
    have := (((Chg.refl (fun k => k = g) w).set1 1 (.bool true)).set1 3 (.int .i64 ((t : Int) + 1))).cell (p := ⟨b, off, none⟩) hbl hbg
    rw [this, hc]
  have hch : Chg (fun k => k = g) w ((w.setCell ⟨g, 1, none⟩ (.bool true)).setCell ⟨g, 3, none⟩ (.int .i64 ((t : Int) + 1))) := ((Chg.refl _ w).set1 1 _).set1 3 _
  have Hch := hide hch
  clear hb hr hA hc hch
  go_enter Try.func39, Try.ntmps39
  go_wp2_with fail
  go_ret2
  refine ⟨rfl, ⟨?_, RefQ.far Hr.out HA.out Hch.out, HA.out, fun _ => hn⟩, Hch.out, fun b hb => .inl hb⟩
  have := (Hb.out.set_ 1 (.bool true)).set_ 3 (.int .i64 ((t : Int) + 1))
  simpa using this
end Go.Proofs.Ytkakhpbeglkbnaa
