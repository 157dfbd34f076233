/-
  The document's own queue: Release, Leave. Condition: at most 65536 wait.
-/
import Derived.Test.YtkakhpbeglkbnaaRqG
namespace Go.Proofs.Ytkakhpbeglkbnaa
open Go.RowKit Go.Al Go.Al.Rg
set_option linter.unusedVariables false

set_option maxHeartbeats 400000 in
theorem refq_release_no {w : World} {g : Nat} {A : Option Addr} {n c : Nat} {l : List Int} {held : Bool} {most turns : Int} (v : Int) (h : RefQ w g A n c l held most turns) (hv : (held && headI l == v) = false) :
    Calls Try.prog 40 #[.pointer (some ⟨g, 0, none⟩), .int .i64 v] w fun e w' => e = .returned (.int .i64 10) ∧ w = w' := by
  have hF := refq_has v h
  rw [hv] at hF
  have HF := hide hF
  clear hF h hv
  go_enter Try.func40, Try.ntmps40
  go_wp2_with (go_at_call 43; have hF := HF.out; refine hF.mono ?_; rintro e w1 ⟨rfl, rfl⟩; clear hF)
  go_ret
  exact ⟨rfl, rfl⟩
set_option maxHeartbeats 400000 in
theorem refq_release {w : World} {g : Nat} {A : Option Addr} {n c : Nat} {l : List Int} {most turns : Int} (h : RefQ w g A n c l true most turns) :
    Calls Try.prog 40 #[.pointer (some ⟨g, 0, none⟩), .int .i64 (headI l)] w fun e w' => e = .returned (.int .i64 0) ∧ ∃ A', RefQ w' g A' (n - 1) (c - 1) l.tail false most turns ∧ RefStp w g A w' A' := by
  have hF := refq_has (headI l) h
  rw [show (true && headI l == headI l) = true by simp] at hF
  obtain ⟨hb, hr, hA, hh⟩ := h
  obtain ⟨A', hcut, hrow, hbk⟩ := hr.tail (hh rfl)
  have hk := hb.cell
  have hz := hb.frozen
  have Hb := hide hb
  have Hrow := hide hrow
  have HA := hide (show blkOf A' ≠ some g by rw [hbk]; exact hA)
  have Hbk := hide hbk
  have HF := hide hF
  generalize headI l = x at *
  have hch : Chg (fun k => k = g) w ((w.setCell ⟨g, 0, none⟩ (.slice A' (n - 1) (c - 1))).setCell ⟨g, 1, none⟩ (.bool false)) := ((Chg.refl _ w).set1 0 _).set1 1 _
  have Hch := hide hch
  clear hb hr hA hh hrow hbk hF hch
  go_enter Try.func40, Try.ntmps40
  go_wp2_with (go_at_call 43; have hF := HF.out; refine hF.mono ?_; rintro e w1 ⟨rfl, rfl⟩; clear hF)
  go_ret
  refine ⟨rfl, A', ⟨?_, RefQ.far Hrow.out HA.out Hch.out, HA.out, fun h => by cases h⟩, Hch.out, fun b hb => .inl (Hbk.out ▸ hb)⟩
  have := (Hb.out.set_ 0 (.slice A' (n - 1) (c - 1))).set_ 1 (.bool false)
  simpa using this
end Go.Proofs.Ytkakhpbeglkbnaa
