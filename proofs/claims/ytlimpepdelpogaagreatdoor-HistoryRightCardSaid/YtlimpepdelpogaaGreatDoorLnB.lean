/-
  Plain words on orders that explain operations: which may be the next ones, the first order that explains all. Nothing of the program is walked here. No conditions.
  Operations: linear.must, linear.can, history.ended, begun, Before; a slice of operations. No conditions.
  linear.can: which operations can have happened. No conditions.
-/
import Derived.Test.YtlimpepdelpogaaGreatDoorQyF
import Derived.Test.YtlimpepdelpogaaGreatDoorIn

import Derived.Test.YtlimpepdelpogaaGreatDoorMy
/-! LnP -/
namespace Go.Proofs.YtlimpepdelpogaaGreatDoor
open Go.RowKit Go.Al
set_option linter.unusedVariables false
end Go.Proofs.YtlimpepdelpogaaGreatDoor
/-! LnA -/
namespace Go.Proofs.YtlimpepdelpogaaGreatDoor
open Go.RowKit Go.Al
set_option linter.unusedVariables false
/-- a slice of operations -/
structure Dds (w : World) (A : Option Addr) (l : List Dd) : Prop where
  row : l ≠ [] → ∃ b off, A = some ⟨b, off, none⟩ ∧ b < w.heap.size ∧ ∀ i (h : i < l.length), w.rangeAt b (off + i * 29) (ddL l[i])
  rep : ∀ d ∈ l, RpAt w d.t
theorem Dds.same {w w' : World} {A : Option Addr} {l : List Dd} (h : Dds w A l) (hs : Same w w') : Dds w' A l :=
  ⟨fun hn => by
    obtain ⟨b, off, e, hb, hc⟩ := h.row hn
    exact ⟨b, off, e, Nat.lt_of_lt_of_le hb hs.size, fun i hi => rangeAt_same (hc i hi) hs⟩, fun d hd => (h.rep d hd).same hs⟩
theorem Dds.at_ {w : World} {A : Option Addr} {l : List Dd} (h : Dds w A l) {i : Nat} (hi : i < l.length) :
    ∃ b off, A = some ⟨b, off, none⟩ ∧ b < w.heap.size ∧ w.rangeAt b (off + i * 29) (ddL l[i]) ∧ RpAt w l[i].t := by
  obtain ⟨b, off, e, hb, hc⟩ := h.row (fun e => by rw [e] at hi; simp at hi)
  exact ⟨b, off, e, hb, hc i hi, h.rep _ (List.getElem_mem hi)⟩
theorem one_ddL (d : Dd) : ∀ u ∈ ddL d, u.oneCell' = true := by
  intro u hu
  simp only [ddL, rqL, cgL, qL, rpL, List.cons_append, List.nil_append, List.mem_cons, List.not_mem_nil, or_false] at hu
  rcases hu with h | h | h | h | h | h | h | h | h | h | h | h | h | h | h | h | h | h | h | h | h | h | h | h | h | h | h | h | h <;> (subst h; rfl)
end Go.Proofs.YtlimpepdelpogaaGreatDoor
/-! LnB -/
namespace Go.Proofs.YtlimpepdelpogaaGreatDoor
open Go.RowKit Go.Al
set_option linter.unusedVariables false
end Go.Proofs.YtlimpepdelpogaaGreatDoor
