/-
  Operations: linear.must, linear.can, history.ended, begun, Before; a slice of operations. No conditions.
-/
import Derived.Test.YtenkdjfikppkdaaGreatDoorLnP
import Derived.Test.YtenkdjfikppkdaaGreatDoorQyF
import Derived.Test.YtenkdjfikppkdaaGreatDoorQs
namespace Go.Proofs.YtenkdjfikppkdaaGreatDoor
open Go.RowKit Go.Al
set_option linter.unusedVariables false

/-- a slice of operations -/
structure Dds (w : World) (A : Option Addr) (l : List Dd) : Prop where
  row : l ≠ [] → ∃ b off, A = some ⟨b, off, none⟩ ∧ b < w.heap.size ∧ ∀ i (h : i < l.length), w.rangeAt b (off + i * 29) (ddL l[i])
  rep : ∀ d ∈ l, RpAt w d.t
theorem Dds.same {w w' : World} {A : Option Addr} {l : List Dd} (h : Dds w A l) (hs : Same w w') : Dds w' A l :=
  ⟨fun hn => by
    obtain ⟨b, off, e, hb, hc⟩ := h.row hn
    exact ⟨b, off, e, Nat.lt_of_lt_of_le hb hs.size, fun i hi => rangeAt_same (hc i hi) hs⟩, fun d hd => (h.rep d hd).same hs⟩
theorem Dds.at_ {w : World} {A : Option Addr} {l : List Dd} (h : Dds w A l) {i : Nat} (hi : i < l.length) :
    ∃ b off, A = some ⟨b, off, none⟩ ∧ b < w.heap.size ∧ w.rangeAt b (off + i * 29) (ddL l[i]) ∧ RpAt w l[i].t := by
  obtain ⟨b, off, e, hb, hc⟩ := h.row (fun e => by rw [e] at hi; simp at hi)
  exact ⟨b, off, e, hb, hc i hi, h.rep _ (List.getElem_mem hi)⟩
theorem infoDeed : (Tryz.prog.info? 116).map (·.size) = some 29 := by kernel_rfl
theorem infoReq : (Tryz.prog.info? 38).map (·.size) = some 18 := by kernel_rfl
theorem infoRep : (Tryz.prog.info? 44).map (·.size) = some 5 := by kernel_rfl
theorem one_ddL (d : Dd) : ∀ u ∈ ddL d, u.oneCell' = true := by
  intro u hu
  simp only [ddL, rqL, cgL, qL, rpL, List.cons_append, List.nil_append, List.mem_cons, List.not_mem_nil, or_false] at hu
  rcases hu with h | h | h | h | h | h | h | h | h | h | h | h | h | h | h | h | h | h | h | h | h | h | h | h | h | h | h | h | h <;> (subst h; rfl)
theorem blk_deed (w : World) (t : TypeId) (d : Dd) : (w.alloc (.cells (ddL d).toArray t)).rangeAt w.heap.size 0 (ddL d) := fun j v hv => by
  rw [Nat.zero_add, (Blk.new w t (ddL d).toArray).cell]
  simpa using hv

def maxI (a b : Int) : Int := if a < b then b else a
theorem endD_eq (d : Dd) : endD d = maxI d.rp d.rf := rfl
theorem beginD_eq (d : Dd) : beginD d = maxI d.iv d.rf := rfl
end Go.Proofs.YtenkdjfikppkdaaGreatDoor
