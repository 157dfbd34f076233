/-
  The document's own queue: Leave. Condition: at most 65536 wait.
-/
import Derived.Test.YtkakhpbeglkbnaaRqH
namespace Go.Proofs.Ytkakhpbeglkbnaa
open Go.RowKit Go.Al Go.Al.Rg
set_option linter.unusedVariables false

set_option maxHeartbeats 400000 in
theorem refq_leave_has {w : World} {g : Nat} {A : Option Addr} {n c : Nat} {l : List Int} {held : Bool} {most turns : Int} (v : Int) (h : RefQ w g A n c l held most turns) (hv : (held && headI l == v) = true) :
    Calls Try.prog 41 #[.pointer (some ⟨g, 0, none⟩), .int .i64 v] w fun e w' => e = .returned (.int .i64 10) ∧ w = w' := by
  have hF := refq_has v h
  rw [hv] at hF
  have HF := hide hF
  clear hF h hv
  go_enter Try.func41, Try.ntmps41
  go_wp2_with (go_at_call 43; have hF := HF.out; refine hF.mono ?_; rintro e w1 ⟨rfl, rfl⟩; clear hF)
  go_ret
  exact ⟨rfl, rfl⟩
set_option maxHeartbeats 400000 in
theorem refq_leave_none {w : World} {g : Nat} {A : Option Addr} {n c : Nat} {l : List Int} {held : Bool} {most turns : Int} (v : Int) (h : RefQ w g A n c l held most turns) (hn : n ≤ 65536) (hv : (held && headI l == v) = false) (hin : ¬ v ∈ l) :
    Calls Try.prog 41 #[.pointer (some ⟨g, 0, none⟩), .int .i64 v] w fun e w' => e = .returned (.int .i64 6) ∧ w = w' := by
  have hF := refq_has v h
  rw [hv] at hF
  have hG := at_any A n c l v w h.2.1 hn
  rw [atI_out hin] at hG
  have HF := hide hF
  have HG := hide hG
  have hk := h.1.cell
  clear hF hG h hv hin
  go_enter Try.func41, Try.ntmps41
  go_wp2_with (first
    | (go_at_call 43; have hF := HF.out; refine hF.mono ?_; rintro e w1 ⟨rfl, rfl⟩; clear hF)
    | (go_at_call 15; have hF := HG.out; refine hF.mono ?_; rintro e w1 ⟨rfl, rfl⟩; clear hF))
  go_ret
  exact ⟨rfl, rfl⟩

set_option maxHeartbeats 400000 in
theorem refq_leave {w : World} {g : Nat} {A : Option Addr} {n c : Nat} {l : List Int} {held : Bool} {most turns : Int} (v : Int) (h : RefQ w g A n c l held most turns) (hn : n ≤ 65536) (hv : (held && headI l == v) = false) (hin : v ∈ l) (hlen : held = true → 0 < (dropQ l v).length) :
    Calls Try.prog 41 #[.pointer (some ⟨g, 0, none⟩), .int .i64 v] w fun e w' => e = .returned (.int .i64 0) ∧ ∃ A' c', RefQ w' g A' (dropQ l v).length c' (dropQ l v) held most turns ∧ RefStp w g A w' A' := by
  have hF := refq_has v h
  rw [hv] at hF
  have hG := at_any A n c l v w h.2.1 hn
  rw [atI_in hin] at hG
  have hD := row_drop v h.2.1 hn
  have HF := hide hF
  have HG := hide hG
  have HD := hide hD
  have Hb := hide h.1
  have Hlt := hide h.1.lt
  have HA := hide h.2.2.1
  have hk := h.1.cell
  generalize pos l v = p at *
  generalize (dropQ l v).length = m at *
  clear hF hG hD h hv hin
  go_enter Try.func41, Try.ntmps41
  go_wp2_with (first
    | (go_at_call 43; have hF := HF.out; refine hF.mono ?_; rintro e w1 ⟨rfl, rfl⟩; clear hF)
    | (go_at_call 15; have hF := HG.out; refine hF.mono ?_; rintro e w1 ⟨rfl, rfl⟩; clear hF)
    | (go_at_call 16
       have hF := HD.out
       refine hF.mono ?_
       rintro e w2 ⟨A2, c2, rfl, hr2, hs2, hf2⟩
       have hb2 := Hb.out.same hs2
       have hk2 := hb2.cell
       have hz2 := hb2.frozen
       have Hb2 := hide hb2; have Hr2 := hide hr2; have Hs2 := hide hs2; have Hf2 := hide hf2
       clear hb2 hr2 hs2 hf2 hF))
  go_ret
  have hA2 : blkOf A2 ≠ some g := fun e => (Hf2.out g e).elim HA.out fun h => by have := Hlt.out; omega
  have hch : Chg (fun k => k = g) w2 (w2.setCell ⟨g, 0, none⟩ (.slice A2 m c2)) := (Chg.refl _ w2).set1 0 _
  refine ⟨rfl, A2, c2, ⟨?_, RefQ.far Hr2.out hA2 hch, hA2, hlen⟩, Chg.of_same Hs2.out hch, Hf2.out⟩
  have := Hb2.out.set_ 0 (.slice A2 m c2)
  simpa using this
end Go.Proofs.Ytkakhpbeglkbnaa
