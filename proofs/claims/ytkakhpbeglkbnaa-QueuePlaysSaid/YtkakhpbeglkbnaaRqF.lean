/-
  The document's own queue: Has, Wait, Grant, Release. Its list is never written in place. Condition: at most 65536 wait.
-/
import Derived.Test.YtkakhpbeglkbnaaRqE
namespace Go.Proofs.Ytkakhpbeglkbnaa
open Go.RowKit Go.Al Go.Al.Rg
set_option linter.unusedVariables false

/-- the document's queue: its list, whether the first one has its turn, and how many turns there were -/
def RefQ (w : World) (g : Nat) (A : Option Addr) (n c : Nat) (l : List Int) (held : Bool) (most turns : Int) : Prop :=
  Blk w g 53 #[.slice A n c, .bool held, .int .i64 most, .int .i64 turns] ∧ Row w A n c l ∧ blkOf A ≠ some g ∧ (held = true → 0 < n)

set_option maxHeartbeats 400000 in
theorem refq_has {w : World} {g : Nat} {A : Option Addr} {n c : Nat} {l : List Int} {held : Bool} {most turns : Int} (v : Int) (h : RefQ w g A n c l held most turns) :
    Calls Try.prog 43 #[.pointer (some ⟨g, 0, none⟩), .int .i64 v] w fun e w' => e = .returned (.bool (held && headI l == v)) ∧ w = w' := by
  obtain ⟨hb, hr, _, hh⟩ := h
  have hk := hb.cell
  cases held
  · clear hb hr hh
    go_enter Try.func43, Try.ntmps43
    go_wp2_with fail
    go_ret
    exact ⟨by simp, rfl⟩
  · have hn := hh rfl
    obtain ⟨b, off, rfl, hbl, hc⟩ := hr.at_ hn
    generalize headI l = x at *
    clear hb hr hh
    go_enter Try.func43, Try.ntmps43
    go_wp2_with fail
    go_ret
    exact ⟨by simp, rfl⟩

/-- who waits behind the holder -/
def waitL (l : List Int) (held : Bool) : List Int := if held then l.tail else l
set_option maxHeartbeats 400000 in
theorem refq_wait {w : World} {g : Nat} {A : Option Addr} {n c : Nat} {l : List Int} {held : Bool} {most turns : Int} (h : RefQ w g A n c l held most turns) :
    Calls Try.prog 32 #[.pointer (some ⟨g, 0, none⟩)] w fun e w' => (∃ A' c', e = .returned (.slice A' (waitL l held).length c') ∧ Row w A' (waitL l held).length c' (waitL l held)) ∧ w = w' := by
  obtain ⟨hb, hr, _, hh⟩ := h
  have hk := hb.cell
  have Hr := hide hr
  cases held
  · have Hl := hide hr.2.1
    clear hb hr hh
    go_enter Try.func32, Try.ntmps32
    go_wp2_with fail
    go_ret
    have e : (waitL l false).length = n := Hl.out
    rw [e]
    exact ⟨⟨A, c, rfl, Hr.out⟩, rfl⟩
  · have hn := hh rfl
    obtain ⟨A', hcut, hrow, _⟩ := hr.tail hn
    have Hrow := hide hrow
    have Hl := hide hrow.2.1
    clear hb hr hh hrow
    go_enter Try.func32, Try.ntmps32
    go_wp2_with fail
    go_ret
    have e : (waitL l true).length = n - 1 := Hl.out
    rw [e]
    exact ⟨⟨A', c - 1, rfl, Hrow.out⟩, rfl⟩
end Go.Proofs.Ytkakhpbeglkbnaa
