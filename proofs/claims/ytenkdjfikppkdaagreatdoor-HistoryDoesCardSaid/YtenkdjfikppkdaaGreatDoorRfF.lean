/-
  The document's set: Clone. Condition: at most 65535 of each.
-/
import Derived.Test.YtenkdjfikppkdaaGreatDoorTcC
import Derived.Test.YtenkdjfikppkdaaGreatDoorAp
import Derived.Test.YtenkdjfikppkdaaGreatDoorMx
namespace Go.Proofs.YtenkdjfikppkdaaGreatDoor
open Go.RowKit Go.Al
set_option linter.unusedVariables false

/-- how Clone ends -/
def CloneEnd (w : World) (most : Int) (p s : List P3) (e : Ending) (w' : World) : Prop :=
  ∃ g' AP' cp' AS' cs', e = .returned (.pointer (some ⟨g', 0, none⟩)) ∧ SetR w' g' AP' cp' AS' cs' most p s ∧ Same w w' ∧ w.heap.size ≤ g' ∧ (∀ b, blkOf AP' = some b → w.heap.size ≤ b) ∧ (∀ b, blkOf AS' = some b → w.heap.size ≤ b)
theorem blk_app {w W w' : World} {A' : Option Addr} {b : Nat} (hs : Same w W) (hs' : Same W w') (hb : w.heap.size ≤ b) (hlt : b < W.heap.size) (h : A' = some ⟨b, 0, none⟩ ∨ A' = some ⟨W.heap.size, 0, none⟩ ∧ W.heap.size < w'.heap.size) : ∀ k, blkOf A' = some k → w.heap.size ≤ k ∧ k < w'.heap.size := fun k hk => by
  have h1 := hs'.size
  have h2 := hs.size
  rcases h with rfl | ⟨rfl, h⟩
  · simp [blkOf] at hk; omega
  · simp [blkOf] at hk; omega
theorem setR_new {w w1 : World} {n m cp cs : Nat} {AP AS : Option Addr} {most : Int} {p s : List P3} (hs : Same w w1) (hn : p.length = n) (hm : s.length = m)
    (h1 : Rd w1 AP (is3 p)) (h2 : Rd w1 AS (is3 s)) (b1 : n ≤ cp ∧ cp ≤ maxLen) (b2 : m ≤ cs ∧ cs ≤ maxLen) (k1 : ∀ k, blkOf AP = some k → w.heap.size ≤ k ∧ k < w1.heap.size) (k2 : ∀ k, blkOf AS = some k → w.heap.size ≤ k ∧ k < w1.heap.size) :
    CloneEnd w most p s (.returned (.pointer (some ⟨w1.heap.size, 0, none⟩))) (w1.alloc (.cells #[.slice AP n cp, .slice AS m cs, .int .i64 most] 58)) := by
  subst hn
  subst hm
  have al : Same w1 (w1.alloc (.cells #[.slice AP p.length cp, .slice AS s.length cs, .int .i64 most] 58)) := (Chg.refl _ w1).alloc _
  have r1 : Row3 w1 AP p.length cp p := ⟨h1, rfl, b1.1, b1.2, fun b hb => (k1 b hb).2⟩
  have r2 : Row3 w1 AS s.length cs s := ⟨h2, rfl, b2.1, b2.2, fun b hb => (k2 b hb).2⟩
  refine ⟨w1.heap.size, AP, cp, AS, cs, rfl, ⟨Blk.new w1 _ _, r1.same al, r2.same al, fun h => ?_, fun h => ?_⟩, Same.trans hs al, hs.size, fun b hb => (k1 b hb).1, fun b hb => (k2 b hb).1⟩
  · have := (k1 _ h).2; omega
  · have := (k2 _ h).2; omega
end Go.Proofs.YtenkdjfikppkdaaGreatDoor
