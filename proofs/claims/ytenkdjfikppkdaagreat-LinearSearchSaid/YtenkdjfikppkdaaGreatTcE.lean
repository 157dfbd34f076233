/-
  The document's set: Do in one contract; Same. Condition: at most 65535 of each.
-/
import Derived.Test.YtenkdjfikppkdaaGreatTcD
namespace Go.Proofs.YtenkdjfikppkdaaGreat
open Go.RowKit Go.Al
set_option linter.unusedVariables false

/-- a slice that came of another: it lies in the same block, or in a fresh one -/
def From3 (w : World) (A A' : Option Addr) : Prop := ∀ b, blkOf A' = some b → blkOf A = some b ∨ w.heap.size ≤ b
theorem doR_any {g cp cs : Nat} {AP AS : Option Addr} {most : Int} {p s : List P3} (c : Cg) (w : World) (h : SetR w g AP cp AS cs most p s) (hp : p.length ≤ 65535) (hs : s.length ≤ 65535) (sp : Srt p) (ss : Srt s) :
    Calls Tryz.prog 46 #[.pointer (some ⟨g, 0, none⟩), cgV c] w fun e w' => e = .returned (.tuple #[cgV (doB p s most c), .int .i64 (mayE p s most c)]) ∧
      ∃ AP' cp' AS' cs', SetR w' g AP' cp' AS' cs' most (doP' p s most c) (doS' p s most c) ∧ Chg (fun k => k = g) w w' ∧ From3 w AP AP' ∧ From3 w AS AS' := by
  unfold doB doP' doS'
  by_cases hm : mayE p s most c = 0
  · rw [if_pos hm, if_pos hm, if_pos hm, hm]
    obtain ⟨hk, _⟩ := may_zero hm
    obtain ⟨k, q, x⟩ := c
    simp only at hk
    rcases hk with rfl | rfl | rfl | rfl
    · exact (doR_1 q x w h hp hs hm).mono fun e w' ⟨he, A', c', h1, h2, h3⟩ => ⟨he, A', c', AS, cs, h1, h2, fun b hb => .inr (h3 b hb), fun b hb => .inl hb⟩
    · exact (doR_2 q x w h hp hs sp hm).mono fun e w' ⟨he, A', c', h1, h2, h3⟩ => ⟨he, A', c', AS, cs, h1, h2, fun b hb => .inr (h3 b hb), fun b hb => .inl hb⟩
    · exact (doR_3 q x w h hp hs hm).mono fun e w' ⟨he, A', c', h1, h2, h3⟩ => ⟨he, AP, cp, A', c', h1, h2, fun b hb => .inl hb, fun b hb => .inr (h3 b hb)⟩
    · exact (doR_4 q x w h hp hs ss hm).mono fun e w' ⟨he, A', c', h1, h2, h3⟩ => ⟨he, AP, cp, A', c', h1, h2, fun b hb => .inl hb, fun b hb => .inr (h3 b hb)⟩
  · rw [if_neg hm, if_neg hm, if_neg hm]
    exact (doR_bad c w h hp hs hm).mono fun e w' ⟨he, hs⟩ => ⟨he, AP, cp, AS, cs, h.same hs, hs.to, fun b hb => .inl hb, fun b hb => .inl hb⟩

end Go.Proofs.YtenkdjfikppkdaaGreat
