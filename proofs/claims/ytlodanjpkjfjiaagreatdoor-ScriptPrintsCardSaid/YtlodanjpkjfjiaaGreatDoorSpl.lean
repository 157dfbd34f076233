/-
  Small words: how many words a short text has; an act's bytes behind a change elsewhere. No conditions.
-/
import Derived.Test.YtlodanjpkjfjiaaGreatDoorScD
namespace Go.Proofs.YtlodanjpkjfjiaaGreatDoor
open Go.RowKit Go.Al
set_option linter.unusedVariables false

theorem cutAt_length (c : UInt8) : ∀ l : List UInt8, (cutAt c l).length ≤ l.length + 1
  | [] => by simp [cutAt]
  | b :: l => by
    have ih := cutAt_length c l
    unfold cutAt
    split
    · simp; omega
    · split
      · rename_i w r he
        rw [he] at ih
        simp at ih ⊢
        omega
      · simp
theorem split_short {s : List UInt8} (h : s.length ≤ 400) : (Lib.split s [32]).length ≤ 1000 := by
  have h2 := cutAt_length 32 s
  rw [split_cut]
  omega
theorem ActAt.far {w w' : World} {a : Ac} {x : Addr} {c g : Nat} (h : ActAt w a (some x) c) (hc : Chg (· = g) w w') (hn : x.block ≠ g) : ActAt w' a (some x) c :=
  ⟨h.1.chg hc fun b hb _ e => hn (by have h1 : x.block = b := Option.some.inj hb; exact h1.trans e), h.2⟩
theorem strV_ne {a b : List UInt8} (h : a ≠ b) : ¬ (⟨a.toArray⟩ : ByteArray) = ⟨b.toArray⟩ := fun e => h ((ba_eq a b).1 e)
end Go.Proofs.YtlodanjpkjfjiaaGreatDoor
