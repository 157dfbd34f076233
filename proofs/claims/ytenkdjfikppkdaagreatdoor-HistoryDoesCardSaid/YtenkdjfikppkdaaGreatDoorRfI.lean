/-
  The document's own words: is a number in a list; operations: Can, Before. No conditions but on lists' lengths.
-/
import Derived.Test.YtenkdjfikppkdaaGreatDoorRfA
namespace Go.Proofs.YtenkdjfikppkdaaGreatDoor
open Go.RowKit Go.Al
set_option linter.unusedVariables false

/-- an operation whose guard is false is passed over -/
theorem wpQuiet_skip {P : Program} {ops : Array Oper} {C : World → Prop} {Q : Act → Prop} {rest : List Oper} {o : Oper} {a : Act} (h : Region.wanted o (yielded ops a.tmps) = false) (hr : wpQuiet P ops C Q rest (a.put o.dst undef)) : wpQuiet P ops C Q (o :: rest) a :=
  wpQuiet_step fun K hK => by
    rw [if_neg (by rw [h]; decide)]
    exact hK _ hr
theorem hasI_take {l : List Int} {v : Int} {n : Nat} (hn : l.length = n) (h : ∀ j x, j < n → l[j]? = some x → ¬ x = v) : hasI l v = false := by
  cases hh : hasI l v with
  | false => rfl
  | true =>
    rw [hasI_iff] at hh
    obtain ⟨j, hj, he⟩ := List.mem_iff_getElem.1 hh
    exact absurd he (h j _ (by omega) (List.getElem?_eq_getElem hj))
end Go.Proofs.YtenkdjfikppkdaaGreatDoor
