/-
  slices.Sort at a list of integers that is sorted: it stays as it is. Condition: fewer than 2^60 elements.
-/
import Derived.Test.YtenkdjfikppkdaaGreatDoorIn
import Derived.Test.YtenkdjfikppkdaaGreatDoorLay
import Derived.Shelf.SortM.Plain
import Derived.Shelf.SortM.SortNone
namespace Go.Proofs.YtenkdjfikppkdaaGreatDoor
open Go.RowKit Go.Al Go.Sort
set_option linter.unusedVariables false

theorem same_grow (w : World) (n : Nat) (os : Array Obj) : Same w (grow (Go.Sort.ahead w n) os) :=
  ⟨rfl, rfl, rfl, by simp [grow, Go.Sort.ahead], fun k hk => by
      unfold Go.Al.ty World.shape?
      rw [heap_grow_old _ os (by simpa [Go.Sort.ahead] using hk)]
      rfl,
    fun k hk _ => heap_grow_old _ os (by simpa [Go.Sort.ahead] using hk)⟩
theorem sortI_any {w : World} {base : Nat} {A : Option Addr} {c : Nat} {xs : List Int} (h : w.ownsRow base 3 1 (.slice A xs.length c) xs.length (is xs)) (hs : xs.Pairwise (· ≤ ·)) (hsz : xs.length ≤ 4194304) :
    Calls Tryz.prog 92 #[.slice A xs.length c] w fun e w' => e = .returned (.tuple #[]) ∧ Same w w' := by
  by_cases h0 : xs = []
  · subst h0
    have hcon := Go.Proofs.AnyM.slices_Sort_int_none Go.Proofs.YtenkdjfikppkdaaGreatDoor.sortI A c w
    change Calls Tryz.prog 92 _ _ _ at hcon
    exact hcon.mono fun e w' ⟨h1, h2⟩ => ⟨h1, by subst h2; exact Chg.refl _ _⟩
  · have hl : 0 < xs.length := List.length_pos_iff.2 h0
    rcases h.2 with ⟨hv, hx⟩ | ⟨g, cap, cur, hv, hb, hg, hn, hm, hcs, htake⟩
    · exact absurd (by simpa [is] using hx) h0
    · cases hv
      have hH : Holds (Value.int .i64) w g 0 xs.toArray := fun j hj => by
        have hj' : j < xs.length := by simpa using hj
        refine ⟨?_, ?_⟩
        · rw [Nat.zero_add, cell_of_row w g j cur _ (0, 0) hg]
          have h1 : (is xs)[j]? = some (.int .i64 xs[j]) := by simp [is, hj']
          rw [← htake, List.getElem?_take_of_lt (by simpa using hj')] at h1
          simp [hj'] at h1 ⊢
          exact h1
        · exact Blk.frozen (w := w) (g := g) (cs := cur) hg _
      have hcon := Go.Proofs.AnyM.slices_Sort_int Go.Proofs.YtenkdjfikppkdaaGreatDoor.sortI g 0 c xs w hH (Array.getElem?_eq_some_iff.1 hg).1 (by omega)
      change Calls Tryz.prog 92 _ _ _ at hcon
      refine hcon.mono ?_
      rintro e w' ⟨he, n, os, rfl⟩
      rw [List.mergeSort_of_pairwise (hs.imp fun h => decide_eq_true h), putRow_self (Value.int .i64) (Go.Sort.ahead w n) g 0 xs.toArray hH]
      exact ⟨he, same_grow w n os⟩
end Go.Proofs.YtenkdjfikppkdaaGreatDoor
