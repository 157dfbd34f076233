/-
  The program's types are laid out: asked in lots, since the kernel's memory does not hold them all at once. No conditions.
-/
import Derived.Test.YthjnecicagmdeaaGreatRows
import Derived.WalkKit
namespace Go.Proofs.YthjnecicagmdeaaGreat
open Go
set_option linter.unusedVariables false
theorem range_all {p : Nat → Bool} (m : Nat) {n k : Nat} (h : ∀ i, i < k → (List.range' (m * i) m).all p = true) (hn : n ≤ m * k) (hm : 0 < m) : (List.range n).all p = true := by
  rw [List.all_eq_true]
  intro t ht
  have ht : t < n := List.mem_range.1 ht
  have hk : t / m < k := (Nat.div_lt_iff_lt_mul hm).2 (by rw [Nat.mul_comm] at hn; omega)
  refine List.all_eq_true.1 (h (t / m) hk) t (List.mem_range'_1.2 ⟨Nat.mul_div_le t m, ?_⟩)
  have := Nat.div_add_mod t m
  have := Nat.mod_lt t hm
  omega
theorem lot0 : (List.range' 0 50).all (rowFine Tryz.prog) = true := by kernel_rfl
theorem lot1 : (List.range' 50 50).all (rowFine Tryz.prog) = true := by kernel_rfl
theorem lot2 : (List.range' 100 50).all (rowFine Tryz.prog) = true := by kernel_rfl
theorem lot3 : (List.range' 150 50).all (rowFine Tryz.prog) = true := by kernel_rfl
theorem lot4 : (List.range' 200 50).all (rowFine Tryz.prog) = true := by kernel_rfl
theorem lot5 : (List.range' 250 50).all (rowFine Tryz.prog) = true := by kernel_rfl
theorem lot6 : (List.range' 300 50).all (rowFine Tryz.prog) = true := by kernel_rfl
theorem lot7 : (List.range' 350 50).all (rowFine Tryz.prog) = true := by kernel_rfl
theorem lot8 : (List.range' 400 50).all (rowFine Tryz.prog) = true := by kernel_rfl
theorem lot9 : (List.range' 450 50).all (rowFine Tryz.prog) = true := by kernel_rfl
theorem lot10 : (List.range' 500 50).all (rowFine Tryz.prog) = true := by kernel_rfl
theorem lot11 : (List.range' 550 50).all (rowFine Tryz.prog) = true := by kernel_rfl
theorem lot12 : (List.range' 600 50).all (rowFine Tryz.prog) = true := by kernel_rfl
theorem lot13 : (List.range' 650 50).all (rowFine Tryz.prog) = true := by kernel_rfl
theorem lot14 : (List.range' 700 50).all (rowFine Tryz.prog) = true := by kernel_rfl
theorem lot15 : (List.range' 750 50).all (rowFine Tryz.prog) = true := by kernel_rfl
theorem lot16 : (List.range' 800 50).all (rowFine Tryz.prog) = true := by kernel_rfl
theorem lot17 : (List.range' 850 50).all (rowFine Tryz.prog) = true := by kernel_rfl
theorem lot18 : (List.range' 900 50).all (rowFine Tryz.prog) = true := by kernel_rfl
theorem lot19 : (List.range' 950 50).all (rowFine Tryz.prog) = true := by kernel_rfl
theorem lots : (List.range Tryz.prog.types.size).all (rowFine Tryz.prog) = true := range_all 50 (k := 20) (fun i hi => by
  match i, hi with
  | 0, _ => exact lot0
  | 1, _ => exact lot1
  | 2, _ => exact lot2
  | 3, _ => exact lot3
  | 4, _ => exact lot4
  | 5, _ => exact lot5
  | 6, _ => exact lot6
  | 7, _ => exact lot7
  | 8, _ => exact lot8
  | 9, _ => exact lot9
  | 10, _ => exact lot10
  | 11, _ => exact lot11
  | 12, _ => exact lot12
  | 13, _ => exact lot13
  | 14, _ => exact lot14
  | 15, _ => exact lot15
  | 16, _ => exact lot16
  | 17, _ => exact lot17
  | 18, _ => exact lot18
  | 19, _ => exact lot19
  | i + 20, h => exact absurd h (by omega)) (Nat.le_of_ble_eq_true (by kernel_rfl)) (by decide)
theorem laidOutAll : laidOutB Tryz.prog = true := by
  unfold laidOutB
  rw [lots, show (Tryz.prog.globals.all fun g => decide (g.type < Tryz.prog.types.size)) = true by kernel_rfl, show (Tryz.prog.funcs.all fun f => f.params.all fun t => decide (t < Tryz.prog.types.size)) = true by kernel_rfl]
  rfl
end Go.Proofs.YthjnecicagmdeaaGreat
