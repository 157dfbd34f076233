/-
  Plain laws: a number's bytes (the sign folded in, seven bits a byte), one by one; what they add up to again. No program is named here. No conditions.
-/
import Derived.Lib.VarintBits
import Derived.Lib.VarintDec
import Derived.Lib.Zigzag
namespace Go.Al
set_option linter.unusedVariables false

/-- the number that is left behind j bytes -/
def uvAt (u j : Nat) : Nat := u / 128 ^ j
theorem uvAt_zero (u : Nat) : uvAt u 0 = u := by simp [uvAt]
theorem uvAt_succ (u j : Nat) : uvAt u (j + 1) = uvAt u j / 128 := by
  unfold uvAt
  rw [Nat.pow_succ, Nat.div_div_eq_div_mul]
theorem uvAt_succ' (u j : Nat) : uvAt (u / 128) j = uvAt u (j + 1) := by
  unfold uvAt
  rw [Nat.div_div_eq_div_mul, Nat.pow_succ, Nat.mul_comm]
theorem uv_len : ∀ (j u : Nat), j < (Lib.uvarint u).length → (uvAt u j < 128 ↔ j + 1 = (Lib.uvarint u).length)
  | 0, u, h => by
    rw [uvAt_zero]
    by_cases hu : u < 128
    · rw [Lib.uvarint_small hu]; simp [hu]
    · rw [Lib.uvarint_big (by omega), List.length_cons]
      have := Lib.uvarint_pos (u / 128)
      omega
  | j + 1, u, h => by
    by_cases hu : u < 128
    · rw [Lib.uvarint_small hu] at h; simp at h
    · rw [Lib.uvarint_big (by omega), List.length_cons] at h ⊢
      have := uv_len j (u / 128) (by omega)
      rw [uvAt_succ'] at this
      omega
theorem uv_get : ∀ (j u : Nat), j < (Lib.uvarint u).length → (Lib.uvarint u)[j]? = some (if uvAt u j < 128 then (uvAt u j).toUInt8 else (uvAt u j % 128 + 128).toUInt8)
  | 0, u, h => by
    rw [uvAt_zero]
    by_cases hu : u < 128
    · rw [Lib.uvarint_small hu, if_pos hu]; rfl
    · rw [Lib.uvarint_big (by omega), if_neg hu]; rfl
  | j + 1, u, h => by
    by_cases hu : u < 128
    · rw [Lib.uvarint_small hu] at h; simp at h
    · rw [Lib.uvarint_big (by omega), List.length_cons] at h
      rw [Lib.uvarint_big (by omega), List.getElem?_cons_succ, uv_get j (u / 128) (by omega), uvAt_succ']
theorem uv_take_small {u j : Nat} (h : j < (Lib.uvarint u).length) (hs : uvAt u j < 128) : j + 1 = (Lib.uvarint u).length := (uv_len j u h).1 hs
theorem uv_more {u j : Nat} (h : j < (Lib.uvarint u).length) (hs : ¬ uvAt u j < 128) : j + 1 < (Lib.uvarint u).length := by
  have := uv_len j u h
  omega
/-- what is read behind j bytes -/
theorem uv_mod (u j : Nat) : u % 128 ^ (j + 1) = u % 128 ^ j + uvAt u j % 128 * 128 ^ j := by
  unfold uvAt
  rw [Nat.pow_succ, Nat.mod_mul, Nat.mul_comm (128 ^ j)]
theorem uv_whole {u j : Nat} (hs : uvAt u j < 128) : u % 128 ^ (j + 1) = u := by
  apply Nat.mod_eq_of_lt
  unfold uvAt at hs
  rw [Nat.pow_succ, Nat.mul_comm]
  exact (Nat.div_lt_iff_lt_mul (Nat.pow_pos (by decide))).1 hs
theorem pow128 (j : Nat) : 128 ^ j = 2 ^ (7 * j) := by rw [Nat.pow_mul]
/-- the step that the loop does -/
theorem uv_or (u j : Nat) (hu : u < 18446744073709551616) (hj : j < 10) : bits .or .u64 ((u % 128 ^ j : Nat) : Int) ((uvAt u j % 128 * 128 ^ j : Nat) : Int) = ((u % 128 ^ (j + 1) : Nat) : Int) := by
  have h1 : u % 128 ^ j < 128 ^ j := Nat.mod_lt _ (Nat.pow_pos (by decide))
  have h2 : uvAt u j % 128 * 128 ^ j < 18446744073709551616 := by
    have h3 : uvAt u j % 128 ≤ uvAt u j := Nat.mod_le _ _
    have h4 : uvAt u j * 128 ^ j ≤ u := Nat.div_mul_le_self u (128 ^ j)
    exact Nat.lt_of_le_of_lt (Nat.le_trans (Nat.mul_le_mul_right _ h3) h4) hu
  rw [uv_mod, Int.natCast_add]
  rw [pow128] at h1 h2 ⊢
  have h5 : u % 2 ^ (7 * j) < 18446744073709551616 := Nat.lt_of_le_of_lt (Nat.mod_le _ _) hu
  refine bits_join_low .u64 64 (by decide) wraps_u64 (7 * j) _ _ (Int.natCast_nonneg _) ?_ (by exact_mod_cast h5) (Int.natCast_nonneg _) ?_ (by exact_mod_cast h2)
  · exact_mod_cast h1
  · have : (uvAt u j % 128 * 2 ^ (7 * j)) % 2 ^ (7 * j) = 0 := Nat.mul_mod_left _ _
    exact_mod_cast this
theorem unzig_zig (n : Int) : Lib.unzigzag (Lib.zigzag n) = n := by
  unfold Lib.unzigzag Lib.zigzag
  by_cases h : 0 ≤ n
  · rw [if_pos h, if_pos (by omega)]; omega
  · rw [if_neg h, if_neg (by omega)]; omega
/-- a number's bytes -/
def encI (n : Int) : List UInt8 := Lib.uvarint (Lib.zigzag n)
theorem encI_len {n : Int} (h0 : -9223372036854775808 ≤ n) (h1 : n ≤ 9223372036854775807) : (encI n).length ≤ 10 := Lib.uvarint_length64 (Lib.zigzag_lt h0 h1)
theorem encI_pos (n : Int) : 1 ≤ (encI n).length := Lib.uvarint_pos _
end Go.Al
