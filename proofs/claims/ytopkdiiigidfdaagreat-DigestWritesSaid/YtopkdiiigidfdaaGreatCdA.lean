/-
  codec's numbers: folded, unfolded, put. Condition: numbers that an int holds.
-/
import Derived.Test.YtopkdiiigidfdaaGreatCdP
import Derived.Test.YtopkdiiigidfdaaGreatQs
import Derived.Test.YtopkdiiigidfdaaGreatChecked
namespace Go.Proofs.YtopkdiiigidfdaaGreat
open Go.RowKit Go.Al
set_option linter.unusedVariables false

theorem slB : SlTy Tryz.prog 58 5 1 1 := SlTy.of (z := .int .u8 0) Tryz.underlying58 (by kernel_rfl) rfl (by decide)
theorem xor_zero64 (x : Nat) (h : x < 18446744073709551616) : bits .xor .u64 (x : Int) 0 = (x : Int) := by
  have := bits_xor_u64_nat x 0 h (by decide)
  simpa using this
theorem zig_code (n : Int) (h0 : -9223372036854775808 ≤ n) (h1 : n ≤ 9223372036854775807) :
    bits .xor .u64 (IntKind.u64.wrap (IntKind.u64.wrap n * 2)) (IntKind.u64.wrap (n / 9223372036854775808)) = ((Lib.zigzag n : Nat) : Int) := by
  by_cases hn : n < 0
  · have e0 : n / 9223372036854775808 = -1 := by omega
    have e1 : IntKind.u64.wrap (IntKind.u64.wrap n * 2) = (((2 * n + 18446744073709551616).toNat : Nat) : Int) := by
      rw [IntKind.wrap_u64, IntKind.wrap_u64]
      omega
    have e2 : IntKind.u64.wrap (-1) = ((2 ^ 64 - 1 : Nat) : Int) := by decide
    rw [e0, e1, e2, bits_xor_u64_nat _ _ (by omega) (by decide), Nat.xor_comm, Lib.xor_ones64 _ (by omega)]
    unfold Lib.zigzag
    rw [if_neg (by omega)]
    omega
  · have e0 : n / 9223372036854775808 = 0 := by omega
    have e1 : IntKind.u64.wrap (IntKind.u64.wrap n * 2) = ((Lib.zigzag n : Nat) : Int) := by
      rw [IntKind.wrap_u64, IntKind.wrap_u64, Lib.zigzag_nonneg (by omega)]
      omega
    have e2 : IntKind.u64.wrap 0 = 0 := by decide
    rw [e0, e1, e2]
    exact xor_zero64 _ (Lib.zigzag_lt h0 h1)
theorem xor_comm_i64 (a b : Int) : bits .xor .i64 a b = bits .xor .i64 b a := by
  show IntKind.i64.wrap ((BitVec.ofInt 64 a ^^^ BitVec.ofInt 64 b).toNat : Int) = IntKind.i64.wrap ((BitVec.ofInt 64 b ^^^ BitVec.ofInt 64 a).toNat : Int)
  rw [BitVec.xor_comm]
theorem xor_zero_i64 (x : Nat) (h : x < 9223372036854775808) : bits .xor .i64 (x : Int) 0 = (x : Int) := by
  show IntKind.i64.wrap ((BitVec.ofInt 64 (x : Int) ^^^ BitVec.ofInt 64 0).toNat : Int) = (x : Int)
  have h2 : (BitVec.ofInt 64 (x : Int)).toNat = x := by
    rw [BitVec.ofInt_natCast, BitVec.toNat_ofNat]; exact Nat.mod_eq_of_lt (by omega)
  have h3 : (BitVec.ofInt 64 (0 : Int)) = 0#64 := by decide
  rw [h3, BitVec.xor_zero, h2, IntKind.wrap_i64]
  omega
theorem unzig_code (z : Nat) (h : z < 18446744073709551616) :
    bits .xor .i64 ((z : Int) / 2) (wrap64 (-wrap64 (bits .and .u64 (z : Int) 1))) = Lib.unzigzag z := by
  rw [Lib.u64_and1 _ (by omega) (by omega)]
  have e1 : wrap64 ((z : Int) % 2) = (z : Int) % 2 := by unfold wrap64; omega
  have e2 : wrap64 (-((z : Int) % 2)) = -((z : Int) % 2) := by unfold wrap64; omega
  rw [e1, e2]
  unfold Lib.unzigzag
  by_cases hz : z % 2 = 0
  · have e3 : -((z : Int) % 2) = 0 := by omega
    rw [e3, if_pos hz, show (z : Int) / 2 = ((z / 2 : Nat) : Int) by omega]
    exact xor_zero_i64 _ (by omega)
  · have e3 : -((z : Int) % 2) = -1 := by omega
    rw [e3, if_neg hz, show (z : Int) / 2 = ((z / 2 : Nat) : Int) by omega, xor_comm_i64]
    exact Lib.i64_not _ (by omega)
set_option maxHeartbeats 1000000 in
theorem folded_any (n : Int) (w : World) (h0 : -9223372036854775808 ≤ n) (h1 : n ≤ 9223372036854775807) :
    Calls Tryz.prog 193 #[.int .i64 n] w fun e w' => e = .returned (.int .u64 ((Lib.zigzag n : Nat) : Int)) ∧ w = w' := by
  have H := hide (zig_code n h0 h1)
  clear h0 h1
  go_enter Tryz.func193, Tryz.ntmps193
  go_wp2_with fail
  go_ret
  exact ⟨ret_eq (show Value.int .u64 _ = _ by rw [H.out]), rfl⟩
set_option maxHeartbeats 1000000 in
theorem unfolded_any (z : Nat) (w : World) (h : z < 18446744073709551616) :
    Calls Tryz.prog 258 #[.int .u64 (z : Int)] w fun e w' => e = .returned (.int .i64 (Lib.unzigzag z)) ∧ w = w' := by
  have H := hide (unzig_code z h)
  go_enter Tryz.func258, Tryz.ntmps258
  go_wp2_with fail
  go_ret
  exact ⟨ret_eq (show Value.int .i64 _ = _ by rw [H.out]), rfl⟩
end Go.Proofs.YtopkdiiigidfdaaGreat
