/-
  BoundTells, whole: evaluated at twelve cases of its two numbers. No conditions.
-/
import Derived.Test.YtgjciacffgiijaaGreatEvX
import Derived.Test.YtgjciacffgiijaaGreatLiv39
import Derived.Test.YtgjciacffgiijaaGreatFl
namespace Go.Proofs.YtgjciacffgiijaaGreat
open Go.RowKit Go.Al Go.Ev
set_option linter.unusedVariables false

theorem mul_in {a b A B : Int} (h1 : 0 ≤ a) (h2 : a ≤ A) (h3 : 0 ≤ b) (h4 : b ≤ B) : 0 ≤ a * b ∧ a * b ≤ A * B :=
  ⟨Int.mul_nonneg h1 h3, Int.mul_le_mul h2 h4 h3 (by omega)⟩
@[reducible] def bF00 : Facts := ⟨[(.lss, .atom 0, .int .i64 0, .bool true), (.lss, .atom 1, .int .i64 0, .bool true)], [(.max, .atom 0, .int .i64 0, .int .i64 0), (.max, .atom 1, .int .i64 0, .int .i64 0)], fun _ => True⟩
attribute [local instance] bF00 in
theorem bE00 : isT (evN Tryz.prog (orX (knownX 23) catchX) 1000 60 (.inl 4) [.atom 0, .atom 1] st0) = true := by kernel_rfl
attribute [local instance] bF00 in
theorem bC00 (n k : Int) (hn : n < 0) (hk : k < 0)   (w : World) :
    Calls Tryz.prog 4 #[.int .i64 n, .int .i64 k] w fun e w' => e = .returned (.bool true) ∧ Same w w' :=
  evT (orX_ok (knownX_ok lives39) catchX_ok) bE00 (lets ([n, k].map iv)) (fact_ints (F := bF00) (z := [n, k]) (List.forall_mem_cons.2 ⟨⟨_, _, rfl, rfl, congrArg SV.bool (Eq.symm (decide_eq_true (by omega)))⟩, List.forall_mem_cons.2 ⟨⟨_, _, rfl, rfl, congrArg SV.bool (Eq.symm (decide_eq_true (by omega)))⟩, (fun f hf => (by cases hf))⟩⟩) (List.forall_mem_cons.2 ⟨⟨_, _, rfl, rfl, congrArg some (by omega)⟩, List.forall_mem_cons.2 ⟨⟨_, _, rfl, rfl, congrArg some (by omega)⟩, (fun f hf => (by cases hf))⟩⟩) trivial) ⟨trivial, trivial, trivial⟩ w
theorem bD00 (n k : Int) (hn : n < 0) (hk : k < 0) (w : World) :
    Calls Tryz.prog 4 #[.int .i64 n, .int .i64 k] w fun e w' => e = .returned (.bool true) ∧ Same w w' := by
  exact bC00 n k hn hk w
@[reducible] def bF01 : Facts := ⟨[(.lss, .atom 0, .int .i64 0, .bool true), (.lss, .atom 1, .int .i64 0, .bool false), (.gtr, .atom 1, .int .i64 1000, .bool false), (.gtr, .atom 1, .int .i64 64, .bool false), (.mul, .atom 1, .int .i64 202, .atom 2), (.add, .atom 2, .int .i64 210, .atom 3), (.add, .atom 3, .int .i64 1, .atom 4), (.mul, .atom 1, .int .i64 211, .atom 5), (.eql, .atom 4, .atom 4, .bool true), (.eql, .atom 5, .atom 5, .bool true)], [(.max, .atom 0, .int .i64 0, .int .i64 0), (.max, .atom 1, .int .i64 0, .atom 1), (.min, .atom 1, .int .i64 1000, .atom 1), (.min, .atom 1, .int .i64 64, .atom 1)], fun _ => True⟩
attribute [local instance] bF01 in
theorem bE01 : isT (evN Tryz.prog (orX (knownX 23) catchX) 1000 60 (.inl 4) [.atom 0, .atom 1] st0) = true := by kernel_rfl
attribute [local instance] bF01 in
theorem bC01 (n k v2 v3 v4 v5 : Int) (hn : n < 0) (hk : 0 ≤ k ∧ k ≤ 64) (h2 : v2 = k * 202) (h3 : v3 = v2 + 210) (h4 : v4 = v3 + 1) (h5 : v5 = k * 211) (r2 : R64 v2) (r3 : R64 v3) (r4 : R64 v4) (r5 : R64 v5) (w : World) :
    Calls Tryz.prog 4 #[.int .i64 n, .int .i64 k] w fun e w' => e = .returned (.bool true) ∧ Same w w' :=
  evT (orX_ok (knownX_ok lives39) catchX_ok) bE01 (lets ([n, k, v2, v3, v4, v5].map iv)) (fact_ints (F := bF01) (z := [n, k, v2, v3, v4, v5]) (List.forall_mem_cons.2 ⟨⟨_, _, rfl, rfl, congrArg SV.bool (Eq.symm (decide_eq_true (by omega)))⟩, List.forall_mem_cons.2 ⟨⟨_, _, rfl, rfl, congrArg SV.bool (Eq.symm (decide_eq_false (by omega)))⟩, List.forall_mem_cons.2 ⟨⟨_, _, rfl, rfl, congrArg SV.bool (Eq.symm (decide_eq_false (by omega)))⟩, List.forall_mem_cons.2 ⟨⟨_, _, rfl, rfl, congrArg SV.bool (Eq.symm (decide_eq_false (by omega)))⟩, List.forall_mem_cons.2 ⟨⟨_, _, rfl, rfl, congrArg some h2, h2 ▸ r2⟩, List.forall_mem_cons.2 ⟨⟨_, _, rfl, rfl, congrArg some h3, h3 ▸ r3⟩, List.forall_mem_cons.2 ⟨⟨_, _, rfl, rfl, congrArg some h4, h4 ▸ r4⟩, List.forall_mem_cons.2 ⟨⟨_, _, rfl, rfl, congrArg some h5, h5 ▸ r5⟩, List.forall_mem_cons.2 ⟨⟨_, _, rfl, rfl, congrArg SV.bool (Eq.symm (decide_eq_true (rfl)))⟩, List.forall_mem_cons.2 ⟨⟨_, _, rfl, rfl, congrArg SV.bool (Eq.symm (decide_eq_true (rfl)))⟩, (fun f hf => (by cases hf))⟩⟩⟩⟩⟩⟩⟩⟩⟩⟩) (List.forall_mem_cons.2 ⟨⟨_, _, rfl, rfl, congrArg some (by omega)⟩, List.forall_mem_cons.2 ⟨⟨_, _, rfl, rfl, congrArg some (by omega)⟩, List.forall_mem_cons.2 ⟨⟨_, _, rfl, rfl, congrArg some (by omega)⟩, List.forall_mem_cons.2 ⟨⟨_, _, rfl, rfl, congrArg some (by omega)⟩, (fun f hf => (by cases hf))⟩⟩⟩⟩) trivial) ⟨trivial, trivial, trivial⟩ w
theorem bD01 (n k : Int) (hn : n < 0) (hk : 0 ≤ k ∧ k ≤ 64) (w : World) :
    Calls Tryz.prog 4 #[.int .i64 n, .int .i64 k] w fun e w' => e = .returned (.bool true) ∧ Same w w' := by
  obtain ⟨v2, h2⟩ : ∃ v : Int, v = k * 202 := ⟨_, rfl⟩
  obtain ⟨v3, h3⟩ : ∃ v : Int, v = v2 + 210 := ⟨_, rfl⟩
  obtain ⟨v4, h4⟩ : ∃ v : Int, v = v3 + 1 := ⟨_, rfl⟩
  obtain ⟨v5, h5⟩ : ∃ v : Int, v = k * 211 := ⟨_, rfl⟩
  have b2 : 0 ≤ v2 ∧ v2 ≤ 12928 := by omega
  have b3 : 210 ≤ v3 ∧ v3 ≤ 13138 := by omega
  have b4 : 211 ≤ v4 ∧ v4 ≤ 13139 := by omega
  have b5 : 0 ≤ v5 ∧ v5 ≤ 13504 := by omega
  exact bC01 n k v2 v3 v4 v5 hn hk h2 h3 h4 h5 ⟨by omega, by omega⟩ ⟨by omega, by omega⟩ ⟨by omega, by omega⟩ ⟨by omega, by omega⟩ w
@[reducible] def bF02 : Facts := ⟨[(.lss, .atom 0, .int .i64 0, .bool true), (.lss, .atom 1, .int .i64 0, .bool false), (.gtr, .atom 1, .int .i64 1000, .bool false), (.gtr, .atom 1, .int .i64 64, .bool true), (.mul, .atom 1, .int .i64 202, .atom 2), (.add, .atom 2, .int .i64 210, .atom 3), (.add, .atom 3, .int .i64 1, .atom 4), (.eql, .atom 4, .atom 4, .bool true)], [(.max, .atom 0, .int .i64 0, .int .i64 0), (.max, .atom 1, .int .i64 0, .atom 1), (.min, .atom 1, .int .i64 1000, .atom 1), (.min, .atom 1, .int .i64 64, .int .i64 64)], fun _ => True⟩
attribute [local instance] bF02 in
theorem bE02 : isT (evN Tryz.prog (orX (knownX 23) catchX) 1000 60 (.inl 4) [.atom 0, .atom 1] st0) = true := by kernel_rfl
attribute [local instance] bF02 in
theorem bC02 (n k v2 v3 v4 : Int) (hn : n < 0) (hk : 64 < k ∧ k ≤ 1000) (h2 : v2 = k * 202) (h3 : v3 = v2 + 210) (h4 : v4 = v3 + 1) (r2 : R64 v2) (r3 : R64 v3) (r4 : R64 v4) (w : World) :
    Calls Tryz.prog 4 #[.int .i64 n, .int .i64 k] w fun e w' => e = .returned (.bool true) ∧ Same w w' :=
  evT (orX_ok (knownX_ok lives39) catchX_ok) bE02 (lets ([n, k, v2, v3, v4].map iv)) (fact_ints (F := bF02) (z := [n, k, v2, v3, v4]) (List.forall_mem_cons.2 ⟨⟨_, _, rfl, rfl, congrArg SV.bool (Eq.symm (decide_eq_true (by omega)))⟩, List.forall_mem_cons.2 ⟨⟨_, _, rfl, rfl, congrArg SV.bool (Eq.symm (decide_eq_false (by omega)))⟩, List.forall_mem_cons.2 ⟨⟨_, _, rfl, rfl, congrArg SV.bool (Eq.symm (decide_eq_false (by omega)))⟩, List.forall_mem_cons.2 ⟨⟨_, _, rfl, rfl, congrArg SV.bool (Eq.symm (decide_eq_true (by omega)))⟩, List.forall_mem_cons.2 ⟨⟨_, _, rfl, rfl, congrArg some h2, h2 ▸ r2⟩, List.forall_mem_cons.2 ⟨⟨_, _, rfl, rfl, congrArg some h3, h3 ▸ r3⟩, List.forall_mem_cons.2 ⟨⟨_, _, rfl, rfl, congrArg some h4, h4 ▸ r4⟩, List.forall_mem_cons.2 ⟨⟨_, _, rfl, rfl, congrArg SV.bool (Eq.symm (decide_eq_true (rfl)))⟩, (fun f hf => (by cases hf))⟩⟩⟩⟩⟩⟩⟩⟩) (List.forall_mem_cons.2 ⟨⟨_, _, rfl, rfl, congrArg some (by omega)⟩, List.forall_mem_cons.2 ⟨⟨_, _, rfl, rfl, congrArg some (by omega)⟩, List.forall_mem_cons.2 ⟨⟨_, _, rfl, rfl, congrArg some (by omega)⟩, List.forall_mem_cons.2 ⟨⟨_, _, rfl, rfl, congrArg some (by omega)⟩, (fun f hf => (by cases hf))⟩⟩⟩⟩) trivial) ⟨trivial, trivial, trivial⟩ w
theorem bD02 (n k : Int) (hn : n < 0) (hk : 64 < k ∧ k ≤ 1000) (w : World) :
    Calls Tryz.prog 4 #[.int .i64 n, .int .i64 k] w fun e w' => e = .returned (.bool true) ∧ Same w w' := by
  obtain ⟨v2, h2⟩ : ∃ v : Int, v = k * 202 := ⟨_, rfl⟩
  obtain ⟨v3, h3⟩ : ∃ v : Int, v = v2 + 210 := ⟨_, rfl⟩
  obtain ⟨v4, h4⟩ : ∃ v : Int, v = v3 + 1 := ⟨_, rfl⟩
  have b2 : 0 ≤ v2 ∧ v2 ≤ 202000 := by omega
  have b3 : 210 ≤ v3 ∧ v3 ≤ 202210 := by omega
  have b4 : 211 ≤ v4 ∧ v4 ≤ 202211 := by omega
  exact bC02 n k v2 v3 v4 hn hk h2 h3 h4 ⟨by omega, by omega⟩ ⟨by omega, by omega⟩ ⟨by omega, by omega⟩ w
@[reducible] def bF03 : Facts := ⟨[(.lss, .atom 0, .int .i64 0, .bool true), (.lss, .atom 1, .int .i64 0, .bool false), (.gtr, .atom 1, .int .i64 1000, .bool true), (.gtr, .atom 1, .int .i64 64, .bool true)], [(.max, .atom 0, .int .i64 0, .int .i64 0), (.max, .atom 1, .int .i64 0, .atom 1), (.min, .atom 1, .int .i64 1000, .int .i64 1000), (.min, .atom 1, .int .i64 64, .int .i64 64)], fun _ => True⟩
attribute [local instance] bF03 in
theorem bE03 : isT (evN Tryz.prog (orX (knownX 23) catchX) 1000 60 (.inl 4) [.atom 0, .atom 1] st0) = true := by kernel_rfl
attribute [local instance] bF03 in
theorem bC03 (n k : Int) (hn : n < 0) (hk : 1000 < k)   (w : World) :
    Calls Tryz.prog 4 #[.int .i64 n, .int .i64 k] w fun e w' => e = .returned (.bool true) ∧ Same w w' :=
  evT (orX_ok (knownX_ok lives39) catchX_ok) bE03 (lets ([n, k].map iv)) (fact_ints (F := bF03) (z := [n, k]) (List.forall_mem_cons.2 ⟨⟨_, _, rfl, rfl, congrArg SV.bool (Eq.symm (decide_eq_true (by omega)))⟩, List.forall_mem_cons.2 ⟨⟨_, _, rfl, rfl, congrArg SV.bool (Eq.symm (decide_eq_false (by omega)))⟩, List.forall_mem_cons.2 ⟨⟨_, _, rfl, rfl, congrArg SV.bool (Eq.symm (decide_eq_true (by omega)))⟩, List.forall_mem_cons.2 ⟨⟨_, _, rfl, rfl, congrArg SV.bool (Eq.symm (decide_eq_true (by omega)))⟩, (fun f hf => (by cases hf))⟩⟩⟩⟩) (List.forall_mem_cons.2 ⟨⟨_, _, rfl, rfl, congrArg some (by omega)⟩, List.forall_mem_cons.2 ⟨⟨_, _, rfl, rfl, congrArg some (by omega)⟩, List.forall_mem_cons.2 ⟨⟨_, _, rfl, rfl, congrArg some (by omega)⟩, List.forall_mem_cons.2 ⟨⟨_, _, rfl, rfl, congrArg some (by omega)⟩, (fun f hf => (by cases hf))⟩⟩⟩⟩) trivial) ⟨trivial, trivial, trivial⟩ w
theorem bD03 (n k : Int) (hn : n < 0) (hk : 1000 < k) (w : World) :
    Calls Tryz.prog 4 #[.int .i64 n, .int .i64 k] w fun e w' => e = .returned (.bool true) ∧ Same w w' := by
  exact bC03 n k hn hk w
@[reducible] def bF10 : Facts := ⟨[(.lss, .atom 0, .int .i64 0, .bool false), (.gtr, .atom 0, .int .i64 1048576, .bool false), (.lss, .atom 1, .int .i64 0, .bool true), (.mul, .int .i64 4, .atom 0, .atom 2), (.add, .atom 2, .int .i64 200, .atom 3), (.add, .atom 3, .int .i64 2, .atom 4), (.add, .atom 4, .int .i64 8, .atom 5), (.add, .atom 3, .int .i64 10, .atom 5), (.mul, .int .i64 0, .atom 4, .atom 6), (.add, .atom 6, .atom 5, .atom 7), (.add, .atom 7, .int .i64 1, .atom 8), (.add, .atom 5, .int .i64 1, .atom 9), (.mul, .int .i64 0, .atom 9, .atom 10), (.eql, .atom 3, .atom 3, .bool true), (.eql, .atom 4, .atom 4, .bool true), (.eql, .atom 5, .atom 5, .bool true), (.eql, .atom 8, .atom 8, .bool true), (.eql, .atom 10, .atom 10, .bool true)], [(.max, .atom 0, .int .i64 0, .atom 0), (.min, .atom 0, .int .i64 1048576, .atom 0), (.max, .atom 1, .int .i64 0, .int .i64 0)], fun _ => True⟩
attribute [local instance] bF10 in
theorem bE10 : isT (evN Tryz.prog (orX (knownX 23) catchX) 1000 60 (.inl 4) [.atom 0, .atom 1] st0) = true := by kernel_rfl
attribute [local instance] bF10 in
theorem bC10 (n k v2 v3 v4 v5 v6 v7 v8 v9 v10 : Int) (hn : 0 ≤ n ∧ n ≤ 1048576) (hk : k < 0) (h2 : v2 = 4 * n) (h3 : v3 = v2 + 200) (h4 : v4 = v3 + 2) (h5 : v5 = v4 + 8) (h6 : v6 = 0 * v4) (h7 : v7 = v6 + v5) (h8 : v8 = v7 + 1) (h9 : v9 = v5 + 1) (h10 : v10 = 0 * v9) (r2 : R64 v2) (r3 : R64 v3) (r4 : R64 v4) (r5 : R64 v5) (r6 : R64 v6) (r7 : R64 v7) (r8 : R64 v8) (r9 : R64 v9) (r10 : R64 v10) (w : World) :
    Calls Tryz.prog 4 #[.int .i64 n, .int .i64 k] w fun e w' => e = .returned (.bool true) ∧ Same w w' :=
  evT (orX_ok (knownX_ok lives39) catchX_ok) bE10 (lets ([n, k, v2, v3, v4, v5, v6, v7, v8, v9, v10].map iv)) (fact_ints (F := bF10) (z := [n, k, v2, v3, v4, v5, v6, v7, v8, v9, v10]) (List.forall_mem_cons.2 ⟨⟨_, _, rfl, rfl, congrArg SV.bool (Eq.symm (decide_eq_false (by omega)))⟩, List.forall_mem_cons.2 ⟨⟨_, _, rfl, rfl, congrArg SV.bool (Eq.symm (decide_eq_false (by omega)))⟩, List.forall_mem_cons.2 ⟨⟨_, _, rfl, rfl, congrArg SV.bool (Eq.symm (decide_eq_true (by omega)))⟩, List.forall_mem_cons.2 ⟨⟨_, _, rfl, rfl, congrArg some h2, h2 ▸ r2⟩, List.forall_mem_cons.2 ⟨⟨_, _, rfl, rfl, congrArg some h3, h3 ▸ r3⟩, List.forall_mem_cons.2 ⟨⟨_, _, rfl, rfl, congrArg some h4, h4 ▸ r4⟩, List.forall_mem_cons.2 ⟨⟨_, _, rfl, rfl, congrArg some h5, h5 ▸ r5⟩, List.forall_mem_cons.2 ⟨⟨_, _, rfl, rfl, congrArg some (by omega), ⟨by unfold R64 at *; omega, by unfold R64 at *; omega⟩⟩, List.forall_mem_cons.2 ⟨⟨_, _, rfl, rfl, congrArg some h6, h6 ▸ r6⟩, List.forall_mem_cons.2 ⟨⟨_, _, rfl, rfl, congrArg some h7, h7 ▸ r7⟩, List.forall_mem_cons.2 ⟨⟨_, _, rfl, rfl, congrArg some h8, h8 ▸ r8⟩, List.forall_mem_cons.2 ⟨⟨_, _, rfl, rfl, congrArg some h9, h9 ▸ r9⟩, List.forall_mem_cons.2 ⟨⟨_, _, rfl, rfl, congrArg some h10, h10 ▸ r10⟩, List.forall_mem_cons.2 ⟨⟨_, _, rfl, rfl, congrArg SV.bool (Eq.symm (decide_eq_true (rfl)))⟩, List.forall_mem_cons.2 ⟨⟨_, _, rfl, rfl, congrArg SV.bool (Eq.symm (decide_eq_true (rfl)))⟩, List.forall_mem_cons.2 ⟨⟨_, _, rfl, rfl, congrArg SV.bool (Eq.symm (decide_eq_true (rfl)))⟩, List.forall_mem_cons.2 ⟨⟨_, _, rfl, rfl, congrArg SV.bool (Eq.symm (decide_eq_true (rfl)))⟩, List.forall_mem_cons.2 ⟨⟨_, _, rfl, rfl, congrArg SV.bool (Eq.symm (decide_eq_true (rfl)))⟩, (fun f hf => (by cases hf))⟩⟩⟩⟩⟩⟩⟩⟩⟩⟩⟩⟩⟩⟩⟩⟩⟩⟩) (List.forall_mem_cons.2 ⟨⟨_, _, rfl, rfl, congrArg some (by omega)⟩, List.forall_mem_cons.2 ⟨⟨_, _, rfl, rfl, congrArg some (by omega)⟩, List.forall_mem_cons.2 ⟨⟨_, _, rfl, rfl, congrArg some (by omega)⟩, (fun f hf => (by cases hf))⟩⟩⟩) trivial) ⟨trivial, trivial, trivial⟩ w
theorem bD10 (n k : Int) (hn : 0 ≤ n ∧ n ≤ 1048576) (hk : k < 0) (w : World) :
    Calls Tryz.prog 4 #[.int .i64 n, .int .i64 k] w fun e w' => e = .returned (.bool true) ∧ Same w w' := by
  obtain ⟨v2, h2⟩ : ∃ v : Int, v = 4 * n := ⟨_, rfl⟩
  obtain ⟨v3, h3⟩ : ∃ v : Int, v = v2 + 200 := ⟨_, rfl⟩
  obtain ⟨v4, h4⟩ : ∃ v : Int, v = v3 + 2 := ⟨_, rfl⟩
  obtain ⟨v5, h5⟩ : ∃ v : Int, v = v4 + 8 := ⟨_, rfl⟩
  obtain ⟨v6, h6⟩ : ∃ v : Int, v = 0 * v4 := ⟨_, rfl⟩
  obtain ⟨v7, h7⟩ : ∃ v : Int, v = v6 + v5 := ⟨_, rfl⟩
  obtain ⟨v8, h8⟩ : ∃ v : Int, v = v7 + 1 := ⟨_, rfl⟩
  obtain ⟨v9, h9⟩ : ∃ v : Int, v = v5 + 1 := ⟨_, rfl⟩
  obtain ⟨v10, h10⟩ : ∃ v : Int, v = 0 * v9 := ⟨_, rfl⟩
  have b2 : 0 ≤ v2 ∧ v2 ≤ 4194304 := by omega
  have b3 : 200 ≤ v3 ∧ v3 ≤ 4194504 := by omega
  have b4 : 202 ≤ v4 ∧ v4 ≤ 4194506 := by omega
  have b5 : 210 ≤ v5 ∧ v5 ≤ 4194514 := by omega
  have b6 : 0 ≤ v6 ∧ v6 ≤ 0 := by omega
  have b7 : 210 ≤ v7 ∧ v7 ≤ 4194514 := by omega
  have b8 : 211 ≤ v8 ∧ v8 ≤ 4194515 := by omega
  have b9 : 211 ≤ v9 ∧ v9 ≤ 4194515 := by omega
  have b10 : 0 ≤ v10 ∧ v10 ≤ 0 := by omega
  exact bC10 n k v2 v3 v4 v5 v6 v7 v8 v9 v10 hn hk h2 h3 h4 h5 h6 h7 h8 h9 h10 ⟨by omega, by omega⟩ ⟨by omega, by omega⟩ ⟨by omega, by omega⟩ ⟨by omega, by omega⟩ ⟨by omega, by omega⟩ ⟨by omega, by omega⟩ ⟨by omega, by omega⟩ ⟨by omega, by omega⟩ ⟨by omega, by omega⟩ w
@[reducible] def bF11 : Facts := ⟨[(.lss, .atom 0, .int .i64 0, .bool false), (.gtr, .atom 0, .int .i64 1048576, .bool false), (.lss, .atom 1, .int .i64 0, .bool false), (.gtr, .atom 1, .int .i64 1000, .bool false), (.gtr, .atom 1, .int .i64 64, .bool false), (.mul, .int .i64 4, .atom 0, .atom 2), (.add, .atom 2, .int .i64 200, .atom 3), (.add, .atom 3, .int .i64 2, .atom 4), (.add, .atom 4, .int .i64 8, .atom 5), (.add, .atom 3, .int .i64 10, .atom 5), (.mul, .atom 1, .atom 4, .atom 6), (.add, .atom 6, .atom 5, .atom 7), (.add, .atom 7, .int .i64 1, .atom 8), (.add, .atom 5, .int .i64 1, .atom 9), (.mul, .atom 1, .atom 9, .atom 10), (.eql, .atom 3, .atom 3, .bool true), (.eql, .atom 4, .atom 4, .bool true), (.eql, .atom 5, .atom 5, .bool true), (.eql, .atom 8, .atom 8, .bool true), (.eql, .atom 10, .atom 10, .bool true)], [(.max, .atom 0, .int .i64 0, .atom 0), (.min, .atom 0, .int .i64 1048576, .atom 0), (.max, .atom 1, .int .i64 0, .atom 1), (.min, .atom 1, .int .i64 1000, .atom 1), (.min, .atom 1, .int .i64 64, .atom 1)], fun _ => True⟩
attribute [local instance] bF11 in
theorem bE11 : isT (evN Tryz.prog (orX (knownX 23) catchX) 1000 60 (.inl 4) [.atom 0, .atom 1] st0) = true := by kernel_rfl
attribute [local instance] bF11 in
theorem bC11 (n k v2 v3 v4 v5 v6 v7 v8 v9 v10 : Int) (hn : 0 ≤ n ∧ n ≤ 1048576) (hk : 0 ≤ k ∧ k ≤ 64) (h2 : v2 = 4 * n) (h3 : v3 = v2 + 200) (h4 : v4 = v3 + 2) (h5 : v5 = v4 + 8) (h6 : v6 = k * v4) (h7 : v7 = v6 + v5) (h8 : v8 = v7 + 1) (h9 : v9 = v5 + 1) (h10 : v10 = k * v9) (r2 : R64 v2) (r3 : R64 v3) (r4 : R64 v4) (r5 : R64 v5) (r6 : R64 v6) (r7 : R64 v7) (r8 : R64 v8) (r9 : R64 v9) (r10 : R64 v10) (w : World) :
    Calls Tryz.prog 4 #[.int .i64 n, .int .i64 k] w fun e w' => e = .returned (.bool true) ∧ Same w w' :=
  evT (orX_ok (knownX_ok lives39) catchX_ok) bE11 (lets ([n, k, v2, v3, v4, v5, v6, v7, v8, v9, v10].map iv)) (fact_ints (F := bF11) (z := [n, k, v2, v3, v4, v5, v6, v7, v8, v9, v10]) (List.forall_mem_cons.2 ⟨⟨_, _, rfl, rfl, congrArg SV.bool (Eq.symm (decide_eq_false (by omega)))⟩, List.forall_mem_cons.2 ⟨⟨_, _, rfl, rfl, congrArg SV.bool (Eq.symm (decide_eq_false (by omega)))⟩, List.forall_mem_cons.2 ⟨⟨_, _, rfl, rfl, congrArg SV.bool (Eq.symm (decide_eq_false (by omega)))⟩, List.forall_mem_cons.2 ⟨⟨_, _, rfl, rfl, congrArg SV.bool (Eq.symm (decide_eq_false (by omega)))⟩, List.forall_mem_cons.2 ⟨⟨_, _, rfl, rfl, congrArg SV.bool (Eq.symm (decide_eq_false (by omega)))⟩, List.forall_mem_cons.2 ⟨⟨_, _, rfl, rfl, congrArg some h2, h2 ▸ r2⟩, List.forall_mem_cons.2 ⟨⟨_, _, rfl, rfl, congrArg some h3, h3 ▸ r3⟩, List.forall_mem_cons.2 ⟨⟨_, _, rfl, rfl, congrArg some h4, h4 ▸ r4⟩, List.forall_mem_cons.2 ⟨⟨_, _, rfl, rfl, congrArg some h5, h5 ▸ r5⟩, List.forall_mem_cons.2 ⟨⟨_, _, rfl, rfl, congrArg some (by omega), ⟨by unfold R64 at *; omega, by unfold R64 at *; omega⟩⟩, List.forall_mem_cons.2 ⟨⟨_, _, rfl, rfl, congrArg some h6, h6 ▸ r6⟩, List.forall_mem_cons.2 ⟨⟨_, _, rfl, rfl, congrArg some h7, h7 ▸ r7⟩, List.forall_mem_cons.2 ⟨⟨_, _, rfl, rfl, congrArg some h8, h8 ▸ r8⟩, List.forall_mem_cons.2 ⟨⟨_, _, rfl, rfl, congrArg some h9, h9 ▸ r9⟩, List.forall_mem_cons.2 ⟨⟨_, _, rfl, rfl, congrArg some h10, h10 ▸ r10⟩, List.forall_mem_cons.2 ⟨⟨_, _, rfl, rfl, congrArg SV.bool (Eq.symm (decide_eq_true (rfl)))⟩, List.forall_mem_cons.2 ⟨⟨_, _, rfl, rfl, congrArg SV.bool (Eq.symm (decide_eq_true (rfl)))⟩, List.forall_mem_cons.2 ⟨⟨_, _, rfl, rfl, congrArg SV.bool (Eq.symm (decide_eq_true (rfl)))⟩, List.forall_mem_cons.2 ⟨⟨_, _, rfl, rfl, congrArg SV.bool (Eq.symm (decide_eq_true (rfl)))⟩, List.forall_mem_cons.2 ⟨⟨_, _, rfl, rfl, congrArg SV.bool (Eq.symm (decide_eq_true (rfl)))⟩, (fun f hf => (by cases hf))⟩⟩⟩⟩⟩⟩⟩⟩⟩⟩⟩⟩⟩⟩⟩⟩⟩⟩⟩⟩) (List.forall_mem_cons.2 ⟨⟨_, _, rfl, rfl, congrArg some (by omega)⟩, List.forall_mem_cons.2 ⟨⟨_, _, rfl, rfl, congrArg some (by omega)⟩, List.forall_mem_cons.2 ⟨⟨_, _, rfl, rfl, congrArg some (by omega)⟩, List.forall_mem_cons.2 ⟨⟨_, _, rfl, rfl, congrArg some (by omega)⟩, List.forall_mem_cons.2 ⟨⟨_, _, rfl, rfl, congrArg some (by omega)⟩, (fun f hf => (by cases hf))⟩⟩⟩⟩⟩) trivial) ⟨trivial, trivial, trivial⟩ w
theorem bD11 (n k : Int) (hn : 0 ≤ n ∧ n ≤ 1048576) (hk : 0 ≤ k ∧ k ≤ 64) (w : World) :
    Calls Tryz.prog 4 #[.int .i64 n, .int .i64 k] w fun e w' => e = .returned (.bool true) ∧ Same w w' := by
  obtain ⟨v2, h2⟩ : ∃ v : Int, v = 4 * n := ⟨_, rfl⟩
  obtain ⟨v3, h3⟩ : ∃ v : Int, v = v2 + 200 := ⟨_, rfl⟩
  obtain ⟨v4, h4⟩ : ∃ v : Int, v = v3 + 2 := ⟨_, rfl⟩
  obtain ⟨v5, h5⟩ : ∃ v : Int, v = v4 + 8 := ⟨_, rfl⟩
  obtain ⟨v6, h6⟩ : ∃ v : Int, v = k * v4 := ⟨_, rfl⟩
  obtain ⟨v7, h7⟩ : ∃ v : Int, v = v6 + v5 := ⟨_, rfl⟩
  obtain ⟨v8, h8⟩ : ∃ v : Int, v = v7 + 1 := ⟨_, rfl⟩
  obtain ⟨v9, h9⟩ : ∃ v : Int, v = v5 + 1 := ⟨_, rfl⟩
  obtain ⟨v10, h10⟩ : ∃ v : Int, v = k * v9 := ⟨_, rfl⟩
  have b2 : 0 ≤ v2 ∧ v2 ≤ 4194304 := by omega
  have b3 : 200 ≤ v3 ∧ v3 ≤ 4194504 := by omega
  have b4 : 202 ≤ v4 ∧ v4 ≤ 4194506 := by omega
  have b5 : 210 ≤ v5 ∧ v5 ≤ 4194514 := by omega
  have b6 : 0 ≤ v6 ∧ v6 ≤ 268448384 := by
    have := mul_in (a := k) (b := v4) (A := 64) (B := 4194506) (by omega) (by omega) (by omega) (by omega)
    omega
  have b7 : 210 ≤ v7 ∧ v7 ≤ 272642898 := by omega
  have b8 : 211 ≤ v8 ∧ v8 ≤ 272642899 := by omega
  have b9 : 211 ≤ v9 ∧ v9 ≤ 4194515 := by omega
  have b10 : 0 ≤ v10 ∧ v10 ≤ 268448960 := by
    have := mul_in (a := k) (b := v9) (A := 64) (B := 4194515) (by omega) (by omega) (by omega) (by omega)
    omega
  exact bC11 n k v2 v3 v4 v5 v6 v7 v8 v9 v10 hn hk h2 h3 h4 h5 h6 h7 h8 h9 h10 ⟨by omega, by omega⟩ ⟨by omega, by omega⟩ ⟨by omega, by omega⟩ ⟨by omega, by omega⟩ ⟨by omega, by omega⟩ ⟨by omega, by omega⟩ ⟨by omega, by omega⟩ ⟨by omega, by omega⟩ ⟨by omega, by omega⟩ w
@[reducible] def bF12 : Facts := ⟨[(.lss, .atom 0, .int .i64 0, .bool false), (.gtr, .atom 0, .int .i64 1048576, .bool false), (.lss, .atom 1, .int .i64 0, .bool false), (.gtr, .atom 1, .int .i64 1000, .bool false), (.gtr, .atom 1, .int .i64 64, .bool true), (.mul, .int .i64 4, .atom 0, .atom 2), (.add, .atom 2, .int .i64 200, .atom 3), (.add, .atom 3, .int .i64 2, .atom 4), (.add, .atom 4, .int .i64 8, .atom 5), (.add, .atom 3, .int .i64 10, .atom 5), (.mul, .atom 1, .atom 4, .atom 6), (.add, .atom 6, .atom 5, .atom 7), (.add, .atom 7, .int .i64 1, .atom 8), (.add, .atom 5, .int .i64 1, .atom 9), (.mul, .int .i64 64, .atom 9, .atom 10), (.eql, .atom 3, .atom 3, .bool true), (.eql, .atom 4, .atom 4, .bool true), (.eql, .atom 5, .atom 5, .bool true), (.eql, .atom 8, .atom 8, .bool true), (.eql, .atom 10, .atom 10, .bool true)], [(.max, .atom 0, .int .i64 0, .atom 0), (.min, .atom 0, .int .i64 1048576, .atom 0), (.max, .atom 1, .int .i64 0, .atom 1), (.min, .atom 1, .int .i64 1000, .atom 1), (.min, .atom 1, .int .i64 64, .int .i64 64)], fun _ => True⟩
attribute [local instance] bF12 in
theorem bE12 : isT (evN Tryz.prog (orX (knownX 23) catchX) 1000 60 (.inl 4) [.atom 0, .atom 1] st0) = true := by kernel_rfl
attribute [local instance] bF12 in
theorem bC12 (n k v2 v3 v4 v5 v6 v7 v8 v9 v10 : Int) (hn : 0 ≤ n ∧ n ≤ 1048576) (hk : 64 < k ∧ k ≤ 1000) (h2 : v2 = 4 * n) (h3 : v3 = v2 + 200) (h4 : v4 = v3 + 2) (h5 : v5 = v4 + 8) (h6 : v6 = k * v4) (h7 : v7 = v6 + v5) (h8 : v8 = v7 + 1) (h9 : v9 = v5 + 1) (h10 : v10 = 64 * v9) (r2 : R64 v2) (r3 : R64 v3) (r4 : R64 v4) (r5 : R64 v5) (r6 : R64 v6) (r7 : R64 v7) (r8 : R64 v8) (r9 : R64 v9) (r10 : R64 v10) (w : World) :
    Calls Tryz.prog 4 #[.int .i64 n, .int .i64 k] w fun e w' => e = .returned (.bool true) ∧ Same w w' :=
  evT (orX_ok (knownX_ok lives39) catchX_ok) bE12 (lets ([n, k, v2, v3, v4, v5, v6, v7, v8, v9, v10].map iv)) (fact_ints (F := bF12) (z := [n, k, v2, v3, v4, v5, v6, v7, v8, v9, v10]) (List.forall_mem_cons.2 ⟨⟨_, _, rfl, rfl, congrArg SV.bool (Eq.symm (decide_eq_false (by omega)))⟩, List.forall_mem_cons.2 ⟨⟨_, _, rfl, rfl, congrArg SV.bool (Eq.symm (decide_eq_false (by omega)))⟩, List.forall_mem_cons.2 ⟨⟨_, _, rfl, rfl, congrArg SV.bool (Eq.symm (decide_eq_false (by omega)))⟩, List.forall_mem_cons.2 ⟨⟨_, _, rfl, rfl, congrArg SV.bool (Eq.symm (decide_eq_false (by omega)))⟩, List.forall_mem_cons.2 ⟨⟨_, _, rfl, rfl, congrArg SV.bool (Eq.symm (decide_eq_true (by omega)))⟩, List.forall_mem_cons.2 ⟨⟨_, _, rfl, rfl, congrArg some h2, h2 ▸ r2⟩, List.forall_mem_cons.2 ⟨⟨_, _, rfl, rfl, congrArg some h3, h3 ▸ r3⟩, List.forall_mem_cons.2 ⟨⟨_, _, rfl, rfl, congrArg some h4, h4 ▸ r4⟩, List.forall_mem_cons.2 ⟨⟨_, _, rfl, rfl, congrArg some h5, h5 ▸ r5⟩, List.forall_mem_cons.2 ⟨⟨_, _, rfl, rfl, congrArg some (by omega), ⟨by unfold R64 at *; omega, by unfold R64 at *; omega⟩⟩, List.forall_mem_cons.2 ⟨⟨_, _, rfl, rfl, congrArg some h6, h6 ▸ r6⟩, List.forall_mem_cons.2 ⟨⟨_, _, rfl, rfl, congrArg some h7, h7 ▸ r7⟩, List.forall_mem_cons.2 ⟨⟨_, _, rfl, rfl, congrArg some h8, h8 ▸ r8⟩, List.forall_mem_cons.2 ⟨⟨_, _, rfl, rfl, congrArg some h9, h9 ▸ r9⟩, List.forall_mem_cons.2 ⟨⟨_, _, rfl, rfl, congrArg some h10, h10 ▸ r10⟩, List.forall_mem_cons.2 ⟨⟨_, _, rfl, rfl, congrArg SV.bool (Eq.symm (decide_eq_true (rfl)))⟩, List.forall_mem_cons.2 ⟨⟨_, _, rfl, rfl, congrArg SV.bool (Eq.symm (decide_eq_true (rfl)))⟩, List.forall_mem_cons.2 ⟨⟨_, _, rfl, rfl, congrArg SV.bool (Eq.symm (decide_eq_true (rfl)))⟩, List.forall_mem_cons.2 ⟨⟨_, _, rfl, rfl, congrArg SV.bool (Eq.symm (decide_eq_true (rfl)))⟩, List.forall_mem_cons.2 ⟨⟨_, _, rfl, rfl, congrArg SV.bool (Eq.symm (decide_eq_true (rfl)))⟩, (fun f hf => (by cases hf))⟩⟩⟩⟩⟩⟩⟩⟩⟩⟩⟩⟩⟩⟩⟩⟩⟩⟩⟩⟩) (List.forall_mem_cons.2 ⟨⟨_, _, rfl, rfl, congrArg some (by omega)⟩, List.forall_mem_cons.2 ⟨⟨_, _, rfl, rfl, congrArg some (by omega)⟩, List.forall_mem_cons.2 ⟨⟨_, _, rfl, rfl, congrArg some (by omega)⟩, List.forall_mem_cons.2 ⟨⟨_, _, rfl, rfl, congrArg some (by omega)⟩, List.forall_mem_cons.2 ⟨⟨_, _, rfl, rfl, congrArg some (by omega)⟩, (fun f hf => (by cases hf))⟩⟩⟩⟩⟩) trivial) ⟨trivial, trivial, trivial⟩ w
theorem bD12 (n k : Int) (hn : 0 ≤ n ∧ n ≤ 1048576) (hk : 64 < k ∧ k ≤ 1000) (w : World) :
    Calls Tryz.prog 4 #[.int .i64 n, .int .i64 k] w fun e w' => e = .returned (.bool true) ∧ Same w w' := by
  obtain ⟨v2, h2⟩ : ∃ v : Int, v = 4 * n := ⟨_, rfl⟩
  obtain ⟨v3, h3⟩ : ∃ v : Int, v = v2 + 200 := ⟨_, rfl⟩
  obtain ⟨v4, h4⟩ : ∃ v : Int, v = v3 + 2 := ⟨_, rfl⟩
  obtain ⟨v5, h5⟩ : ∃ v : Int, v = v4 + 8 := ⟨_, rfl⟩
  obtain ⟨v6, h6⟩ : ∃ v : Int, v = k * v4 := ⟨_, rfl⟩
  obtain ⟨v7, h7⟩ : ∃ v : Int, v = v6 + v5 := ⟨_, rfl⟩
  obtain ⟨v8, h8⟩ : ∃ v : Int, v = v7 + 1 := ⟨_, rfl⟩
  obtain ⟨v9, h9⟩ : ∃ v : Int, v = v5 + 1 := ⟨_, rfl⟩
  obtain ⟨v10, h10⟩ : ∃ v : Int, v = 64 * v9 := ⟨_, rfl⟩
  have b2 : 0 ≤ v2 ∧ v2 ≤ 4194304 := by omega
  have b3 : 200 ≤ v3 ∧ v3 ≤ 4194504 := by omega
  have b4 : 202 ≤ v4 ∧ v4 ≤ 4194506 := by omega
  have b5 : 210 ≤ v5 ∧ v5 ≤ 4194514 := by omega
  have b6 : 0 ≤ v6 ∧ v6 ≤ 4194506000 := by
    have := mul_in (a := k) (b := v4) (A := 1000) (B := 4194506) (by omega) (by omega) (by omega) (by omega)
    omega
  have b7 : 210 ≤ v7 ∧ v7 ≤ 4198700514 := by omega
  have b8 : 211 ≤ v8 ∧ v8 ≤ 4198700515 := by omega
  have b9 : 211 ≤ v9 ∧ v9 ≤ 4194515 := by omega
  have b10 : 13504 ≤ v10 ∧ v10 ≤ 268448960 := by omega
  exact bC12 n k v2 v3 v4 v5 v6 v7 v8 v9 v10 hn hk h2 h3 h4 h5 h6 h7 h8 h9 h10 ⟨by omega, by omega⟩ ⟨by omega, by omega⟩ ⟨by omega, by omega⟩ ⟨by omega, by omega⟩ ⟨by omega, by omega⟩ ⟨by omega, by omega⟩ ⟨by omega, by omega⟩ ⟨by omega, by omega⟩ ⟨by omega, by omega⟩ w
@[reducible] def bF13 : Facts := ⟨[(.lss, .atom 0, .int .i64 0, .bool false), (.gtr, .atom 0, .int .i64 1048576, .bool false), (.lss, .atom 1, .int .i64 0, .bool false), (.gtr, .atom 1, .int .i64 1000, .bool true), (.gtr, .atom 1, .int .i64 64, .bool true), (.mul, .int .i64 4, .atom 0, .atom 2), (.add, .atom 2, .int .i64 200, .atom 3), (.add, .atom 3, .int .i64 2, .atom 4), (.add, .atom 4, .int .i64 8, .atom 5), (.add, .atom 3, .int .i64 10, .atom 5), (.mul, .int .i64 1000, .atom 4, .atom 6), (.add, .atom 6, .atom 5, .atom 7), (.add, .atom 7, .int .i64 1, .atom 8), (.add, .atom 5, .int .i64 1, .atom 9), (.mul, .int .i64 64, .atom 9, .atom 10), (.eql, .atom 3, .atom 3, .bool true), (.eql, .atom 4, .atom 4, .bool true), (.eql, .atom 5, .atom 5, .bool true), (.eql, .atom 8, .atom 8, .bool true), (.eql, .atom 10, .atom 10, .bool true)], [(.max, .atom 0, .int .i64 0, .atom 0), (.min, .atom 0, .int .i64 1048576, .atom 0), (.max, .atom 1, .int .i64 0, .atom 1), (.min, .atom 1, .int .i64 1000, .int .i64 1000), (.min, .atom 1, .int .i64 64, .int .i64 64)], fun _ => True⟩
attribute [local instance] bF13 in
theorem bE13 : isT (evN Tryz.prog (orX (knownX 23) catchX) 1000 60 (.inl 4) [.atom 0, .atom 1] st0) = true := by kernel_rfl
attribute [local instance] bF13 in
theorem bC13 (n k v2 v3 v4 v5 v6 v7 v8 v9 v10 : Int) (hn : 0 ≤ n ∧ n ≤ 1048576) (hk : 1000 < k) (h2 : v2 = 4 * n) (h3 : v3 = v2 + 200) (h4 : v4 = v3 + 2) (h5 : v5 = v4 + 8) (h6 : v6 = 1000 * v4) (h7 : v7 = v6 + v5) (h8 : v8 = v7 + 1) (h9 : v9 = v5 + 1) (h10 : v10 = 64 * v9) (r2 : R64 v2) (r3 : R64 v3) (r4 : R64 v4) (r5 : R64 v5) (r6 : R64 v6) (r7 : R64 v7) (r8 : R64 v8) (r9 : R64 v9) (r10 : R64 v10) (w : World) :
    Calls Tryz.prog 4 #[.int .i64 n, .int .i64 k] w fun e w' => e = .returned (.bool true) ∧ Same w w' :=
  evT (orX_ok (knownX_ok lives39) catchX_ok) bE13 (lets ([n, k, v2, v3, v4, v5, v6, v7, v8, v9, v10].map iv)) (fact_ints (F := bF13) (z := [n, k, v2, v3, v4, v5, v6, v7, v8, v9, v10]) (List.forall_mem_cons.2 ⟨⟨_, _, rfl, rfl, congrArg SV.bool (Eq.symm (decide_eq_false (by omega)))⟩, List.forall_mem_cons.2 ⟨⟨_, _, rfl, rfl, congrArg SV.bool (Eq.symm (decide_eq_false (by omega)))⟩, List.forall_mem_cons.2 ⟨⟨_, _, rfl, rfl, congrArg SV.bool (Eq.symm (decide_eq_false (by omega)))⟩, List.forall_mem_cons.2 ⟨⟨_, _, rfl, rfl, congrArg SV.bool (Eq.symm (decide_eq_true (by omega)))⟩, List.forall_mem_cons.2 ⟨⟨_, _, rfl, rfl, congrArg SV.bool (Eq.symm (decide_eq_true (by omega)))⟩, List.forall_mem_cons.2 ⟨⟨_, _, rfl, rfl, congrArg some h2, h2 ▸ r2⟩, List.forall_mem_cons.2 ⟨⟨_, _, rfl, rfl, congrArg some h3, h3 ▸ r3⟩, List.forall_mem_cons.2 ⟨⟨_, _, rfl, rfl, congrArg some h4, h4 ▸ r4⟩, List.forall_mem_cons.2 ⟨⟨_, _, rfl, rfl, congrArg some h5, h5 ▸ r5⟩, List.forall_mem_cons.2 ⟨⟨_, _, rfl, rfl, congrArg some (by omega), ⟨by unfold R64 at *; omega, by unfold R64 at *; omega⟩⟩, List.forall_mem_cons.2 ⟨⟨_, _, rfl, rfl, congrArg some h6, h6 ▸ r6⟩, List.forall_mem_cons.2 ⟨⟨_, _, rfl, rfl, congrArg some h7, h7 ▸ r7⟩, List.forall_mem_cons.2 ⟨⟨_, _, rfl, rfl, congrArg some h8, h8 ▸ r8⟩, List.forall_mem_cons.2 ⟨⟨_, _, rfl, rfl, congrArg some h9, h9 ▸ r9⟩, List.forall_mem_cons.2 ⟨⟨_, _, rfl, rfl, congrArg some h10, h10 ▸ r10⟩, List.forall_mem_cons.2 ⟨⟨_, _, rfl, rfl, congrArg SV.bool (Eq.symm (decide_eq_true (rfl)))⟩, List.forall_mem_cons.2 ⟨⟨_, _, rfl, rfl, congrArg SV.bool (Eq.symm (decide_eq_true (rfl)))⟩, List.forall_mem_cons.2 ⟨⟨_, _, rfl, rfl, congrArg SV.bool (Eq.symm (decide_eq_true (rfl)))⟩, List.forall_mem_cons.2 ⟨⟨_, _, rfl, rfl, congrArg SV.bool (Eq.symm (decide_eq_true (rfl)))⟩, List.forall_mem_cons.2 ⟨⟨_, _, rfl, rfl, congrArg SV.bool (Eq.symm (decide_eq_true (rfl)))⟩, (fun f hf => (by cases hf))⟩⟩⟩⟩⟩⟩⟩⟩⟩⟩⟩⟩⟩⟩⟩⟩⟩⟩⟩⟩) (List.forall_mem_cons.2 ⟨⟨_, _, rfl, rfl, congrArg some (by omega)⟩, List.forall_mem_cons.2 ⟨⟨_, _, rfl, rfl, congrArg some (by omega)⟩, List.forall_mem_cons.2 ⟨⟨_, _, rfl, rfl, congrArg some (by omega)⟩, List.forall_mem_cons.2 ⟨⟨_, _, rfl, rfl, congrArg some (by omega)⟩, List.forall_mem_cons.2 ⟨⟨_, _, rfl, rfl, congrArg some (by omega)⟩, (fun f hf => (by cases hf))⟩⟩⟩⟩⟩) trivial) ⟨trivial, trivial, trivial⟩ w
theorem bD13 (n k : Int) (hn : 0 ≤ n ∧ n ≤ 1048576) (hk : 1000 < k) (w : World) :
    Calls Tryz.prog 4 #[.int .i64 n, .int .i64 k] w fun e w' => e = .returned (.bool true) ∧ Same w w' := by
  obtain ⟨v2, h2⟩ : ∃ v : Int, v = 4 * n := ⟨_, rfl⟩
  obtain ⟨v3, h3⟩ : ∃ v : Int, v = v2 + 200 := ⟨_, rfl⟩
  obtain ⟨v4, h4⟩ : ∃ v : Int, v = v3 + 2 := ⟨_, rfl⟩
  obtain ⟨v5, h5⟩ : ∃ v : Int, v = v4 + 8 := ⟨_, rfl⟩
  obtain ⟨v6, h6⟩ : ∃ v : Int, v = 1000 * v4 := ⟨_, rfl⟩
  obtain ⟨v7, h7⟩ : ∃ v : Int, v = v6 + v5 := ⟨_, rfl⟩
  obtain ⟨v8, h8⟩ : ∃ v : Int, v = v7 + 1 := ⟨_, rfl⟩
  obtain ⟨v9, h9⟩ : ∃ v : Int, v = v5 + 1 := ⟨_, rfl⟩
  obtain ⟨v10, h10⟩ : ∃ v : Int, v = 64 * v9 := ⟨_, rfl⟩
  have b2 : 0 ≤ v2 ∧ v2 ≤ 4194304 := by omega
  have b3 : 200 ≤ v3 ∧ v3 ≤ 4194504 := by omega
  have b4 : 202 ≤ v4 ∧ v4 ≤ 4194506 := by omega
  have b5 : 210 ≤ v5 ∧ v5 ≤ 4194514 := by omega
  have b6 : 202000 ≤ v6 ∧ v6 ≤ 4194506000 := by omega
  have b7 : 202210 ≤ v7 ∧ v7 ≤ 4198700514 := by omega
  have b8 : 202211 ≤ v8 ∧ v8 ≤ 4198700515 := by omega
  have b9 : 211 ≤ v9 ∧ v9 ≤ 4194515 := by omega
  have b10 : 13504 ≤ v10 ∧ v10 ≤ 268448960 := by omega
  exact bC13 n k v2 v3 v4 v5 v6 v7 v8 v9 v10 hn hk h2 h3 h4 h5 h6 h7 h8 h9 h10 ⟨by omega, by omega⟩ ⟨by omega, by omega⟩ ⟨by omega, by omega⟩ ⟨by omega, by omega⟩ ⟨by omega, by omega⟩ ⟨by omega, by omega⟩ ⟨by omega, by omega⟩ ⟨by omega, by omega⟩ ⟨by omega, by omega⟩ w
@[reducible] def bF20 : Facts := ⟨[(.lss, .atom 0, .int .i64 0, .bool false), (.gtr, .atom 0, .int .i64 1048576, .bool true), (.lss, .atom 1, .int .i64 0, .bool true)], [(.max, .atom 0, .int .i64 0, .atom 0), (.min, .atom 0, .int .i64 1048576, .int .i64 1048576), (.max, .atom 1, .int .i64 0, .int .i64 0)], fun _ => True⟩
attribute [local instance] bF20 in
theorem bE20 : isT (evN Tryz.prog (orX (knownX 23) catchX) 1000 60 (.inl 4) [.atom 0, .atom 1] st0) = true := by kernel_rfl
attribute [local instance] bF20 in
theorem bC20 (n k : Int) (hn : 1048576 < n) (hk : k < 0)   (w : World) :
    Calls Tryz.prog 4 #[.int .i64 n, .int .i64 k] w fun e w' => e = .returned (.bool true) ∧ Same w w' :=
  evT (orX_ok (knownX_ok lives39) catchX_ok) bE20 (lets ([n, k].map iv)) (fact_ints (F := bF20) (z := [n, k]) (List.forall_mem_cons.2 ⟨⟨_, _, rfl, rfl, congrArg SV.bool (Eq.symm (decide_eq_false (by omega)))⟩, List.forall_mem_cons.2 ⟨⟨_, _, rfl, rfl, congrArg SV.bool (Eq.symm (decide_eq_true (by omega)))⟩, List.forall_mem_cons.2 ⟨⟨_, _, rfl, rfl, congrArg SV.bool (Eq.symm (decide_eq_true (by omega)))⟩, (fun f hf => (by cases hf))⟩⟩⟩) (List.forall_mem_cons.2 ⟨⟨_, _, rfl, rfl, congrArg some (by omega)⟩, List.forall_mem_cons.2 ⟨⟨_, _, rfl, rfl, congrArg some (by omega)⟩, List.forall_mem_cons.2 ⟨⟨_, _, rfl, rfl, congrArg some (by omega)⟩, (fun f hf => (by cases hf))⟩⟩⟩) trivial) ⟨trivial, trivial, trivial⟩ w
theorem bD20 (n k : Int) (hn : 1048576 < n) (hk : k < 0) (w : World) :
    Calls Tryz.prog 4 #[.int .i64 n, .int .i64 k] w fun e w' => e = .returned (.bool true) ∧ Same w w' := by
  exact bC20 n k hn hk w
@[reducible] def bF21 : Facts := ⟨[(.lss, .atom 0, .int .i64 0, .bool false), (.gtr, .atom 0, .int .i64 1048576, .bool true), (.lss, .atom 1, .int .i64 0, .bool false), (.gtr, .atom 1, .int .i64 1000, .bool false), (.gtr, .atom 1, .int .i64 64, .bool false), (.mul, .atom 1, .int .i64 4194506, .atom 2), (.add, .atom 2, .int .i64 4194514, .atom 3), (.add, .atom 3, .int .i64 1, .atom 4), (.mul, .atom 1, .int .i64 4194515, .atom 5), (.eql, .atom 4, .atom 4, .bool true), (.eql, .atom 5, .atom 5, .bool true)], [(.max, .atom 0, .int .i64 0, .atom 0), (.min, .atom 0, .int .i64 1048576, .int .i64 1048576), (.max, .atom 1, .int .i64 0, .atom 1), (.min, .atom 1, .int .i64 1000, .atom 1), (.min, .atom 1, .int .i64 64, .atom 1)], fun _ => True⟩
attribute [local instance] bF21 in
theorem bE21 : isT (evN Tryz.prog (orX (knownX 23) catchX) 1000 60 (.inl 4) [.atom 0, .atom 1] st0) = true := by kernel_rfl
attribute [local instance] bF21 in
theorem bC21 (n k v2 v3 v4 v5 : Int) (hn : 1048576 < n) (hk : 0 ≤ k ∧ k ≤ 64) (h2 : v2 = k * 4194506) (h3 : v3 = v2 + 4194514) (h4 : v4 = v3 + 1) (h5 : v5 = k * 4194515) (r2 : R64 v2) (r3 : R64 v3) (r4 : R64 v4) (r5 : R64 v5) (w : World) :
    Calls Tryz.prog 4 #[.int .i64 n, .int .i64 k] w fun e w' => e = .returned (.bool true) ∧ Same w w' :=
  evT (orX_ok (knownX_ok lives39) catchX_ok) bE21 (lets ([n, k, v2, v3, v4, v5].map iv)) (fact_ints (F := bF21) (z := [n, k, v2, v3, v4, v5]) (List.forall_mem_cons.2 ⟨⟨_, _, rfl, rfl, congrArg SV.bool (Eq.symm (decide_eq_false (by omega)))⟩, List.forall_mem_cons.2 ⟨⟨_, _, rfl, rfl, congrArg SV.bool (Eq.symm (decide_eq_true (by omega)))⟩, List.forall_mem_cons.2 ⟨⟨_, _, rfl, rfl, congrArg SV.bool (Eq.symm (decide_eq_false (by omega)))⟩, List.forall_mem_cons.2 ⟨⟨_, _, rfl, rfl, congrArg SV.bool (Eq.symm (decide_eq_false (by omega)))⟩, List.forall_mem_cons.2 ⟨⟨_, _, rfl, rfl, congrArg SV.bool (Eq.symm (decide_eq_false (by omega)))⟩, List.forall_mem_cons.2 ⟨⟨_, _, rfl, rfl, congrArg some h2, h2 ▸ r2⟩, List.forall_mem_cons.2 ⟨⟨_, _, rfl, rfl, congrArg some h3, h3 ▸ r3⟩, List.forall_mem_cons.2 ⟨⟨_, _, rfl, rfl, congrArg some h4, h4 ▸ r4⟩, List.forall_mem_cons.2 ⟨⟨_, _, rfl, rfl, congrArg some h5, h5 ▸ r5⟩, List.forall_mem_cons.2 ⟨⟨_, _, rfl, rfl, congrArg SV.bool (Eq.symm (decide_eq_true (rfl)))⟩, List.forall_mem_cons.2 ⟨⟨_, _, rfl, rfl, congrArg SV.bool (Eq.symm (decide_eq_true (rfl)))⟩, (fun f hf => (by cases hf))⟩⟩⟩⟩⟩⟩⟩⟩⟩⟩⟩) (List.forall_mem_cons.2 ⟨⟨_, _, rfl, rfl, congrArg some (by omega)⟩, List.forall_mem_cons.2 ⟨⟨_, _, rfl, rfl, congrArg some (by omega)⟩, List.forall_mem_cons.2 ⟨⟨_, _, rfl, rfl, congrArg some (by omega)⟩, List.forall_mem_cons.2 ⟨⟨_, _, rfl, rfl, congrArg some (by omega)⟩, List.forall_mem_cons.2 ⟨⟨_, _, rfl, rfl, congrArg some (by omega)⟩, (fun f hf => (by cases hf))⟩⟩⟩⟩⟩) trivial) ⟨trivial, trivial, trivial⟩ w
theorem bD21 (n k : Int) (hn : 1048576 < n) (hk : 0 ≤ k ∧ k ≤ 64) (w : World) :
    Calls Tryz.prog 4 #[.int .i64 n, .int .i64 k] w fun e w' => e = .returned (.bool true) ∧ Same w w' := by
  obtain ⟨v2, h2⟩ : ∃ v : Int, v = k * 4194506 := ⟨_, rfl⟩
  obtain ⟨v3, h3⟩ : ∃ v : Int, v = v2 + 4194514 := ⟨_, rfl⟩
  obtain ⟨v4, h4⟩ : ∃ v : Int, v = v3 + 1 := ⟨_, rfl⟩
  obtain ⟨v5, h5⟩ : ∃ v : Int, v = k * 4194515 := ⟨_, rfl⟩
  have b2 : 0 ≤ v2 ∧ v2 ≤ 268448384 := by omega
  have b3 : 4194514 ≤ v3 ∧ v3 ≤ 272642898 := by omega
  have b4 : 4194515 ≤ v4 ∧ v4 ≤ 272642899 := by omega
  have b5 : 0 ≤ v5 ∧ v5 ≤ 268448960 := by omega
  exact bC21 n k v2 v3 v4 v5 hn hk h2 h3 h4 h5 ⟨by omega, by omega⟩ ⟨by omega, by omega⟩ ⟨by omega, by omega⟩ ⟨by omega, by omega⟩ w
@[reducible] def bF22 : Facts := ⟨[(.lss, .atom 0, .int .i64 0, .bool false), (.gtr, .atom 0, .int .i64 1048576, .bool true), (.lss, .atom 1, .int .i64 0, .bool false), (.gtr, .atom 1, .int .i64 1000, .bool false), (.gtr, .atom 1, .int .i64 64, .bool true), (.mul, .atom 1, .int .i64 4194506, .atom 2), (.add, .atom 2, .int .i64 4194514, .atom 3), (.add, .atom 3, .int .i64 1, .atom 4), (.eql, .atom 4, .atom 4, .bool true)], [(.max, .atom 0, .int .i64 0, .atom 0), (.min, .atom 0, .int .i64 1048576, .int .i64 1048576), (.max, .atom 1, .int .i64 0, .atom 1), (.min, .atom 1, .int .i64 1000, .atom 1), (.min, .atom 1, .int .i64 64, .int .i64 64)], fun _ => True⟩
attribute [local instance] bF22 in
theorem bE22 : isT (evN Tryz.prog (orX (knownX 23) catchX) 1000 60 (.inl 4) [.atom 0, .atom 1] st0) = true := by kernel_rfl
attribute [local instance] bF22 in
theorem bC22 (n k v2 v3 v4 : Int) (hn : 1048576 < n) (hk : 64 < k ∧ k ≤ 1000) (h2 : v2 = k * 4194506) (h3 : v3 = v2 + 4194514) (h4 : v4 = v3 + 1) (r2 : R64 v2) (r3 : R64 v3) (r4 : R64 v4) (w : World) :
    Calls Tryz.prog 4 #[.int .i64 n, .int .i64 k] w fun e w' => e = .returned (.bool true) ∧ Same w w' :=
  evT (orX_ok (knownX_ok lives39) catchX_ok) bE22 (lets ([n, k, v2, v3, v4].map iv)) (fact_ints (F := bF22) (z := [n, k, v2, v3, v4]) (List.forall_mem_cons.2 ⟨⟨_, _, rfl, rfl, congrArg SV.bool (Eq.symm (decide_eq_false (by omega)))⟩, List.forall_mem_cons.2 ⟨⟨_, _, rfl, rfl, congrArg SV.bool (Eq.symm (decide_eq_true (by omega)))⟩, List.forall_mem_cons.2 ⟨⟨_, _, rfl, rfl, congrArg SV.bool (Eq.symm (decide_eq_false (by omega)))⟩, List.forall_mem_cons.2 ⟨⟨_, _, rfl, rfl, congrArg SV.bool (Eq.symm (decide_eq_false (by omega)))⟩, List.forall_mem_cons.2 ⟨⟨_, _, rfl, rfl, congrArg SV.bool (Eq.symm (decide_eq_true (by omega)))⟩, List.forall_mem_cons.2 ⟨⟨_, _, rfl, rfl, congrArg some h2, h2 ▸ r2⟩, List.forall_mem_cons.2 ⟨⟨_, _, rfl, rfl, congrArg some h3, h3 ▸ r3⟩, List.forall_mem_cons.2 ⟨⟨_, _, rfl, rfl, congrArg some h4, h4 ▸ r4⟩, List.forall_mem_cons.2 ⟨⟨_, _, rfl, rfl, congrArg SV.bool (Eq.symm (decide_eq_true (rfl)))⟩, (fun f hf => (by cases hf))⟩⟩⟩⟩⟩⟩⟩⟩⟩) (List.forall_mem_cons.2 ⟨⟨_, _, rfl, rfl, congrArg some (by omega)⟩, List.forall_mem_cons.2 ⟨⟨_, _, rfl, rfl, congrArg some (by omega)⟩, List.forall_mem_cons.2 ⟨⟨_, _, rfl, rfl, congrArg some (by omega)⟩, List.forall_mem_cons.2 ⟨⟨_, _, rfl, rfl, congrArg some (by omega)⟩, List.forall_mem_cons.2 ⟨⟨_, _, rfl, rfl, congrArg some (by omega)⟩, (fun f hf => (by cases hf))⟩⟩⟩⟩⟩) trivial) ⟨trivial, trivial, trivial⟩ w
theorem bD22 (n k : Int) (hn : 1048576 < n) (hk : 64 < k ∧ k ≤ 1000) (w : World) :
    Calls Tryz.prog 4 #[.int .i64 n, .int .i64 k] w fun e w' => e = .returned (.bool true) ∧ Same w w' := by
  obtain ⟨v2, h2⟩ : ∃ v : Int, v = k * 4194506 := ⟨_, rfl⟩
  obtain ⟨v3, h3⟩ : ∃ v : Int, v = v2 + 4194514 := ⟨_, rfl⟩
  obtain ⟨v4, h4⟩ : ∃ v : Int, v = v3 + 1 := ⟨_, rfl⟩
  have b2 : 0 ≤ v2 ∧ v2 ≤ 4194506000 := by omega
  have b3 : 4194514 ≤ v3 ∧ v3 ≤ 4198700514 := by omega
  have b4 : 4194515 ≤ v4 ∧ v4 ≤ 4198700515 := by omega
  exact bC22 n k v2 v3 v4 hn hk h2 h3 h4 ⟨by omega, by omega⟩ ⟨by omega, by omega⟩ ⟨by omega, by omega⟩ w
@[reducible] def bF23 : Facts := ⟨[(.lss, .atom 0, .int .i64 0, .bool false), (.gtr, .atom 0, .int .i64 1048576, .bool true), (.lss, .atom 1, .int .i64 0, .bool false), (.gtr, .atom 1, .int .i64 1000, .bool true), (.gtr, .atom 1, .int .i64 64, .bool true)], [(.max, .atom 0, .int .i64 0, .atom 0), (.min, .atom 0, .int .i64 1048576, .int .i64 1048576), (.max, .atom 1, .int .i64 0, .atom 1), (.min, .atom 1, .int .i64 1000, .int .i64 1000), (.min, .atom 1, .int .i64 64, .int .i64 64)], fun _ => True⟩
attribute [local instance] bF23 in
theorem bE23 : isT (evN Tryz.prog (orX (knownX 23) catchX) 1000 60 (.inl 4) [.atom 0, .atom 1] st0) = true := by kernel_rfl
attribute [local instance] bF23 in
theorem bC23 (n k : Int) (hn : 1048576 < n) (hk : 1000 < k)   (w : World) :
    Calls Tryz.prog 4 #[.int .i64 n, .int .i64 k] w fun e w' => e = .returned (.bool true) ∧ Same w w' :=
  evT (orX_ok (knownX_ok lives39) catchX_ok) bE23 (lets ([n, k].map iv)) (fact_ints (F := bF23) (z := [n, k]) (List.forall_mem_cons.2 ⟨⟨_, _, rfl, rfl, congrArg SV.bool (Eq.symm (decide_eq_false (by omega)))⟩, List.forall_mem_cons.2 ⟨⟨_, _, rfl, rfl, congrArg SV.bool (Eq.symm (decide_eq_true (by omega)))⟩, List.forall_mem_cons.2 ⟨⟨_, _, rfl, rfl, congrArg SV.bool (Eq.symm (decide_eq_false (by omega)))⟩, List.forall_mem_cons.2 ⟨⟨_, _, rfl, rfl, congrArg SV.bool (Eq.symm (decide_eq_true (by omega)))⟩, List.forall_mem_cons.2 ⟨⟨_, _, rfl, rfl, congrArg SV.bool (Eq.symm (decide_eq_true (by omega)))⟩, (fun f hf => (by cases hf))⟩⟩⟩⟩⟩) (List.forall_mem_cons.2 ⟨⟨_, _, rfl, rfl, congrArg some (by omega)⟩, List.forall_mem_cons.2 ⟨⟨_, _, rfl, rfl, congrArg some (by omega)⟩, List.forall_mem_cons.2 ⟨⟨_, _, rfl, rfl, congrArg some (by omega)⟩, List.forall_mem_cons.2 ⟨⟨_, _, rfl, rfl, congrArg some (by omega)⟩, List.forall_mem_cons.2 ⟨⟨_, _, rfl, rfl, congrArg some (by omega)⟩, (fun f hf => (by cases hf))⟩⟩⟩⟩⟩) trivial) ⟨trivial, trivial, trivial⟩ w
theorem bD23 (n k : Int) (hn : 1048576 < n) (hk : 1000 < k) (w : World) :
    Calls Tryz.prog 4 #[.int .i64 n, .int .i64 k] w fun e w' => e = .returned (.bool true) ∧ Same w w' := by
  exact bC23 n k hn hk w
theorem boundTells_any (n k : Int) (w : World) :
    Calls Tryz.prog 4 #[.int .i64 n, .int .i64 k] w fun e w' => e = .returned (.bool true) ∧ Same w w' := by
  rcases (by omega : n < 0 ∨ (0 ≤ n ∧ n ≤ 1048576) ∨ 1048576 < n) with hn | hn | hn <;> rcases (by omega : k < 0 ∨ (0 ≤ k ∧ k ≤ 64) ∨ (64 < k ∧ k ≤ 1000) ∨ 1000 < k) with hk | hk | hk | hk
  · exact bD00 n k hn hk w
  · exact bD01 n k hn hk w
  · exact bD02 n k hn hk w
  · exact bD03 n k hn hk w
  · exact bD10 n k hn hk w
  · exact bD11 n k hn hk w
  · exact bD12 n k hn hk w
  · exact bD13 n k hn hk w
  · exact bD20 n k hn hk w
  · exact bD21 n k hn hk w
  · exact bD22 n k hn hk w
  · exact bD23 n k hn hk w
end Go.Proofs.YtgjciacffgiijaaGreat
