/-
  The document's own numerals: num and Int are the decimal numeral. No conditions.
-/
import Derived.Test.YtjpiimobafkolaaGreatDoorChecked
import Derived.Test.YtjpiimobafkolaaGreatDoorLib
import Derived.Lib.ItoaNum
import Derived.Lib.ItoaMem
namespace Go.Proofs.YtjpiimobafkolaaGreatDoor
open Go.RowKit Go.Al
set_option linter.unusedVariables false

/-- bytes as a string -/
def strV (l : List UInt8) : Value := .string ⟨l.toArray⟩
theorem bapp (a b : List UInt8) : ((⟨a.toArray⟩ : ByteArray) ++ (⟨b.toArray⟩ : ByteArray)) = ⟨(a ++ b).toArray⟩ := by
  apply ByteArray.ext
  simp
theorem digit_cut (u : Nat) (hu : u < 10) : ∀ w : World, (Instr.slice 9 (.string ⟨#[48, 49, 50, 51, 52, 53, 54, 55, 56, 57]⟩) (some (.int .u64 (u : Int))) (some (.int .u64 ((u : Int) + 1))) none).run Tryz.prog w = .ok (strV (Lib.decDigits u)) w := by
  have h : u = 0 ∨ u = 1 ∨ u = 2 ∨ u = 3 ∨ u = 4 ∨ u = 5 ∨ u = 6 ∨ u = 7 ∨ u = 8 ∨ u = 9 := by omega
  intro w
  rcases h with rfl | rfl | rfl | rfl | rfl | rfl | rfl | rfl | rfl | rfl <;> (rw [Lib.decDigits_one (by decide)]; kernel_rfl)
theorem dec_len (u : Nat) (h : u < 18446744073709551616) : (Lib.decDigits u).length ≤ 20 := by
  have go : ∀ k u, u < 10 ^ k → 0 < k → (Lib.decDigits u).length ≤ k := by
    intro k
    induction k with
    | zero => intro u _ h; omega
    | succ k ih =>
      intro u hu _
      by_cases h10 : u < 10
      · rw [Lib.decDigits_one h10]; simp
      · rw [Lib.decDigits, dif_neg h10, List.length_append]
        have : u / 10 < 10 ^ k := by rw [Nat.pow_succ] at hu; omega
        have hk : 0 < k := by
          rcases Nat.eq_zero_or_pos k with rfl | h
          · simp at this; omega
          · exact h
        have := ih (u / 10) this hk
        simp; omega
  exact go 20 u (by omega) (by omega)
set_option maxRecDepth 100000 in
set_option maxHeartbeats 2000000 in
theorem num_any : ∀ (k : Nat) (u : Nat), u < 10 ^ (k + 1) → u < 18446744073709551616 → ∀ w : World,
    Calls Tryz.prog 20 #[.int .u64 (u : Int)] w fun e w' => e = .returned (strV (Lib.decDigits u)) ∧ w = w' := by
  intro k
  induction k with
  | zero =>
    intro u hu h64 w
    have hu10 : u < 10 := by simpa using hu
    have hc := digit_cut u hu10
    have Hd := hide hu10
    go_enter Tryz.func20, Tryz.ntmps20
    go_wp2_with fail
    go_ret
    exact ⟨rfl, rfl⟩
  | succ k ih =>
    intro u hu h64 w
    by_cases hu10 : u < 10
    · exact ih u (Nat.lt_of_lt_of_le hu10 (Nat.le_self_pow (by omega) 10)) h64 w
    · have h1 : ∀ w : World, Calls Tryz.prog 20 #[.int .u64 ((u : Int) / 10)] w fun e w' => e = .returned (strV (Lib.decDigits (u / 10))) ∧ w = w' := fun w => by
        have := ih (u / 10) (by rw [Nat.pow_succ] at hu; omega) (by omega) w
        rw [Int.natCast_ediv] at this
        exact this
      have h2 : ∀ w : World, Calls Tryz.prog 20 #[.int .u64 ((u : Int) % 10)] w fun e w' => e = .returned (strV (Lib.decDigits (u % 10))) ∧ w = w' := fun w => by
        have := ih (u % 10) (Nat.lt_of_lt_of_le (Nat.mod_lt _ (by decide)) (Nat.le_self_pow (by omega) 10)) (by omega) w
        rw [Int.natCast_emod] at this
        exact this
      have H1 := hide h1
      have H2 := hide h2
      have HD := hide (show Lib.decDigits u = Lib.decDigits (u / 10) ++ Lib.decDigits (u % 10) by rw [Lib.decDigits, dif_neg hu10, Lib.decDigits_one (Nat.mod_lt _ (by decide))])
      have hn : decide (u < 10) = false := by simp; omega
      have hn2 : ((u : Int) < 10) = False := by simp; omega
      have l1 := dec_len (u / 10) (by omega)
      have l2 := dec_len (u % 10) (by omega)
      clear h1 h2 ih hu
      generalize Lib.decDigits (u / 10) = D1 at *
      generalize Lib.decDigits (u % 10) = D2 at *
      unfold strV at H1 H2
      go_enter Tryz.func20, Tryz.ntmps20
      go_wp2_with (first
        | (go_at_call 20; (with_reducible refine (H1.out _).mono ?_); rintro e w' ⟨rfl, rfl⟩)
        | (go_at_call 20; (with_reducible refine (H2.out _).mono ?_); rintro e w' ⟨rfl, rfl⟩))
      go_ret
      exact ⟨ret_eq (show Value.string _ = _ by rw [bapp, HD.out]; rfl), rfl⟩
theorem num_is (u : Nat) (h : u < 18446744073709551616) (w : World) : Calls Tryz.prog 20 #[.int .u64 (u : Int)] w fun e w' => e = .returned (strV (Lib.decDigits u)) ∧ w = w' :=
  num_any 19 u (by omega) h w
theorem itoa_len (n : Int) (h0 : -9223372036854775808 ≤ n) (h1 : n ≤ 9223372036854775807) : (Lib.itoa n).length ≤ 21 := by
  unfold Lib.itoa
  split
  · have := dec_len n.natAbs (by omega); simp; omega
  · have := dec_len n.toNat (by omega); omega
set_option maxRecDepth 100000 in
set_option maxHeartbeats 2000000 in
theorem int_is (n : Int) (h0 : -9223372036854775808 ≤ n) (h1 : n ≤ 9223372036854775807) (w : World) :
    Calls Tryz.prog 14 #[.int .i64 n] w fun e w' => e = .returned (strV (Lib.itoa n)) ∧ w = w' := by
  by_cases hn : n < 0
  · have hN := num_is n.natAbs (by omega)
    rw [show ((n.natAbs : Nat) : Int) = -(n + 1) + 1 by omega] at hN
    have hi : Lib.itoa n = [45] ++ Lib.decDigits n.natAbs := by unfold Lib.itoa; rw [if_pos hn]; rfl
    rw [hi]
    have hl := dec_len n.natAbs (by omega)
    unfold strV at hN
    have HN := hide hN
    clear hN hi
    generalize Lib.decDigits n.natAbs = D at *
    go_enter Tryz.func14, Tryz.ntmps14
    go_wp2_with (go_at_call 20; (with_reducible refine (HN.out _).mono ?_); rintro e w' ⟨rfl, rfl⟩)
    go_ret
    exact ⟨ret_eq (show Value.string _ = _ by exact congrArg Value.string (bapp [45] D)), rfl⟩
  · have hp : 0 ≤ n := by omega
    have hN := num_is n.toNat (by omega)
    rw [show ((n.toNat : Nat) : Int) = n by omega] at hN
    have hi : Lib.itoa n = Lib.decDigits n.toNat := by unfold Lib.itoa; rw [if_neg hn]
    rw [hi]
    have HN := hide hN
    clear hN hi
    generalize Lib.decDigits n.toNat = D at *
    go_enter Tryz.func14, Tryz.ntmps14
    go_wp2_with (go_at_call 20; (with_reducible refine (HN.out _).mono ?_); rintro e w' ⟨rfl, rfl⟩)
    go_ret
    exact ⟨ret_eq rfl, rfl⟩
end Go.Proofs.YtjpiimobafkolaaGreatDoor
