/-
  A sum of bytes, bit by bit and at once: both are the same. No program is named here. No conditions.
-/
import Derived.Test.YtjpiimobafkolaaGreatDoorLib
namespace Go.Al
set_option linter.unusedVariables false

def prime64 : Nat := 1099511628211
def basis64 : Nat := 14695981039346656037
/-- a byte summed up -/
def sumStep (n c : Nat) : Nat := ((n ^^^ c) * prime64) % 18446744073709551616
def sumL (l : List UInt8) : Nat := l.foldl (fun n c => sumStep n c.toNat) basis64
theorem sumL_take {l : List UInt8} {i : Nat} (h : i < l.length) : sumL (l.take (i + 1)) = sumStep (sumL (l.take i)) l[i].toNat := by
  unfold sumL
  rw [List.take_succ_eq_append_getElem h, List.foldl_append, List.foldl_cons, List.foldl_nil]
theorem sumStep_lt (n c : Nat) : sumStep n c < 18446744073709551616 := Nat.mod_lt _ (by decide)
theorem sumL_lt (l : List UInt8) : sumL l < 18446744073709551616 := by
  rcases List.eq_nil_or_concat l with h | ⟨m, a, h⟩
  · rw [h]
    show basis64 < _
    unfold basis64
    omega
  · rw [h, List.concat_eq_append]
    unfold sumL
    rw [List.foldl_append, List.foldl_cons, List.foldl_nil]
    exact sumStep_lt _ _
/-- two bytes' bits that part, the first k of them -/
def bitsK (low c : Nat) : Nat → Nat
  | 0 => 0
  | k + 1 => if (low / 2 ^ k + c / 2 ^ k) % 2 = 1 then bitsK low c k + 2 ^ k else bitsK low c k
theorem bitsK_lt (low c : Nat) : ∀ k, bitsK low c k < 2 ^ k
  | 0 => by simp [bitsK]
  | k + 1 => by
    have := bitsK_lt low c k
    have h2 : 2 ^ (k + 1) = 2 ^ k + 2 ^ k := by rw [Nat.pow_succ]; omega
    unfold bitsK
    split <;> omega
theorem bitsK_test (low c : Nat) : ∀ k i, (bitsK low c k).testBit i = (decide (i < k) && (low ^^^ c).testBit i)
  | 0, i => by simp [bitsK]
  | k + 1, i => by
    have ih := bitsK_test low c k
    have hl := bitsK_lt low c k
    have hb : ((low / 2 ^ k + c / 2 ^ k) % 2 = 1) ↔ (low ^^^ c).testBit k = true := by
      rw [Nat.testBit_xor, Nat.testBit_eq_decide_div_mod_eq, Nat.testBit_eq_decide_div_mod_eq]
      have h1 := Nat.mod_two_eq_zero_or_one (low / 2 ^ k)
      have h2 := Nat.mod_two_eq_zero_or_one (c / 2 ^ k)
      rw [Nat.add_mod]
      rcases h1 with h1 | h1 <;> rcases h2 with h2 | h2 <;> rw [h1, h2] <;> decide
    unfold bitsK
    by_cases h : (low / 2 ^ k + c / 2 ^ k) % 2 = 1
    · rw [if_pos h, Nat.add_comm]
      rcases Nat.lt_trichotomy i k with h1 | h1 | h1
      · rw [Nat.testBit_two_pow_add_gt h1, ih]
        simp only [h1, decide_true, Bool.true_and, show i < k + 1 from by omega]
      · rw [h1, Nat.testBit_two_pow_add_eq, ih]
        simp only [Nat.lt_irrefl, decide_false, Bool.false_and, Bool.not_false, show k < k + 1 from by omega, decide_true, Bool.true_and, hb.1 h]
      · have h3 : 2 ^ k + bitsK low c k < 2 ^ i := by
          have : 2 ^ (k + 1) ≤ 2 ^ i := Nat.pow_le_pow_right (by decide) (by omega)
          rw [Nat.pow_succ] at this
          omega
        rw [Nat.testBit_lt_two_pow h3]
        simp only [show ¬ i < k + 1 from by omega, decide_false, Bool.false_and]
    · rw [if_neg h, ih]
      rcases Nat.lt_trichotomy i k with h1 | h1 | h1
      · simp only [h1, decide_true, Bool.true_and, show i < k + 1 from by omega]
      · have : (low ^^^ c).testBit k = false := by
          cases hx : (low ^^^ c).testBit k
          · rfl
          · exact absurd (hb.2 hx) h
        rw [h1, this]
        simp
      · simp only [show ¬ i < k from by omega, show ¬ i < k + 1 from by omega]
theorem bitsK_xor {low c : Nat} (h1 : low < 256) (h2 : c < 256) : bitsK low c 8 = low ^^^ c := by
  refine Nat.eq_of_testBit_eq fun i => ?_
  rw [bitsK_test]
  by_cases h : i < 8
  · simp only [h, decide_true, Bool.true_and]
  · simp only [h, decide_false, Bool.false_and]
    have h3 : low ^^^ c < 2 ^ 8 := Nat.xor_lt_two_pow h1 h2
    have h4 : low ^^^ c < 2 ^ i := Nat.lt_of_lt_of_le h3 (Nat.pow_le_pow_right (by decide) (by omega))
    exact (Nat.testBit_lt_two_pow h4).symm
/-- a byte's bits that part, in place of a number's last ones -/
theorem xor_low {n c : Nat} (h2 : c < 256) : n ^^^ c = n - n % 256 + bitsK (n % 256) c 8 := by
  have h1 : n % 256 < 256 := Nat.mod_lt _ (by decide)
  rw [bitsK_xor h1 h2]
  have e1 : (n ^^^ c) / 2 ^ 8 = n / 2 ^ 8 := by
    rw [Nat.xor_div_two_pow, Nat.div_eq_of_lt (show c < 2 ^ 8 from h2), Nat.xor_zero]
  have e2 : (n ^^^ c) % 2 ^ 8 = (n % 256) ^^^ c := by
    rw [Nat.xor_mod_two_pow, Nat.mod_eq_of_lt (show c < 2 ^ 8 from h2)]
  have e3 := Nat.div_add_mod (n ^^^ c) (2 ^ 8)
  have e4 := Nat.div_add_mod n (2 ^ 8)
  rw [e1, e2] at e3
  omega
end Go.Al
