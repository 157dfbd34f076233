/-
  The sum of bytes, by the code's Sum and by the document's. Conditions: bytes as they lie, no more than a slice may have.
-/
import Derived.Test.YtjpiimobafkolaaGreatDoorTlP
import Derived.Test.YtjpiimobafkolaaGreatDoorChecked
namespace Go.Proofs.YtjpiimobafkolaaGreatDoor
open Go.RowKit Go.Al
set_option linter.unusedVariables false

theorem wrap_nat (x : Nat) : IntKind.u64.wrap (x : Int) = ((x % 18446744073709551616 : Nat) : Int) := by
  rw [IntKind.wrap_u64]
  omega
theorem wrap_lt (x : Nat) (h : x < 18446744073709551616) : IntKind.u64.wrap (x : Int) = (x : Int) := by
  rw [wrap_nat, Nat.mod_eq_of_lt h]
theorem sum_step (n c : Nat) (hn : n < 18446744073709551616) (hc : c < 256) : IntKind.u64.wrap (bits .xor .u64 (n : Int) (c : Int) * 1099511628211) = ((sumStep n c : Nat) : Int) := by
  rw [bits_xor_u64_nat n c hn (by omega)]
  have := wrap_nat ((n ^^^ c) * prime64)
  rw [Int.natCast_mul] at this
  exact this
theorem sum_none : (14695981039346656037 : Int) = ((sumL [] : Nat) : Int) := by
  show (14695981039346656037 : Int) = ((basis64 : Nat) : Int)
  unfold basis64
  rfl
set_option maxRecDepth 100000 in
set_option maxHeartbeats 4000000 in
theorem sum_any {A : Option Addr} {c : Nat} (l : List UInt8) (w : World) (h : Rd w A (bs l)) (hn : l.length ≤ 1000) :
    Calls Tryz.prog 6 #[.slice A l.length c] w fun e w' => e = .returned (.int .u64 ((sumL l : Nat) : Int)) ∧ Same w w' := by
  have H0 := hide sum_none
  by_cases hne : l = []
  · subst hne
    have H1 := H0.out
    generalize sumL [] = S at *
    go_enter Tryz.func6, Tryz.ntmps6
    go_wp2_with fail
    go_loopg [3, 5, 8] 0 (fun g v3 v5 v8 wr => v3 = .int .u64 14695981039346656037 ∧ v8 = .int .i64 0 ∧ w = wr)
    case atStart => exact ⟨rfl, rfl, rfl⟩
    case round =>
      obtain ⟨rfl, rfl, rfl⟩ := hrel
      go_wp2_with fail
      go_ret
      exact ⟨ret_eq (by rw [← H1]; rfl), Chg.refl _ _⟩
  · obtain ⟨b, off, rfl, hcell⟩ := h (fun e => hne (List.map_eq_nil_iff.1 e))
    have Hcell0 : Hid (∀ i (hi : i < l.length), w.cell? ⟨b, off + i, none⟩ = some (.int .u8 ((l[i].toNat : Nat) : Int))) := hide fun i hi => hcell i _ (by unfold bs; rw [List.getElem?_map, List.getElem?_eq_getElem hi]; rfl)
    have hpos : 0 < l.length := List.length_pos_iff.2 hne
    have hbw : b < w.heap.size := World.block_lt_of_cell? (a := ⟨b, off + 0, none⟩) w (Hcell0.out 0 hpos)
    have Hst := hide (fun (j : Nat) (hj : j < l.length) => sumL_take hj)
    have Hlt := hide (fun (j : Nat) => sumL_lt (l.take j))
    have Hfull := hide (fun (j : Nat) (hj : j = l.length) => (by rw [hj, List.take_length] : l.take j = l))
    have H00 : Hid (Value.int .u64 14695981039346656037 = .int .u64 ((sumL (l.take 0) : Nat) : Int)) := hide (by rw [List.take_zero, ← H0.out])
    clear h hcell hne H0
    obtain ⟨n, hnn⟩ : ∃ n, l.length = n := ⟨_, rfl⟩
    rw [hnn] at hn hpos ⊢
    have Hn := hide hnn
    clear hnn
    go_enter Tryz.func6, Tryz.ntmps6
    go_wp2_with fail
    go_loopg [3, 5, 8] n (fun g v3 v5 v8 wr => ∃ j : Nat, j ≤ n ∧ g = n - j ∧ v8 = .int .i64 j ∧ v3 = .int .u64 ((sumL (l.take j) : Nat) : Int) ∧ Same w wr)
    case atStart => exact ⟨0, Nat.zero_le _, rfl, rfl, H00.out, Chg.refl _ _⟩
    case round =>
      obtain ⟨j, hj, hg, rfl, rfl, hs⟩ := hrel
      have Hg := hide hg
      have Hs := hide hs
      clear hg hs
      by_cases hlt : j < n
      · have hjl : j < l.length := by rw [Hn.out]; exact hlt
        have hcell := ((Hs.out).cell (p := ⟨b, off + j, none⟩) hbw (fun h => h)).trans (Hcell0.out j hjl)
        have Htk1 := hide (Hst.out j hjl)
        have hy := (l[j]).toNat_lt
        have hlt2 := Hlt.out j
        generalize l[j] = c0 at *
        generalize c0.toNat = y at *
        have q1 := sum_step (sumL (l.take j)) y hlt2 hy
        have q2 := wrap_lt y (by omega)
        generalize sumL (l.take j) = X at *
        clear hlt2
        go_wp2_with fail
        go_roundg (n - (j + 1))
        case measure => have := Hg.out; omega
        case rel => exact ⟨j + 1, by omega, rfl, by go_num, by rw [Htk1.out], Hs.out⟩
      · have hje : j = n := by omega
        subst hje
        have htk := Hfull.out j Hn.out.symm
        rw [htk]
        go_wp2_with fail
        go_ret
        exact ⟨rfl, Hs.out⟩
theorem ref_step (n c : Nat) (hn : n < 18446744073709551616) (hc : c < 256) : (n - n % 256 + bitsK (n % 256) c 8) * prime64 % 18446744073709551616 = sumStep n c := by
  unfold sumStep
  rw [xor_low hc]
theorem sum_two (X y k : Nat) (hy : y < 256) : IntKind.u64.wrap ((X : Int) % 256 / 2 ^ k + (y : Int) / 2 ^ k) = ((X % 256 / 2 ^ k + y / 2 ^ k : Nat) : Int) := by
  have h1 : X % 256 / 2 ^ k ≤ X % 256 := Nat.div_le_self _ _
  have h2 : y / 2 ^ k ≤ y := Nat.div_le_self _ _
  have h3 : X % 256 < 256 := Nat.mod_lt _ (by decide)
  have e : ((X : Int) % 256 / 2 ^ k + (y : Int) / 2 ^ k) = ((X % 256 / 2 ^ k + y / 2 ^ k : Nat) : Int) := by
    rw [Int.natCast_add, Int.natCast_ediv, Int.natCast_ediv, Int.natCast_emod, Int.natCast_pow]
    rfl
  rw [e]
  exact wrap_lt _ (by omega)
theorem two_add (x k : Nat) (hk : k < 8) (hx : x < 2 ^ k) : Value.int .u64 (IntKind.u64.wrap ((x : Int) + IntKind.u64.wrap (2 ^ k))) = .int .u64 ((x + 2 ^ k : Nat) : Int) := by
  have h2 : 2 ^ k ≤ 2 ^ 8 := Nat.pow_le_pow_right (by decide) (by omega)
  have e : ((2 : Int) ^ k) = ((2 ^ k : Nat) : Int) := by rw [Int.natCast_pow]; rfl
  rw [e, wrap_lt _ (by omega), ← Int.natCast_add, wrap_lt _ (by omega)]
theorem last_step (X y : Nat) (hX : X < 18446744073709551616) (hy : y < 256) (hr : (X - X % 256 + bitsK (X % 256) y 8) * prime64 % 18446744073709551616 = sumStep X y) :
    Value.int .u64 (IntKind.u64.wrap (IntKind.u64.wrap ((X : Int) - (X : Int) % 256 + ((bitsK (X % 256) y 8 : Nat) : Int)) * 1099511628211)) = .int .u64 ((sumStep X y : Nat) : Int) := by
  have h1 : X % 256 ≤ X := Nat.mod_le _ _
  have h2 := bitsK_lt (X % 256) y 8
  have e1 : ((X : Int) - (X : Int) % 256) = ((X - X % 256 : Nat) : Int) := by omega
  rw [e1, ← Int.natCast_add, wrap_nat, ← hr]
  generalize X - X % 256 + bitsK (X % 256) y 8 = Y
  have := wrap_nat (Y % 18446744073709551616 * prime64)
  rw [Int.natCast_mul] at this
  refine congrArg (Value.int IntKind.u64) (Eq.trans this ?_)
  rw [Nat.mod_mul_mod]
set_option maxRecDepth 100000 in
set_option maxHeartbeats 4000000 in
theorem rsum_any {A : Option Addr} {c : Nat} (l : List UInt8) (w : World) (h : Rd w A (bs l)) (hn : l.length ≤ 1000) :
    Calls Tryz.prog 7 #[.slice A l.length c] w fun e w' => e = .returned (.int .u64 ((sumL l : Nat) : Int)) ∧ w = w' := by
  have H0 := hide sum_none
  by_cases hne : l = []
  · subst hne
    have H1 := H0.out
    generalize sumL [] = S at *
    go_enter Tryz.func7, Tryz.ntmps7
    go_wp2_with fail
    go_loopg [3, 4, 5, 6, 7] 0 (fun g v3 v4 v5 v6 v7 wr => v3 = .int .u64 14695981039346656037 ∧ v4 = .int .i64 0 ∧ w = wr)
    case atStart => exact ⟨rfl, rfl, rfl⟩
    case round =>
      obtain ⟨rfl, rfl, rfl⟩ := hrel
      go_wp2_with fail
      go_ret
      exact ⟨ret_eq (by rw [← H1]; rfl), rfl⟩
  · obtain ⟨b, off, rfl, hcell⟩ := h (fun e => hne (List.map_eq_nil_iff.1 e))
    have Hcell0 : Hid (∀ i (hi : i < l.length), w.cell? ⟨b, off + i, none⟩ = some (.int .u8 ((l[i].toNat : Nat) : Int))) := hide fun i hi => hcell i _ (by unfold bs; rw [List.getElem?_map, List.getElem?_eq_getElem hi]; rfl)
    have Hst := hide (fun (j : Nat) (hj : j < l.length) => sumL_take hj)
    have Hlt := hide (fun (j : Nat) => sumL_lt (l.take j))
    have Hfull := hide (fun (j : Nat) (hj : j = l.length) => (by rw [hj, List.take_length] : l.take j = l))
    have H00 : Hid (Value.int .u64 14695981039346656037 = .int .u64 ((sumL (l.take 0) : Nat) : Int)) := hide (by rw [List.take_zero, ← H0.out])
    clear h hcell hne H0
    obtain ⟨n, hnn⟩ : ∃ n, l.length = n := ⟨_, rfl⟩
    rw [hnn] at hn ⊢
    have Hn := hide hnn
    clear hnn
    go_enter Tryz.func7, Tryz.ntmps7
    go_wp2_with fail
    go_loopg [3, 4, 5, 6, 7] n (fun g v3 v4 v5 v6 v7 wr => ∃ j : Nat, j ≤ n ∧ g = n - j ∧ v4 = .int .i64 j ∧ v3 = .int .u64 ((sumL (l.take j) : Nat) : Int) ∧ w = wr)
    case atStart => exact ⟨0, Nat.zero_le _, rfl, rfl, H00.out, rfl⟩
    case round =>
      obtain ⟨j, hj, hg, rfl, rfl, rfl⟩ := hrel
      have Hg := hide hg
      clear hg
      by_cases hlt : j < n
      · have hjl : j < l.length := by rw [Hn.out]; exact hlt
        have hcell := Hcell0.out j hjl
        have Htk1 := hide (Hst.out j hjl)
        have hy := (l[j]).toNat_lt
        have hlt2 := Hlt.out j
        generalize l[j] = c0 at *
        generalize c0.toNat = y at *
        generalize sumL (l.take j) = X at *
        have hr := ref_step X y hlt2 hy
        go_wp2_with fail
        go_loopg [6, 7] 8 (fun g v6 v7 wr => ∃ k : Nat, k ≤ 8 ∧ g = 8 - k ∧ v7 = .int .i64 k ∧ v6 = .int .u64 ((bitsK (X % 256) y k : Nat) : Int) ∧ w = wr)
        case atStart => exact ⟨0, Nat.zero_le _, rfl, rfl, rfl, rfl⟩
        case round =>
          obtain ⟨k, hk, hgg, rfl, rfl, rfl⟩ := hrel
          have Hgg := hide hgg
          clear hgg
          by_cases hk8 : k < 8
          · have hb1 := bitsK_lt (X % 256) y k
            have q1 : IntKind.u64.wrap ((X : Int) % 256 / 2 ^ k + (y : Int) / 2 ^ k) = ((X % 256 / 2 ^ k + y / 2 ^ k : Nat) : Int) := sum_two X y k (by omega)
            by_cases hb : (X % 256 / 2 ^ k + y / 2 ^ k) % 2 = 1
            · have hB : bitsK (X % 256) y (k + 1) = bitsK (X % 256) y k + 2 ^ k := if_pos hb
              generalize X % 256 / 2 ^ k + y / 2 ^ k = M at *
              have hM : ((M : Int) % 2) = 1 := by omega
              go_wp2_with fail
              go_roundg (8 - (k + 1))
              case measure => have := Hgg.out; omega
              case rel => exact ⟨k + 1, by omega, rfl, by first | rfl | go_num, by rw [hB, two_add _ k hk8 hb1], rfl⟩
            · have hB : bitsK (X % 256) y (k + 1) = bitsK (X % 256) y k := if_neg hb
              generalize X % 256 / 2 ^ k + y / 2 ^ k = M at *
              have hM : ¬ ((M : Int) % 2) = 1 := by omega
              go_wp2_with fail
              go_roundg (8 - (k + 1))
              case measure => have := Hgg.out; omega
              case rel => exact ⟨k + 1, by omega, rfl, by first | rfl | go_num, by rw [hB], rfl⟩
          · have hke : k = 8 := by omega
            subst hke
            have hX : X % 256 ≤ X := Nat.mod_le _ _
            have hlast := last_step X y hlt2 hy hr
            go_wp2_with fail
            go_roundg (n - (j + 1))
            case measure => have := Hg.out; omega
            case rel => exact ⟨j + 1, by omega, rfl, by first | rfl | go_num, by rw [Htk1.out], rfl⟩
      · have hje : j = n := by omega
        subst hje
        have htk := Hfull.out j Hn.out.symm
        rw [htk]
        go_wp2_with fail
        go_ret
        exact ⟨rfl, rfl⟩
end Go.Proofs.YtjpiimobafkolaaGreatDoor
