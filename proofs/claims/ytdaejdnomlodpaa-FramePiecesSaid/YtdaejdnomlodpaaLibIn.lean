/-
  A slice of byte slices that came in, as a reading tells it. No conditions: nothing of the program is named here.
-/
import Derived.Test.YtdaejdnomlodpaaLib
namespace Go.Al
open Go.RowKit

/-- numbers that fit a byte, as bytes -/
def u8s (zs : List Int) (n : Nat) : List UInt8 := (zs.take n).map fun z => UInt8.ofNat z.toNat
theorem u8s_in {w : World} {x : Addr} {zs : List Int} {n : Nat} (hn : n ≤ zs.length) (hc : ∀ i, i < zs.length → w.cell? (x.add i) = some (.int .u8 (zs.getD i 0))) (hw : ∀ z ∈ zs, (Lit.int .u8 z).wf = true) :
    (u8s zs n).length = n ∧ Rd w (some x) (bs (u8s zs n)) ∧ (u8s zs n ≠ [] → ∀ k, blkOf (some x) = some k → k < w.heap.size) := by
  refine ⟨by simp [u8s]; omega, fun hne => ?_, fun hne k hk => ?_⟩
  all_goals
    have h0 : 0 < n := by
      rcases Nat.eq_zero_or_pos n with h | h
      · subst h; simp [bs, u8s] at hne
      · exact h
    have hz := hc 0 (by omega)
    have hx : x.add 0 = x := by simp [Addr.add]
    rw [hx] at hz
  · obtain ⟨xb, xo, xs⟩ := x
    have hs : xs = none := by
      cases xs with
      | none => rfl
      | some s => simp [World.cell?] at hz; split at hz <;> simp_all
    subst hs
    refine ⟨xb, xo, rfl, fun i y hy => ?_⟩
    have hi : i < n := by
      rcases Nat.lt_or_ge i n with h | h
      · exact h
      · rw [List.getElem?_eq_none (by simp [bs, u8s]; omega)] at hy; cases hy
    have hil : i < zs.length := by omega
    have h1 := hc i hil
    rw [add_lit] at h1
    rw [h1, ← hy]
    have hwf := hw zs[i] (List.getElem_mem hil)
    have hb : 0 ≤ zs[i] ∧ zs[i] ≤ 255 := by simpa [Lit.wf, IntKind.min, IntKind.max, IntKind.signed, IntKind.bits] using hwf
    have e : (UInt8.ofNat zs[i].toNat).toNat = zs[i].toNat := by
      rw [UInt8.toNat_ofNat']
      exact Nat.mod_eq_of_lt (by omega)
    simp [bs, u8s, List.getD_eq_getElem?_getD, hil, hi, e, Int.toNat_of_nonneg hb.1]
  · have := World.block_lt_of_cell? w x hz
    simp [blkOf] at hk
    omega

/-- rows of bytes that came in -/
theorem rows_in {w : World} {a : Addr} {n : Nat} {A : Nat → Option Addr} {L C : Nat → Nat} {Z : Nat → List Int} {base : Nat} (e : TypeId)
    (h : ∀ r, r < n → w.cell? (a.add r) = some (.slice (A r) (L r) (C r)) ∧ L r ≤ C r ∧ C r ≤ maxLen ∧ (Z r).length = C r ∧ (∀ z ∈ Z r, (Lit.int .u8 z).wf = true) ∧ (A r = none → C r = 0) ∧
        ∀ a', A r = some a' → base ≤ a'.block ∧ ∀ c, c < C r → w.cell? (a'.add c) = some (.int .u8 ((Z r).getD c 0))) :
    ∃ (ls : List (List UInt8)) (xs : List Value), ls.length = n ∧ Rd w (some a) xs ∧ Rows2 w.heap.size e w xs (ls.map bs) ∧ ∀ l ∈ ls, l.length ≤ maxLen := by
  have each : ∀ r, r < n → (u8s (Z r) (L r)).length = L r ∧ Rd w (A r) (bs (u8s (Z r) (L r))) ∧ (u8s (Z r) (L r) ≠ [] → ∀ k, blkOf (A r) = some k → k < w.heap.size) := by
    intro r hr
    obtain ⟨_, h2, _, h4, h5, h6, h7⟩ := h r hr
    cases ha : A r with
    | none =>
      have h0 := h6 ha
      have hl : L r = 0 := by omega
      rw [hl]
      exact ⟨by simp [u8s], by simp [u8s]; exact Rd.nil _ _, fun h => by simp [u8s] at h⟩
    | some x => exact u8s_in (by omega) (fun i hi => (h7 x ha).2 i (by omega)) h5
  refine ⟨(List.range n).map fun r => u8s (Z r) (L r), (List.range n).map fun r => .slice (A r) (L r) (C r), by simp, fun hne => ?_, ⟨by simp, fun i x l hx hl => ?_⟩, fun l hl => ?_⟩
  · have h0 : 0 < n := by
      rcases Nat.eq_zero_or_pos n with h | h
      · subst h; simp at hne
      · exact h
    have hz := (h 0 h0).1
    have hx : a.add 0 = a := by simp [Addr.add]
    rw [hx] at hz
    obtain ⟨xb, xo, xs⟩ := a
    have hs : xs = none := by
      cases xs with
      | none => rfl
      | some s => simp [World.cell?] at hz; split at hz <;> simp_all
    subst hs
    refine ⟨xb, xo, rfl, fun i y hy => ?_⟩
    rw [List.getElem?_map] at hy
    rcases Nat.lt_or_ge i n with hi | hi
    · rw [List.getElem?_range hi] at hy
      have h1 := (h i hi).1
      rw [add_lit] at h1
      rw [h1, ← hy]
      rfl
    · rw [List.getElem?_eq_none (by simpa using hi)] at hy
      cases hy
  · rw [List.getElem?_map] at hx hl
    rcases Nat.lt_or_ge i n with hi | hi
    · rw [List.getElem?_range hi] at hx
      rw [List.getElem?_map, List.getElem?_range hi] at hl
      obtain ⟨e1, e2, e3⟩ := each i hi
      simp at hx hl
      subst hx; subst hl
      refine ⟨A i, C i, by rw [bs_length, e1], by rw [bs_length, e1]; exact (h i hi).2.1, e2, fun hn => Sfe.low _ _ _ (e3 fun h0 => hn (by rw [h0]; rfl))⟩
    · rw [List.getElem?_eq_none (by simpa using hi)] at hx
      cases hx
  · rw [List.mem_map] at hl
    obtain ⟨r, hr, rfl⟩ := hl
    have hr' : r < n := by simpa using hr
    rw [(each r hr').1]
    exact Nat.le_trans (h r hr').2.1 (h r hr').2.2.1
end Go.Al
