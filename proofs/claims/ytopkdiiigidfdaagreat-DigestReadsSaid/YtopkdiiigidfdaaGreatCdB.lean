/-
  codec.put: a number's bytes appended to a row of the call's own. Condition: numbers that an int holds; at most 1048576 bytes.
-/
import Derived.Test.YtopkdiiigidfdaaGreatCdA
namespace Go.Proofs.YtopkdiiigidfdaaGreat
open Go.RowKit Go.Al
set_option linter.unusedVariables false

/-- an owned row of bytes, grown: where it lies, and what has changed -/
def PutEnd (w : World) (base : Nat) (A : Option Addr) (m : Nat) (l : List UInt8) (e : Ending) (w' : World) : Prop :=
  ∃ A' c', e = .returned (.slice A' m c') ∧ w'.ownsRow base 5 1 (.slice A' m c') m (bs l) ∧ Chg (fun k => blkOf A = some k) w w' ∧ (blkOf A' = blkOf A ∨ ∀ b, blkOf A' = some b → w.heap.size ≤ b)
theorem grown_chg {w wr w5 : World} {A A0 : Option Addr} {o : Obj} (h : Chg (fun k => blkOf A = some k) w wr) (hb : blkOf A0 = blkOf A ∨ ∀ b, blkOf A0 = some b → w.heap.size ≤ b) (hc : Chg (fun k => blkOf A0 = some k) (wr.alloc o) w5) : Chg (fun k => blkOf A = some k) w w5 :=
  Chg.trans (h.alloc o) hc fun k hk e => by
    rcases hb with h | h
    · rw [← h]; exact e
    · have := h k e; omega
theorem grown_blk {w wr : World} {A A0 A1 : Option Addr} {o : Obj} (hz : w.heap.size ≤ wr.heap.size) (hb : blkOf A0 = blkOf A ∨ ∀ b, blkOf A0 = some b → w.heap.size ≤ b) (h1 : blkOf A1 = blkOf A0 ∨ blkOf A1 = some (wr.alloc o).heap.size) : blkOf A1 = blkOf A ∨ ∀ b, blkOf A1 = some b → w.heap.size ≤ b := by
  rcases h1 with h | h
  · rw [h]; exact hb
  · refine .inr fun b hb' => ?_
    rw [h] at hb'
    simp at hb'
    omega
theorem u8_of (x : Nat) (h : x < 256) : (x.toUInt8).toNat = x := by simp [Nat.toUInt8]; omega
theorem bs_one (x : Nat) (h : x < 256) : bs [x.toUInt8] = [.int .u8 (x : Int)] := by unfold bs; simp [u8_of x h]
theorem take_enc {u j : Nat} {y : UInt8} (h : (Lib.uvarint u)[j]? = some y) : (Lib.uvarint u).take (j + 1) = (Lib.uvarint u).take j ++ [y] := by
  obtain ⟨hj, he⟩ := List.getElem?_eq_some_iff.1 h
  rw [List.take_succ_eq_append_getElem hj, he]
set_option maxRecDepth 100000 in
set_option maxHeartbeats 4000000 in
theorem put_any {base n c : Nat} {A : Option Addr} {l : List UInt8} (x : Int) (w : World) (h0 : -9223372036854775808 ≤ x) (h1 : x ≤ 9223372036854775807) (hown : w.ownsRow base 5 1 (.slice A n c) n (bs l)) (hb : base ≤ w.heap.size) (hn : n ≤ 1048576) :
    Calls Tryz.prog 144 #[.slice A n c, .int .i64 x] w (PutEnd w base A (n + (encI x).length) (l ++ encI x)) := by
  have HF := hide (folded_any x · h0 h1)
  have hu := Lib.zigzag_lt h0 h1
  have hl10 := encI_len h0 h1
  have hlp := encI_pos x
  unfold encI at *
  generalize Lib.zigzag x = u at *
  have Hown := hide hown
  have Hget := hide (fun j (h : j < (Lib.uvarint u).length) => uv_get j u h)
  have Hmore := hide (fun j (h : j < (Lib.uvarint u).length) (h2 : ¬ uvAt u j < 128) => uv_more h h2)
  have Hlast := hide (fun j (h : j < (Lib.uvarint u).length) (h2 : uvAt u j < 128) => uv_take_small h h2)
  have Hlt := hide (fun j => Nat.lt_of_le_of_lt (show uvAt u j ≤ u from Nat.div_le_self _ _) hu)
  have Htk := hide (fun (j : Nat) (y : UInt8) (h : (Lib.uvarint u)[j]? = some y) => take_enc h)
  obtain ⟨N, hN⟩ : ∃ N, (Lib.uvarint u).length = N := ⟨_, rfl⟩
  rw [hN] at hl10 hlp Hget Hmore Hlast ⊢
  have HN := hide hN
  clear hown h0 h1 hN hu
  go_enter Tryz.func144, Tryz.ntmps144
  go_wp2_with (first
    | (go_at_call 193; (with_reducible refine (HF.out _).mono ?_); rintro e w' ⟨rfl, rfl⟩)
    | fail)
  go_loopg [0, 5] N (fun k vb vz wr => ∃ (j : Nat) (A0 : Option Addr) (c0 : Nat), j < N ∧ k = N - j ∧ vb = .slice A0 (n + j) c0 ∧ vz = .int .u64 ((uvAt u j : Nat) : Int) ∧ wr.ownsRow base 5 1 (.slice A0 (n + j) c0) (n + j) (bs (l ++ (Lib.uvarint u).take j)) ∧ Chg (fun k => blkOf A = some k) w wr ∧ (blkOf A0 = blkOf A ∨ ∀ b, blkOf A0 = some b → w.heap.size ≤ b))
  case atStart => exact ⟨0, A, c, by omega, by omega, rfl, by rw [uvAt_zero], by simpa using Hown.out, Chg.refl _ _, .inl rfl⟩
  case round =>
    obtain ⟨j, A0, c0, hj, hk, rfl, rfl, ho, hc, hbl⟩ := hrel
    have Hk := hide hk
    have Ho := hide ho
    have Hc := hide hc
    have Hbl := hide hbl
    have Hz := hide hc.size
    have hlt := Hlt.out j
    have hget := Hget.out j hj
    have hsucc := uvAt_succ u j
    have Hs2 := hide hsucc
    clear hk ho hc hbl hsucc
    by_cases hs : uvAt u j < 128
    · have hlast := Hlast.out j hj hs
      rw [if_pos hs] at hget
      have Hget2 := hide (Htk.out j _ hget)
      generalize uvAt u j = z at *
      have hw : (z : Int) % 256 = (z : Int) := by omega
      have hz1 : ¬ (128 : Int) ≤ (z : Int) := by omega
      have Hone := hide (bs_one z (by omega))
      have Hlast := hide hlast
      clear hget hlast
      go_wp2_with (first
        | (at_builtin; refine wpList_appS (by rfl) (.tmp 18) (.tmp 21) _ (by rfl) slB (by rfl) (base := base) (by exact own_chg Ho.out ((Chg.refl (fun _ => False) wr).alloc _) (fun _ _ h => h)) (by rfl) (show (bs [z.toUInt8]).length = 1 * 1 from rfl) (by rw [Hone.out]; exact rd_lit _ _ _ _ _ rfl) (one_bs _) (by omega) (by omega) (by have := Hz.out; simp; omega) ?_; intro A3 c3 w5 hown hc hb5; have HE := hide (show PutEnd w base A (n + N) (l ++ Lib.uvarint u) (.returned (.slice A3 (n + j + 1) c3)) w5 from (by have e : n + N = n + j + 1 := (by have := Hlast.out; omega); rw [e]; refine ⟨A3, c3, rfl, ?_, grown_chg Hc.out Hbl.out hc, grown_blk Hz.out Hbl.out hb5⟩; have e2 : l ++ Lib.uvarint u = (l ++ (Lib.uvarint u).take j) ++ [z.toUInt8] := (by rw [List.append_assoc, ← Hget2.out, List.take_of_length_le (by rw [HN.out]; have := Hlast.out; omega)]); rw [e2, bs_append]; exact hown)); clear hown hc hb5)
        | fail)
      go_ret
      exact HE.out
    · have hmore := Hmore.out j hj hs
      rw [if_neg hs] at hget
      have Hget2 := hide (Htk.out j _ hget)
      generalize hgz : uvAt u j = z at *
      have hw : bits .or .u8 ((z : Int) % 256) 128 = ((z % 128 + 128 : Nat) : Int) := by
        rw [Lib.u8_or128_any _ (by omega) (by omega)]
        omega
      have hz1 : (128 : Int) ≤ (z : Int) := by omega
      have Hone := hide (bs_one (z % 128 + 128) (by omega))
      have Hmore := hide hmore
      clear hget hmore hgz
      go_wp2_with (first
        | (at_builtin; refine wpList_appS (by rfl) (.tmp 12) (.tmp 16) _ (by rfl) slB (by rfl) (base := base) (by exact own_chg Ho.out ((Chg.refl (fun _ => False) wr).alloc _) (fun _ _ h => h)) (by rfl) (show (bs [(z % 128 + 128).toUInt8]).length = 1 * 1 from rfl) (by rw [Hone.out]; exact rd_lit _ _ _ _ _ rfl) (one_bs _) (by omega) (by omega) (by have := Hz.out; simp; omega) ?_; intro A3 c3 w5 hown hc hb5; have Hown3 := hide hown; have HC3 := hide (grown_chg Hc.out Hbl.out hc); have HB3 := hide (grown_blk Hz.out Hbl.out hb5); clear hown hc hb5)
        | fail)
      go_roundg (N - (j + 1))
      case measure => have := Hk.out; have := Hmore.out; omega
      case rel =>
        refine ⟨j + 1, A3, c3, Hmore.out, rfl, rfl, ?_, ?_, HC3.out, HB3.out⟩
        · rw [Hs2.out]; rfl
        · rw [Hget2.out, ← List.append_assoc, bs_append]; exact Hown3.out
end Go.Proofs.YtopkdiiigidfdaaGreat
