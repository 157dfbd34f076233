/-
  The document's own numerals: num and Int are the decimal numeral. No conditions.
  Laid tables of Go's library; Itoa; the word of an event's kind. Condition: the two tables hold what the program's text lays.
  Events, and the line of one, by the code. Conditions: the two tables of Go's library are as laid; an event's numbers are ints.
-/
import Derived.Test.YtlimpepdelpogaaGreatDoorChecked
import Derived.Test.YtlimpepdelpogaaGreatDoorLib
import Derived.Lib.ItoaNum
import Derived.Lib.ItoaMem
import Derived.Test.YtlimpepdelpogaaGreatDoorStr
import Derived.Test.YtlimpepdelpogaaGreatDoorMy
import Derived.Test.YtlimpepdelpogaaGreatDoorQyF

/-! StA -/
namespace Go.Proofs.YtlimpepdelpogaaGreatDoor
open Go.RowKit Go.Al
set_option linter.unusedVariables false
/-- bytes as a string -/
def strV (l : List UInt8) : Value := .string ⟨l.toArray⟩
theorem dec_len (u : Nat) (h : u < 18446744073709551616) : (Lib.decDigits u).length ≤ 20 := by
  have go : ∀ k u, u < 10 ^ k → 0 < k → (Lib.decDigits u).length ≤ k := by
    intro k
    induction k with
    | zero => intro u _ h; omega
    | succ k ih =>
      intro u hu _
      by_cases h10 : u < 10
      · rw [Lib.decDigits_one h10]; simp
      · rw [Lib.decDigits, dif_neg h10, List.length_append]
        have : u / 10 < 10 ^ k := by rw [Nat.pow_succ] at hu; omega
        have hk : 0 < k := by
          rcases Nat.eq_zero_or_pos k with rfl | h
          · simp at this; omega
          · exact h
        have := ih (u / 10) this hk
        simp; omega
  exact go 20 u (by omega) (by omega)
theorem itoa_len (n : Int) (h0 : -9223372036854775808 ≤ n) (h1 : n ≤ 9223372036854775807) : (Lib.itoa n).length ≤ 21 := by
  unfold Lib.itoa
  split
  · have := dec_len n.natAbs (by omega); simp; omega
  · have := dec_len n.toNat (by omega); omega
end Go.Proofs.YtlimpepdelpogaaGreatDoor
/-! StB -/
namespace Go.Proofs.YtlimpepdelpogaaGreatDoor
open Go.RowKit Go.Al
open Go.Sort (grow)
set_option linter.unusedVariables false
set_option maxHeartbeats 2000000
set_option maxRecDepth 100000
theorem tab_same {P : Program} {w w' : World} {name : String} {k : IntKind} {zs : List Int} (h : Lib.TabIs P w name k zs) (hs : Same w w') : Lib.TabIs P w' name k zs := by
  unfold Lib.TabIs World.var? at h ⊢
  cases hg : P.globalNamed name with
  | none => rw [hg] at h; cases h
  | some g =>
    rw [hg] at h
    simp only [Option.bind_some] at h ⊢
    have hlt : g < w.heap.size := by
      rcases Nat.lt_or_ge g w.heap.size with h' | h'
      · exact h'
      · rw [Array.getElem?_eq_none h'] at h; cases h
    rw [hs.block g hlt (fun h => h)]
    exact h
/-- the tables of Go's library that a line wants -/
structure Laid (w : World) : Prop where
  sp : Lib.TabIs Tryz.prog w "strings.asciiSpace" .u8 Lib.asciiSpaceTab
  p10 : Lib.TabIs Tryz.prog w "internal/strconv.uint64pow10" .u64 Lib.pow10Tab
theorem Laid.same {w w' : World} (h : Laid w) (hs : Same w w') : Laid w' := ⟨tab_same h.sp hs, tab_same h.p10 hs⟩
theorem same_growB (w : World) (k : Nat) (os : Array Obj) : Same w (grow (w.drewN k) os) :=
  ⟨rfl, rfl, rfl, by simp [grow], fun b hb => ty_of_heap (by simp only [grow]; exact Array.getElem?_append_left hb), fun b hb _ => by simp only [grow]; exact Array.getElem?_append_left hb⟩
theorem itoa_any (n : Int) (h0 : -9223372036854775808 ≤ n) (h1 : n ≤ 9223372036854775807) (w : World) (h : Laid w) :
    Calls Tryz.prog 55 #[.int .i64 n] w fun e w' => e = .returned (strV (Lib.itoa n)) ∧ Same w w' :=
  (strconv_Itoa n h0 h1 w h.p10).mono fun e w' ⟨he, k, os, hw⟩ => ⟨he, hw ▸ same_growB w k os⟩
/-- the words of events -/
def words : List (List UInt8) := [[63], [105, 110, 118, 111, 107, 101, 100], [116, 111, 111, 107], [114, 101, 112, 108, 105, 101, 100], [97, 98, 111, 114, 116, 101, 100], [114, 101, 102, 117, 115, 101, 100]]
def wordB (k : Int) : List UInt8 := if k < 1 then [63] else if 5 < k then [63] else (words[k.toNat]?).getD [63]
def wordsText : List UInt8 := [63, 32, 105, 110, 118, 111, 107, 101, 100, 32, 116, 111, 111, 107, 32, 114, 101, 112, 108, 105, 101, 100, 32, 97, 98, 111, 114, 116, 101, 100, 32, 114, 101, 102, 117, 115, 101, 100]
theorem words_fields : Lib.fields wordsText = words := by decide +kernel
theorem fields_any (w : World) (h : Laid w) :
    Calls Tryz.prog 90 #[.string ⟨wordsText.toArray⟩] w fun e w' => e = .returned (.slice (some ⟨w.heap.size, 0, none⟩) 6 6) ∧ w' = w.alloc (.cells #[.string ⟨#[63]⟩, .string ⟨#[105, 110, 118, 111, 107, 101, 100]⟩, .string ⟨#[116, 111, 111, 107]⟩, .string ⟨#[114, 101, 112, 108, 105, 101, 100]⟩, .string ⟨#[97, 98, 111, 114, 116, 101, 100]⟩, .string ⟨#[114, 101, 102, 117, 115, 101, 100]⟩] 9) := by
  have := strings_Fields ⟨wordsText.toArray⟩ w (by decide) (fun j b hb => by
    have hm : b ∈ wordsText := List.mem_of_getElem? hb
    have : ∀ x ∈ wordsText, x.toNat < 128 := by decide
    exact this b hm) h.sp
  rw [show (⟨wordsText.toArray⟩ : ByteArray).data.toList = wordsText from rfl, words_fields] at this
  exact this
theorem word_any (k : Int) (w : World) (h : Laid w) :
    Calls Tryz.prog 56 #[.int .i64 k] w fun e w' => e = .returned (strV (wordB k)) ∧ Same w w' := by
  have HF := hide (fields_any w h)
  clear h
  unfold wordsText at HF
  have hcase : k < 1 ∨ 5 < k ∨ k = 1 ∨ k = 2 ∨ k = 3 ∨ k = 4 ∨ k = 5 := by omega
  rcases hcase with h | h | rfl | rfl | rfl | rfl | rfl
  · have hv : wordB k = [63] := by unfold wordB; rw [if_pos h]
    rw [hv]
    go_enter Tryz.func56, Tryz.ntmps56
    go_wp2_with (go_at_call 90; (with_reducible refine HF.out.mono ?_); rintro e w' ⟨rfl, rfl⟩)
    go_ret
    exact ⟨rfl, (Chg.refl _ w).alloc _⟩
  · have hv : wordB k = [63] := by unfold wordB; rw [if_neg (by omega), if_pos h]
    have h1 : 1 ≤ k := by omega
    rw [hv]
    go_enter Tryz.func56, Tryz.ntmps56
    go_wp2_with (go_at_call 90; (with_reducible refine HF.out.mono ?_); rintro e w' ⟨rfl, rfl⟩)
    go_ret
    exact ⟨rfl, (Chg.refl _ w).alloc _⟩
  all_goals
    go_enter Tryz.func56, Tryz.ntmps56
    go_wp2_with (go_at_call 90; (with_reducible refine HF.out.mono ?_); rintro e w' ⟨rfl, rfl⟩)
    go_ret
    exact ⟨rfl, (Chg.refl _ w).alloc _⟩
end Go.Proofs.YtlimpepdelpogaaGreatDoor
/-! StC -/
namespace Go.Proofs.YtlimpepdelpogaaGreatDoor
open Go.RowKit Go.Al
set_option linter.unusedVariables false
set_option maxHeartbeats 8000000
set_option maxRecDepth 100000
/-- an event -/
structure Ev where
  k : Int
  st : Int
  ss : Int
  op : Int
  r : Rq
  t : Rp
def evL (e : Ev) : List Value := [.int .i64 e.k, .int .i64 e.st, .int .i64 e.ss, .int .i64 e.op] ++ rqL e.r ++ rpL e.t
def evV (e : Ev) : Value := .agg (evL e).toArray
theorem evL_length (e : Ev) : (evL e).length = 27 := rfl
def inI (n : Int) : Prop := -9223372036854775808 ≤ n ∧ n ≤ 9223372036854775807
structure WfEv (e : Ev) : Prop where
  st : inI e.st
  ss : inI e.ss
  op : inI e.op
  te : inI e.t.e
  tn : inI e.t.n
/-- the words of an event's line -/
def partsB (e : Ev) : List (List UInt8) :=
  [Lib.itoa e.st, [115] ++ Lib.itoa e.ss, wordB e.k, [35] ++ Lib.itoa e.op] ++
    if e.k = 1 ∨ e.k = 4 then [] else [[99, 111, 100, 101], Lib.itoa e.t.e] ++ if e.t.asked then [Lib.itoa e.t.n] else []
def lineB (e : Ev) : List UInt8 := Lib.join (partsB e) [32]
theorem wordB_len (k : Int) : (wordB k).length ≤ 8 := by
  have h : k < 1 ∨ 5 < k ∨ k = 1 ∨ k = 2 ∨ k = 3 ∨ k = 4 ∨ k = 5 := by omega
  unfold wordB
  rcases h with h | h | rfl | rfl | rfl | rfl | rfl
  · rw [if_pos h]; decide
  · rw [if_neg (by omega), if_pos h]; decide
  all_goals decide
theorem slStr : SlTy Tryz.prog 123 9 1 16 := SlTy.of (z := .string ⟨#[]⟩) Tryz.underlying123 (by kernel_rfl) rfl (by decide)
/-- strings as cells -/
def strs (l : List (List UInt8)) : List Value := l.map strV
theorem one_strs (l : List (List UInt8)) : ∀ u ∈ strs l, u.oneCell' = true := by
  intro u hu
  obtain ⟨x, _, rfl⟩ := List.mem_map.1 hu
  rfl
theorem rd_lit4 (w : World) (a b c d : List UInt8) (t : TypeId) : Rd (w.alloc (.cells #[strV a, strV b, strV c, strV d] t)) (some ⟨w.heap.size, 0, none⟩) (strs [a, b, c, d]) := fun _ =>
  ⟨w.heap.size, 0, rfl, fun i x hx => by rw [(Blk.new w t #[strV a, strV b, strV c, strV d]).cell, Nat.zero_add]; simpa [strs] using hx⟩
theorem rd_lit2 (w : World) (a b : List UInt8) (t : TypeId) : Rd (w.alloc (.cells #[strV a, strV b] t)) (some ⟨w.heap.size, 0, none⟩) (strs [a, b]) := fun _ =>
  ⟨w.heap.size, 0, rfl, fun i x hx => by rw [(Blk.new w t #[strV a, strV b]).cell, Nat.zero_add]; simpa [strs] using hx⟩
theorem rd_lit1 (w : World) (a : List UInt8) (t : TypeId) : Rd (w.alloc (.cells #[strV a] t)) (some ⟨w.heap.size, 0, none⟩) (strs [a]) := fun _ =>
  ⟨w.heap.size, 0, rfl, fun i x hx => by rw [(Blk.new w t #[strV a]).cell, Nat.zero_add]; simpa [strs] using hx⟩
theorem same_belowS {w w' : World} (h : Below w.heap.size w w') : Same w w' :=
  ⟨h.os, h.tape, h.output, h.size, fun k hk => ty_of_heap (h.block k hk), fun k hk _ => h.block k hk⟩
theorem join_any {A : Option Addr} {c : Nat} (l : List (List UInt8)) (hne : l ≠ []) (w : World) (h : Rd w A (strs l)) (hl : l.length ≤ 64) (hc : l.length ≤ c) (hj : (Lib.join l [32]).length ≤ 1000000) :
    Calls Tryz.prog 57 #[.slice A l.length c, .string ⟨#[32]⟩] w fun e w' => e = .returned (strV (Lib.join l [32])) ∧ Same w w' := by
  obtain ⟨b, off, rfl, hcell⟩ := h (by intro h0; exact hne (List.map_eq_nil_iff.1 h0))
  have hm : (l.map fun x => (⟨x.toArray⟩ : ByteArray)).map (·.data.toList) = l := by rw [List.map_map]; simp [Function.comp_def]
  have hb : b < w.heap.size := by
    obtain ⟨x, r, rfl⟩ := List.exists_cons_of_ne_nil hne
    exact World.block_lt_of_cell? (a := ⟨b, off + 0, none⟩) w (hcell 0 _ rfl)
  have := strings_Join b off c (l.map fun x => (⟨x.toArray⟩ : ByteArray)) ⟨#[32]⟩ w (fun j x hx => by
    rw [List.getElem?_map, Option.map_eq_some_iff] at hx
    obtain ⟨y, hy, rfl⟩ := hx
    exact hcell j _ (by unfold strs; rw [List.getElem?_map, hy]; rfl)) hb (by rw [List.length_map]; omega) (by rw [List.length_map]; exact hc) (by rw [hm]; show (Lib.join l [32]).length ≤ _; omega)
  rw [List.length_map, hm] at this
  exact this.mono fun e w' ⟨he, hs⟩ => ⟨he, same_belowS hs⟩
theorem line_any (e : Ev) (w : World) (hl : Laid w) (hw : WfEv e) :
    Calls Tryz.prog 31 #[evV e] w fun f w' => f = .returned (strV (lineB e)) ∧ Same w w' := by
  have HI1 := hide (fun w' (hs : Same w w') => itoa_any e.st hw.st.1 hw.st.2 w' (hl.same hs))
  have HI2 := hide (fun w' (hs : Same w w') => itoa_any e.ss hw.ss.1 hw.ss.2 w' (hl.same hs))
  have HI3 := hide (fun w' (hs : Same w w') => itoa_any e.op hw.op.1 hw.op.2 w' (hl.same hs))
  have HI4 := hide (fun w' (hs : Same w w') => itoa_any e.t.e hw.te.1 hw.te.2 w' (hl.same hs))
  have HI5 := hide (fun w' (hs : Same w w') => itoa_any e.t.n hw.tn.1 hw.tn.2 w' (hl.same hs))
  have HWd := hide (fun w' (hs : Same w w') => word_any e.k w' (hl.same hs))
  have n1 := itoa_len e.st hw.st.1 hw.st.2
  have n2 := itoa_len e.ss hw.ss.1 hw.ss.2
  have n3 := itoa_len e.op hw.op.1 hw.op.2
  have n4 := itoa_len e.t.e hw.te.1 hw.te.2
  have n5 := itoa_len e.t.n hw.tn.1 hw.tn.2
  have n6 := wordB_len e.k
  have hb1 := Blk.new w 45 (evL e).toArray
  have hs1 := (Chg.refl (fun _ => False) w).alloc (.cells (evL e).toArray 45)
  have c0 : (evL e)[0]? = some (.int .i64 e.k) := rfl
  have c1 : (evL e)[1]? = some (.int .i64 e.st) := rfl
  have c2 : (evL e)[2]? = some (.int .i64 e.ss) := rfl
  have c3 : (evL e)[3]? = some (.int .i64 e.op) := rfl
  have c4 : (evL e)[22]? = some (.int .i64 e.t.e) := rfl
  have c5 : (evL e)[23]? = some (.bool e.t.asked) := rfl
  have c6 : (evL e)[25]? = some (.int .i64 e.t.n) := rfl
  have Hb1 := hide hb1
  have Hs1 := hide hs1
  unfold evV lineB partsB
  unfold strV at HI1 HI2 HI3 HI4 HI5 HWd
  clear hb1 hs1 hl hw
  generalize Lib.itoa e.st = S1 at *
  generalize Lib.itoa e.ss = S2 at *
  generalize Lib.itoa e.op = S3 at *
  generalize Lib.itoa e.t.e = S4 at *
  generalize Lib.itoa e.t.n = S5 at *
  generalize wordB e.k = S6 at *
  obtain ⟨k, hk⟩ : ∃ k, e.k = k := ⟨_, rfl⟩
  obtain ⟨st, hst⟩ : ∃ k, e.st = k := ⟨_, rfl⟩
  obtain ⟨ss, hss⟩ : ∃ k, e.ss = k := ⟨_, rfl⟩
  obtain ⟨op, hop⟩ : ∃ k, e.op = k := ⟨_, rfl⟩
  obtain ⟨te, hte⟩ : ∃ k, e.t.e = k := ⟨_, rfl⟩
  obtain ⟨tn, htn⟩ : ∃ k, e.t.n = k := ⟨_, rfl⟩
  obtain ⟨ta, hta⟩ : ∃ k, e.t.asked = k := ⟨_, rfl⟩
  rw [hk] at c0 HWd ⊢
  rw [hst] at c1 HI1
  rw [hss] at c2 HI2
  rw [hop] at c3 HI3
  rw [hte] at c4 HI4
  rw [hta] at c5 ⊢
  rw [htn] at c6 HI5
  clear hk hst hss hop hte htn hta
  generalize evL e = L at *
  have q2 : ¬ 9223372036854775807 < 1 + S2.length := by omega
  have q3 : ¬ 9223372036854775807 < 1 + S3.length := by omega
  by_cases h14 : k = 1 ∨ k = 4
  · rw [if_pos h14, List.append_nil]
    rcases h14 with rfl | rfl
    all_goals
      go_enter Tryz.func31, Tryz.ntmps31
      go_wp2_with fail
      refine wp_region_mixS 14 (by kernel_rfl) (by kernel_rfl) fun Fin hFin => ?_
      simp only [List.take_succ_cons, List.take_zero]
      iterate 14 (
          (refine mix_lit ?_ ?_ (Chg.refl _) ?_ ?_ ?_ ?_; rotate_left 2
           · intro e w1 hR hF K hK; (have hcb := (Hb1.out.same hR).cell); go_simp; (first | (refine hK _ _ (Chg.refl _ _) ?_; rfl) | (go_at_call 55; (with_reducible refine (HI1.out _ (Same.trans Hs1.out hR)).mono ?_); rintro _ w2 ⟨rfl, hs⟩; refine hK _ _ hs ?_; rfl) | (go_at_call 55; (with_reducible refine (HI2.out _ (Same.trans Hs1.out hR)).mono ?_); rintro _ w2 ⟨rfl, hs⟩; refine hK _ _ hs ?_; rfl) | (go_at_call 55; (with_reducible refine (HI3.out _ (Same.trans Hs1.out hR)).mono ?_); rintro _ w2 ⟨rfl, hs⟩; refine hK _ _ hs ?_; rfl) | (go_at_call 56; (with_reducible refine (HWd.out _ (Same.trans Hs1.out hR)).mono ?_); rintro _ w2 ⟨rfl, hs⟩; refine hK _ _ hs ?_; rfl))
           · intro e; simp only [puts]; rfl
           · exact Loc.const _ _))
      refine mix_nil fun e w1 hR hF => hFin _ _ ?_
      simp only [List.drop_succ_cons, List.drop_zero]
      have HW2 := hide (Same.trans Hs1.out hR)
      have HbR := hide (Hb1.out.same hR)
      have hkb := HbR.out.cell
      have hlt1 := HbR.out.lt
      have hz1 : ¬ (w.heap.size = w1.heap.size) := by omega
      go_wp2_with (first
        | (go_at_call 57; refine (join_any ([S1, [115] ++ S2, S6, [35] ++ S3]) (by simp) _ (rd_lit4 w1 S1 ([115] ++ S2) S6 ([35] ++ S3) _) (by simp) (by simp) (by simp [Lib.join]; omega)).mono ?_; rintro f w9 ⟨rfl, hs⟩; have Hs9 := hide hs; clear hs)
        | fail)
      go_ret
      exact ⟨rfl, Same.trans (HW2.out.alloc _) Hs9.out⟩
  have b1 : (k != 1) = true := bne_iff_ne.2 (fun h => h14 (.inl h))
  have b4 : (k != 4) = true := bne_iff_ne.2 (fun h => h14 (.inr h))
  rw [if_neg h14]
  clear h14
  cases ta
  · simp only [Bool.false_eq_true, if_false, List.append_nil]
    go_enter Tryz.func31, Tryz.ntmps31
    go_wp2_with fail
    refine wp_region_mixS 14 (by kernel_rfl) (by kernel_rfl) fun Fin hFin => ?_
    simp only [List.take_succ_cons, List.take_zero]
    iterate 14 (
        (refine mix_lit ?_ ?_ (Chg.refl _) ?_ ?_ ?_ ?_; rotate_left 2
         · intro e w1 hR hF K hK; (have hcb := (Hb1.out.same hR).cell); go_simp; (first | (refine hK _ _ (Chg.refl _ _) ?_; rfl) | (go_at_call 55; (with_reducible refine (HI1.out _ (Same.trans Hs1.out hR)).mono ?_); rintro _ w2 ⟨rfl, hs⟩; refine hK _ _ hs ?_; rfl) | (go_at_call 55; (with_reducible refine (HI2.out _ (Same.trans Hs1.out hR)).mono ?_); rintro _ w2 ⟨rfl, hs⟩; refine hK _ _ hs ?_; rfl) | (go_at_call 55; (with_reducible refine (HI3.out _ (Same.trans Hs1.out hR)).mono ?_); rintro _ w2 ⟨rfl, hs⟩; refine hK _ _ hs ?_; rfl) | (go_at_call 56; (with_reducible refine (HWd.out _ (Same.trans Hs1.out hR)).mono ?_); rintro _ w2 ⟨rfl, hs⟩; refine hK _ _ hs ?_; rfl))
         · intro e; simp only [puts]; rfl
         · exact Loc.const _ _))
    refine mix_nil fun e w1 hR hF => hFin _ _ ?_
    simp only [List.drop_succ_cons, List.drop_zero]
    have HW2 := hide (Same.trans Hs1.out hR)
    have HbR := hide (Hb1.out.same hR)
    have hkb := HbR.out.cell
    have hlt1 := HbR.out.lt
    have hz1 : ¬ (w.heap.size = w1.heap.size) := by omega
    go_wp2_with (first
      | (go_at_call 55; (with_reducible refine (HI4.out _ (HW2.out.alloc _)).mono ?_); rintro f w2 ⟨rfl, hs⟩; have hs12 := Same.trans ((Chg.refl (fun _ => False) w1).alloc _) hs; have Hown2 := hide (own_chg (own_lit w1 w1.heap.size _ 1 _ 4 (Nat.le_refl _) (by decide) (by rfl)) hs (fun _ _ h => h)); have HS12 := hide hs12; have HS2 := hide (Same.trans HW2.out hs12); have hk2 := (HbR.out.same hs12).cell; have hlt2 := (HbR.out.same hs12).lt; have hz2 : ¬ (w.heap.size = w2.heap.size) := (by omega); clear hs hs12)
      | (at_builtin; refine wpList_appS (by rfl) (.tmp 27) (.tmp 32) _ (by rfl) slStr (by rfl) (base := w1.heap.size) (by exact own_chg Hown2.out ((Chg.refl (fun _ => False) w2).alloc _) (fun _ _ h => h)) (by rfl) (by rfl) (by exact rd_lit2 w2 [99, 111, 100, 101] S4 _) (one_strs [[99, 111, 100, 101], S4]) (by omega) (by omega) (by have := HS12.out.size; simp; omega) ?_; intro A3 c3 w3 hown hc hb; have hs3 := Same.app1 HS12.out Hown2.out (Nat.le_refl _) hc; have Hown3 := hide hown; have HS3 := hide (Same.trans HW2.out hs3); have HS13 := hide hs3; have hk3 := (HbR.out.same hs3).cell; have hlt3 := (HbR.out.same hs3).lt; have hz3 : ¬ (w.heap.size = w3.heap.size) := (by omega); clear hown hc hb hs3)
      | (go_at_call 57; refine (join_any ([S1, [115] ++ S2, S6, [35] ++ S3, [99, 111, 100, 101], S4]) (by simp) _ (by exact own_rd Hown3.out) (by simp) (by obtain ⟨_, _, e, h1, _⟩ := own_form Hown3.out; cases e; exact h1) (by simp [Lib.join]; omega)).mono ?_; rintro f w9 ⟨rfl, hs⟩; have Hs9 := hide hs; clear hs)
      | fail)
    go_ret
    exact ⟨rfl, Same.trans HS3.out Hs9.out⟩
  · simp only [if_true]
    go_enter Tryz.func31, Tryz.ntmps31
    go_wp2_with fail
    refine wp_region_mixS 14 (by kernel_rfl) (by kernel_rfl) fun Fin hFin => ?_
    simp only [List.take_succ_cons, List.take_zero]
    iterate 14 (
        (refine mix_lit ?_ ?_ (Chg.refl _) ?_ ?_ ?_ ?_; rotate_left 2
         · intro e w1 hR hF K hK; (have hcb := (Hb1.out.same hR).cell); go_simp; (first | (refine hK _ _ (Chg.refl _ _) ?_; rfl) | (go_at_call 55; (with_reducible refine (HI1.out _ (Same.trans Hs1.out hR)).mono ?_); rintro _ w2 ⟨rfl, hs⟩; refine hK _ _ hs ?_; rfl) | (go_at_call 55; (with_reducible refine (HI2.out _ (Same.trans Hs1.out hR)).mono ?_); rintro _ w2 ⟨rfl, hs⟩; refine hK _ _ hs ?_; rfl) | (go_at_call 55; (with_reducible refine (HI3.out _ (Same.trans Hs1.out hR)).mono ?_); rintro _ w2 ⟨rfl, hs⟩; refine hK _ _ hs ?_; rfl) | (go_at_call 56; (with_reducible refine (HWd.out _ (Same.trans Hs1.out hR)).mono ?_); rintro _ w2 ⟨rfl, hs⟩; refine hK _ _ hs ?_; rfl))
         · intro e; simp only [puts]; rfl
         · exact Loc.const _ _))
    refine mix_nil fun e w1 hR hF => hFin _ _ ?_
    simp only [List.drop_succ_cons, List.drop_zero]
    have HW2 := hide (Same.trans Hs1.out hR)
    have HbR := hide (Hb1.out.same hR)
    have hkb := HbR.out.cell
    have hlt1 := HbR.out.lt
    have hz1 : ¬ (w.heap.size = w1.heap.size) := by omega
    go_wp2_with (first
      | (go_at_call 55; (with_reducible refine (HI4.out _ (HW2.out.alloc _)).mono ?_); rintro f w2 ⟨rfl, hs⟩; have hs12 := Same.trans ((Chg.refl (fun _ => False) w1).alloc _) hs; have Hown2 := hide (own_chg (own_lit w1 w1.heap.size _ 1 _ 4 (Nat.le_refl _) (by decide) (by rfl)) hs (fun _ _ h => h)); have HS12 := hide hs12; have HS2 := hide (Same.trans HW2.out hs12); have hk2 := (HbR.out.same hs12).cell; have hlt2 := (HbR.out.same hs12).lt; have hz2 : ¬ (w.heap.size = w2.heap.size) := (by omega); clear hs hs12)
      | (at_builtin; refine wpList_appS (by rfl) (.tmp 27) (.tmp 32) _ (by rfl) slStr (by rfl) (base := w1.heap.size) (by exact own_chg Hown2.out ((Chg.refl (fun _ => False) w2).alloc _) (fun _ _ h => h)) (by rfl) (by rfl) (by exact rd_lit2 w2 [99, 111, 100, 101] S4 _) (one_strs [[99, 111, 100, 101], S4]) (by omega) (by omega) (by have := HS12.out.size; simp; omega) ?_; intro A3 c3 w3 hown hc hb; have hs3 := Same.app1 HS12.out Hown2.out (Nat.le_refl _) hc; have Hown3 := hide hown; have HS3 := hide (Same.trans HW2.out hs3); have HS13 := hide hs3; have hk3 := (HbR.out.same hs3).cell; have hlt3 := (HbR.out.same hs3).lt; have hz3 : ¬ (w.heap.size = w3.heap.size) := (by omega); clear hown hc hb hs3)
      | (go_at_call 55; have hF := HI5.out _ HS3.out; (with_reducible refine hF.mono ?_); rintro f w4 ⟨rfl, hs⟩; have Hown4 := hide (own_chg Hown3.out hs (fun _ _ h => h)); have HS34 := hide hs; have HS4 := hide (Same.trans HS3.out hs); have HS14 := hide (Same.trans HS13.out hs); clear hs hF)
      | (at_builtin; refine wpList_appS (by rfl) (.tmp 37) (.tmp 43) _ (by rfl) slStr (by rfl) (base := w1.heap.size) (by exact own_chg Hown4.out ((Chg.refl (fun _ => False) w4).alloc _) (fun _ _ h => h)) (by rfl) (by rfl) (by exact rd_lit1 w4 S5 _) (one_strs [S5]) (by omega) (by omega) (by have := HS14.out.size; simp; omega) ?_; intro A5 c5 w5 hown hc hb; have hs5 := Same.app1 HS14.out Hown4.out (Nat.le_refl _) hc; have Hown5 := hide hown; have HS5 := hide (Same.trans HW2.out hs5); clear hown hc hb hs5)
      | (go_at_call 57; refine (join_any ([S1, [115] ++ S2, S6, [35] ++ S3, [99, 111, 100, 101], S4, S5]) (by simp) _ (by exact own_rd Hown5.out) (by simp) (by obtain ⟨_, _, e, h1, _⟩ := own_form Hown5.out; cases e; exact h1) (by simp [Lib.join]; omega)).mono ?_; rintro f w9 ⟨rfl, hs⟩; have Hs9 := hide hs; clear hs)
      | fail)
    go_ret
    exact ⟨rfl, Same.trans HS5.out Hs9.out⟩
end Go.Proofs.YtlimpepdelpogaaGreatDoor
