/-
  Laid tables of Go's library; Itoa; the word of an event's kind. Condition: the two tables hold what the program's text lays.
-/
import Derived.Test.YtenkdjfikppkdaaGreatDoorStr
import Derived.Test.YtenkdjfikppkdaaGreatDoorStA
import Derived.Test.YtenkdjfikppkdaaGreatDoorQs
namespace Go.Proofs.YtenkdjfikppkdaaGreatDoor
open Go.RowKit Go.Al
open Go.Sort (grow)
set_option linter.unusedVariables false

theorem tab_same {P : Program} {w w' : World} {name : String} {k : IntKind} {zs : List Int} (h : Lib.TabIs P w name k zs) (hs : Same w w') : Lib.TabIs P w' name k zs := by
  unfold Lib.TabIs World.var? at h ⊢
  cases hg : P.globalNamed name with
  | none => rw [hg] at h; cases h
  | some g =>
    rw [hg] at h
    simp only [Option.bind_some] at h ⊢
    have hlt : g < w.heap.size := by
      rcases Nat.lt_or_ge g w.heap.size with h' | h'
      · exact h'
      · rw [Array.getElem?_eq_none h'] at h; cases h
    rw [hs.block g hlt (fun h => h)]
    exact h
/-- the tables of Go's library that a line wants -/
structure Laid (w : World) : Prop where
  sp : Lib.TabIs Tryz.prog w "strings.asciiSpace" .u8 Lib.asciiSpaceTab
  p10 : Lib.TabIs Tryz.prog w "internal/strconv.uint64pow10" .u64 Lib.pow10Tab
theorem Laid.same {w w' : World} (h : Laid w) (hs : Same w w') : Laid w' := ⟨tab_same h.sp hs, tab_same h.p10 hs⟩
theorem same_growB (w : World) (k : Nat) (os : Array Obj) : Same w (grow (w.drewN k) os) :=
  ⟨rfl, rfl, rfl, by simp [grow], fun b hb => ty_of_heap (by simp only [grow]; exact Array.getElem?_append_left hb), fun b hb _ => by simp only [grow]; exact Array.getElem?_append_left hb⟩
theorem itoa_any (n : Int) (h0 : -9223372036854775808 ≤ n) (h1 : n ≤ 9223372036854775807) (w : World) (h : Laid w) :
    Calls Tryz.prog 45 #[.int .i64 n] w fun e w' => e = .returned (strV (Lib.itoa n)) ∧ Same w w' :=
  (strconv_Itoa n h0 h1 w h.p10).mono fun e w' ⟨he, k, os, hw⟩ => ⟨he, hw ▸ same_growB w k os⟩
/-- the words of events -/
def words : List (List UInt8) := [[63], [105, 110, 118, 111, 107, 101, 100], [116, 111, 111, 107], [114, 101, 112, 108, 105, 101, 100], [97, 98, 111, 114, 116, 101, 100], [114, 101, 102, 117, 115, 101, 100]]
def wordB (k : Int) : List UInt8 := if k < 1 then [63] else if 5 < k then [63] else (words[k.toNat]?).getD [63]
def wordsText : List UInt8 := [63, 32, 105, 110, 118, 111, 107, 101, 100, 32, 116, 111, 111, 107, 32, 114, 101, 112, 108, 105, 101, 100, 32, 97, 98, 111, 114, 116, 101, 100, 32, 114, 101, 102, 117, 115, 101, 100]
theorem words_fields : Lib.fields wordsText = words := by decide +kernel
theorem fields_any (w : World) (h : Laid w) :
    Calls Tryz.prog 80 #[.string ⟨wordsText.toArray⟩] w fun e w' => e = .returned (.slice (some ⟨w.heap.size, 0, none⟩) 6 6) ∧ w' = w.alloc (.cells #[.string ⟨#[63]⟩, .string ⟨#[105, 110, 118, 111, 107, 101, 100]⟩, .string ⟨#[116, 111, 111, 107]⟩, .string ⟨#[114, 101, 112, 108, 105, 101, 100]⟩, .string ⟨#[97, 98, 111, 114, 116, 101, 100]⟩, .string ⟨#[114, 101, 102, 117, 115, 101, 100]⟩] 9) := by
  have := strings_Fields ⟨wordsText.toArray⟩ w (by decide) (fun j b hb => by
    have hm : b ∈ wordsText := List.mem_of_getElem? hb
    have : ∀ x ∈ wordsText, x.toNat < 128 := by decide
    exact this b hm) h.sp
  rw [show (⟨wordsText.toArray⟩ : ByteArray).data.toList = wordsText from rfl, words_fields] at this
  exact this
set_option maxRecDepth 100000 in
set_option maxHeartbeats 2000000 in
theorem word_any (k : Int) (w : World) (h : Laid w) :
    Calls Tryz.prog 46 #[.int .i64 k] w fun e w' => e = .returned (strV (wordB k)) ∧ Same w w' := by
  have HF := hide (fields_any w h)
  clear h
  unfold wordsText at HF
  have hcase : k < 1 ∨ 5 < k ∨ k = 1 ∨ k = 2 ∨ k = 3 ∨ k = 4 ∨ k = 5 := by omega
  rcases hcase with h | h | rfl | rfl | rfl | rfl | rfl
  · have hv : wordB k = [63] := by unfold wordB; rw [if_pos h]
    rw [hv]
    go_enter Tryz.func46, Tryz.ntmps46
    go_wp2_with (go_at_call 80; (with_reducible refine HF.out.mono ?_); rintro e w' ⟨rfl, rfl⟩)
    go_ret
    exact ⟨rfl, (Chg.refl _ w).alloc _⟩
  · have hv : wordB k = [63] := by unfold wordB; rw [if_neg (by omega), if_pos h]
    have h1 : 1 ≤ k := by omega
    rw [hv]
    go_enter Tryz.func46, Tryz.ntmps46
    go_wp2_with (go_at_call 80; (with_reducible refine HF.out.mono ?_); rintro e w' ⟨rfl, rfl⟩)
    go_ret
    exact ⟨rfl, (Chg.refl _ w).alloc _⟩
  all_goals
    go_enter Tryz.func46, Tryz.ntmps46
    go_wp2_with (go_at_call 80; (with_reducible refine HF.out.mono ?_); rintro e w' ⟨rfl, rfl⟩)
    go_ret
    exact ⟨rfl, (Chg.refl _ w).alloc _⟩
end Go.Proofs.YtenkdjfikppkdaaGreatDoor
