/-
  The law's lives. Condition: what Go's library has laid.
-/
import Derived.Test.YtlodanjpkjfjiaaGreatDoorReA
namespace Go.Proofs.YtlodanjpkjfjiaaGreatDoor
open Go.RowKit Go.Al
set_option linter.unusedVariables false

def acE : Ac := ⟨1, 0, 0, ⟨1, ⟨1, (1, 2, -3), z3'⟩, qy0⟩, []⟩
def txE : List UInt8 := [119, 97, 110, 116, 32, 48, 32, 97, 100, 100, 45, 112, 111, 105, 110, 116, 32, 49, 32, 50, 32, 45, 51]
theorem acE_good : goodA acE = true := by decide
theorem inI_lit (n : Int) (h : -100 ≤ n ∧ n ≤ 100) : inI' n := by unfold inI'; omega
theorem acE_wf : WfA acE := ⟨inI_lit _ (by decide), inI_lit _ (by decide), ⟨fun n hn => by
  simp only [List.mem_cons, List.not_mem_nil, or_false] at hn
  rcases hn with rfl | rfl | rfl | rfl | rfl | rfl | rfl | rfl | rfl | rfl | rfl | rfl | rfl | rfl | rfl <;> exact inI_lit _ (by decide)⟩⟩
theorem itoa_0 : Lib.itoa 0 = [48] := by unfold Lib.itoa; rw [if_neg (by decide)]; exact Lib.decDigits_one (by decide)
theorem itoa_1 : Lib.itoa 1 = [49] := by unfold Lib.itoa; rw [if_neg (by decide)]; exact Lib.decDigits_one (by decide)
theorem itoa_2 : Lib.itoa 2 = [50] := by unfold Lib.itoa; rw [if_neg (by decide)]; exact Lib.decDigits_one (by decide)
theorem itoa_m3 : Lib.itoa (-3) = [45, 51] := by unfold Lib.itoa; rw [if_pos (by decide)]; exact congrArg (45 :: ·) (Lib.decDigits_one (by decide))
theorem acE_show : showB acE = txE := by
  have e : showW acE = [wordAt wordsA 1, Lib.itoa 0, wordAt wordsR 1, Lib.itoa 1, Lib.itoa 2, Lib.itoa (-3)] := rfl
  unfold showB
  rw [e, itoa_0, itoa_1, itoa_2, itoa_m3]
  decide +kernel
theorem acE_parse : parseB oneW txE = some acE := by
  have := parse_show ones_W acE_good acE_wf
  rw [acE_show] at this
  exact this
set_option maxRecDepth 100000 in
set_option maxHeartbeats 8000000 in
theorem lives_any (w : World) (ha : Amb w) :
    Calls Tryz.prog 13 #[] w fun e w' => e = .returned (.bool true) ∧ Same w w' := by
  have hsp : (Lib.split txE [32]).length ≤ 1000 := by
    rw [← acE_show, split_show]
    exact Nat.le_trans (showW_len acE_good) (by decide)
  have HP := hide ((Parse_any txE w ha (by decide) hsp).mono (R' := fun e w' => ∃ A c, e = .returned (.tuple #[.agg (laL ⟨acE, A, c⟩).toArray, .int .i64 0]) ∧ LaAt w' ⟨acE, A, c⟩ ∧ Same w w') (by
    rintro e w' ⟨h1, h2⟩
    rcases h1 with ⟨a', A, cc, h3, h4, h5, h6⟩ | ⟨h3, _⟩
    · rw [acE_parse] at h3; cases h3; exact ⟨A, cc, h4, h5, h2⟩
    · rw [acE_parse] at h3; cases h3))
  have HS := hide (fun (A : Option Addr) (c : Nat) (w' : World) (h : LaAt w' ⟨acE, A, c⟩) (hs : Same w w') => Show_any (A := A) (c := c) acE w' h.1 (Nat.le_trans h.2.1 h.2.2) acE_wf (ha.same hs))
  unfold ShowEnd at HS
  rw [if_pos acE_good, if_pos acE_good, acE_show] at HS
  clear ha hsp
  unfold strV txE at HP HS
  go_enter Tryz.func13, Tryz.ntmps13
  go_wp2_with (first
    | (go_at_call 9; (with_reducible refine HP.out.mono ?_); rintro e w4 ⟨A, c, rfl, hlat, hs4⟩; have Hd := hide (laL_len ⟨acE, A, c⟩); have Hd1 := hide (one_laL ⟨acE, A, c⟩); have HSa := hide (HS.out A c); have Hlat := hide hlat; have hg4 : (laL ⟨acE, A, c⟩)[7]? = some (.int .i64 (-3)) := rfl; have Hs4 := hide hs4; have hS : ∀ w', LaAt w' ⟨acE, A, c⟩ → Same w w' → _ := HSa.out; unfold acV at hS; rw [show acL acE A c = laL ⟨acE, A, c⟩ from rfl] at hS; have HSb := hide hS; obtain ⟨R, hR⟩ : ∃ R, laL ⟨acE, A, c⟩ = R := ⟨_, rfl⟩; rw [hR] at Hd Hd1 hg4 HSb ⊢; clear hlat hs4 hS HSa hR)
    | ((with_reducible refine stN 38 22 R 38 _ rowAct Hd.out ?_ Hd1.out ?_ ?_ ?_); rfl; rfl; rfl; have hb5 := Blk.new w4 38 R.toArray; have hs5 := (Chg.refl (fun _ => False) w4).alloc (.cells R.toArray 38); generalize w4.alloc (.cells R.toArray 38) = w5 at hb5 hs5 ⊢; have Hb5 := hide hb5; have Hra5 := hide (blk_range hb5); have Hs45 := hide hs5; have Hs5 := hide (Same.trans Hs4.out hs5); clear hb5 hs5)
    | ((with_reducible refine ldR 38 w4.heap.size 0 22 R rowAct Hd.out Hra5.out ?_ ?_ ?_); rfl; rfl)
    | (go_at_call 18; (with_reducible refine (HSb.out _ (Hlat.out.same Hs45.out) Hs5.out).mono ?_); rintro e w6 ⟨rfl, hs6⟩; have Hs6 := hide (Same.trans Hs5.out hs6); have hk7 := (Hb5.out.same hs6).cell 7; simp only [List.getElem?_toArray, hg4] at hk7; clear hs6)
    | fail)
  go_ret
  exact ⟨rfl, Hs6.out⟩
end Go.Proofs.YtlodanjpkjfjiaaGreatDoor
