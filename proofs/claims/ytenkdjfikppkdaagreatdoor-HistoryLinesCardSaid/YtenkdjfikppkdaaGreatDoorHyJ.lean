/-
  HistoryLines's walk: it answers true for every input, and leaves what was there as it was. Conditions: the events came in whole; the tables of Go's library are as laid.
-/
import Derived.Test.YtenkdjfikppkdaaGreatDoorHyH
import Derived.Test.YtenkdjfikppkdaaGreatDoorHyI
import Derived.Test.YtenkdjfikppkdaaGreatDoorEvIn
namespace Go.Proofs.YtenkdjfikppkdaaGreatDoor
open Go.RowKit Go.Al
set_option linter.unusedVariables false

theorem line_strip (d : Ev) : lineB (stripE d) = lineB d := rfl
theorem line_cut (d : Ev) : lineB (cutE d) = lineB d := rfl
theorem text_map (l : List Ev) (f : Ev → Ev) (hf : ∀ d, lineB (f d) = lineB d) : textB (l.map f) = textB l := by
  unfold textB
  rw [List.flatMap_map]
  congr 1
  funext d
  rw [hf]
theorem text_few {l src : List Ev} (h : l.map stripE = src.map cutE) : textB l = textB src := by
  rw [← text_map l stripE line_strip, h, text_map src cutE line_cut]
theorem wf_few {l src : List Ev} (h : l.map stripE = src.map cutE) (hw : ∀ d ∈ src, WfEv d) : ∀ d ∈ l, WfEv d := by
  intro d hd
  have h1 : stripE d ∈ src.map cutE := by rw [← h]; exact List.mem_map_of_mem hd
  obtain ⟨x, hx, e⟩ := List.mem_map.1 h1
  have hwx := hw x hx
  have h2 : WfEv (stripE d) := by rw [← e]; exact ⟨hwx.st, hwx.ss, hwx.op, hwx.te, hwx.tn⟩
  exact ⟨h2.st, h2.ss, h2.op, h2.te, h2.tn⟩
theorem len_few {l src : List Ev} (h : l.map stripE = src.map cutE) : l.length = src.length := by
  have := congrArg List.length h
  simpa using this
set_option maxRecDepth 100000 in
set_option maxHeartbeats 8000000 in
theorem historyLines_any (A0 : Option Addr) (N C : Nat) (l0 : List Ev) (w : World) (hl : Laid w) (ha : Evs w A0 l0) (hln : l0.length = N) (hwf : ∀ d ∈ l0, WfEv d) (hNC : N ≤ C) (hC : C ≤ maxLen) :
    Calls Tryz.prog 3 #[.slice A0 N C] w fun e w' => e = .returned (.bool true) ∧ Same w w' := by
  subst hln
  have HF := hide (fewE_any (c := C) w ha (by omega))
  have Hl := hide hl
  have Hwt := hide (fun d (hd : d ∈ l0.take 40) => hwf d (List.mem_of_mem_take hd))
  have Hl40 := hide (show (l0.take 40).length ≤ 40 by rw [List.length_take]; omega)
  clear hl ha hwf hNC hC
  generalize l0.length = N0 at *
  go_enter Tryz.func3, Tryz.ntmps3
  go_wp2_with (first
    | (go_at_call 6; have hF := HF.out; (with_reducible refine hF.mono ?_); rintro e w1 ⟨A, c, l, rfl, hown, hrp, hbl, hmap, hs1⟩; have HE := hide (evs_own hown hrp); have Hmap := hide hmap; have Hs1 := hide hs1; have HLc := hide (show l.length ≤ c from (by obtain ⟨_, _, hv, h1, _⟩ := own_form hown; cases hv; exact h1)); clear hown hrp hbl hmap hs1 hF)
    | fail)
  have Hwf := hide (wf_few Hmap.out Hwt.out)
  have hn := len_few Hmap.out
  have hn4 := Hl40.out
  have HT0 := hide (textB_len l Hwf.out)
  have HFw := hide (fun w' (hs : Same w1 w') => fewE_any (c := c) w' (HE.out.same hs) (by unfold maxLen; omega))
  obtain ⟨n, hnn⟩ : ∃ n, l.length = n := ⟨_, rfl⟩
  have hnb : n ≤ 40 := by omega
  have Htk40 := hide (show l.take 40 = l from List.take_of_length_le (by omega))
  rw [hnn] at HT0 HFw HLc ⊢
  have Hn := hide hnn
  clear hn hn4 HF Hmap Hwt Hl40 hnn
  go_loopg [3, 4] n (fun k vs vi wr => ∃ i : Nat, i ≤ n ∧ k = n - i ∧ vs = .string ⟨(textB (l.take i)).toArray⟩ ∧ vi = .int .i64 i ∧ Same w1 wr)
  case atStart => exact ⟨0, Nat.zero_le _, rfl, rfl, rfl, Chg.refl _ _⟩
  case round =>
    obtain ⟨i, hi, hk, rfl, rfl, hsm⟩ := hrel
    have Hk := hide hk
    have Hsm := hide hsm
    clear hk hsm
    by_cases hlt : i < n
    · have hil : i < l.length := by rw [Hn.out]; exact hlt
      obtain ⟨b, off, rfl, hbl, hra, hrp⟩ := (HE.out.same Hsm.out).at_ hil
      have Hra := hide hra
      have hwe := Hwf.out _ (List.getElem_mem hil)
      have HLi := hide (fun w' (hs : Same w1 w') => Line_any l[i] w' (Hl.out.same (Same.trans Hs1.out hs)) hwe)
      have HLr := hide (fun w' => lineRf_any l[i] w' hwe)
      have Htk := hide (textB_take hil)
      have hlt2 : (textB (l.take i)).length ≤ 64 * 201 := Nat.le_trans (textB_len _ fun e he => Hwf.out e (List.mem_of_mem_take he)) (by rw [List.length_take]; exact Nat.mul_le_mul_right _ (Nat.le_trans (Nat.min_le_right _ _) (by rw [Hn.out]; omega)))
      have hll := lineB_len l[i] hwe
      have Hlen := hide (evL_length l[i])
      clear hra hrp hwe
      unfold evV strV at HLi HLr
      generalize textB (l.take i) = T0 at *
      generalize lineB l[i] = S at *
      generalize evL l[i] = L at *
      have q1 : ¬ 9223372036854775807 < T0.length + S.length := by omega
      have q2 : ¬ 9223372036854775807 < T0.length + S.length + 1 := by omega
      clear hlt2 hll
      go_wp2_with fail
      refine wp_region_mixS 11 (by kernel_rfl) (by kernel_rfl) fun Fin hFin => ?_
      simp only [List.take_succ_cons, List.take_zero]
      iterate 11 (first
        | ((with_reducible refine mix_ld L ?_ (fun w => Chg.refl _ w) (fun _ => by kernel_rfl) 46 _ rfl b (off + i * 27) (fun _ => by kernel_rfl) _ (fun w1 hR => rangeAt_same Hra.out hR) Tryz.underlying46 rfl (by rw [Hlen.out]; exact infoEvt) ?_ ?_); rotate_left; · (intro e; simp only [Act.put, List.setIfInBounds_toArray, List.set_cons_zero, List.set_cons_succ]; rfl))
        | (refine mix_lit ?_ ?_ (fun w => Chg.refl _ w) ?_ ?_ ?_ ?_
           rotate_left; rotate_left
           · intro e w1 hR hF K hK; (skip); go_simp; (first | (refine hK _ _ (Chg.refl _ _) ?_; rfl) | (go_at_call 7; (with_reducible refine (HLi.out _ (Same.trans Hsm.out hR)).mono ?_); rintro _ w2 ⟨rfl, hs⟩; refine hK _ _ hs ?_; rfl) | (go_at_call 8; (with_reducible refine (HLr.out _).mono ?_); rintro _ w2 ⟨rfl, hs⟩; refine hK _ _ hs ?_; rfl))
           · intro e; simp only [Act.put, List.setIfInBounds_toArray, List.set_cons_zero, List.set_cons_succ]; rfl
           · exact Loc.const _ _))
      refine mix_nil fun e w1 hR hF => hFin _ _ ?_
      simp only [List.drop_succ_cons, List.drop_zero]
      have HR := hide (Same.trans Hsm.out hR)
      have HraR := hide (rangeAt_same Hra.out hR)
      clear hF hFin hR
      go_wp2_with (first
        | (refine wpList_ld (by rfl) 46 _ rfl b (off + i * 27) rfl L _ HraR.out Tryz.underlying46 rfl (by rw [Hlen.out]; exact infoEvt) ?_)
        | (go_at_call 8; (with_reducible refine (HLr.out _).mono ?_); rintro e w3 ⟨rfl, hs⟩; have HS3 := hide (Same.trans HR.out hs); clear hs)
        | fail)
      go_roundg (n - (i + 1))
      case measure => have := Hk.out; omega
      case rel => exact ⟨i + 1, by omega, rfl, by rw [Htk.out, ← List.append_assoc, ← bapp, ← bapp], by go_num, HS3.out⟩
    · have hie : i = n := by omega
      subst hie
      have Htk := hide (show textB (l.take i) = textB l by rw [List.take_of_length_le (by rw [Hn.out]; exact Nat.le_refl _)])
      generalize textB (l.take i) = T0 at *
      go_wp2_with (first
        | (go_at_call 6; have hF := HFw.out _ Hsm.out; (with_reducible refine hF.mono ?_); rintro e w2 ⟨A2, c2, l2, rfl, hown, hrp, hbl, hmap, hs2⟩; have HE2 := hide (evs_own hown hrp); have Hmap2 := hide hmap; have Hs2 := hide (Same.trans Hsm.out hs2); clear hown hrp hbl hmap hs2 hF)
        | (go_at_call 9; have hF := text_any (c := c2) w2 (Hl.out.same (Same.trans Hs1.out Hs2.out)) HE2.out (by rw [Htk40.out] at Hmap2; exact wf_few Hmap2.out Hwf.out) (by rw [Htk40.out] at Hmap2; rw [len_few Hmap2.out, Hn.out]; omega); rw [show textB l2 = T0 from (by rw [Htk40.out] at Hmap2; rw [text_few Hmap2.out, Htk.out])] at hF; unfold strV at hF; (with_reducible refine hF.mono ?_); rintro e w3 ⟨rfl, hs3⟩; have Hs3 := hide (Same.trans Hs2.out hs3); clear hs3 hF)
        | (go_at_call 10; (with_reducible refine (lives_hist _ (Hl.out.same (Same.trans Hs1.out Hs3.out))).mono ?_); rintro e w4 ⟨rfl, hs4⟩; have Hs4 := hide (Same.trans Hs3.out hs4); clear hs4)
        | fail)
      go_ret
      exact ⟨rfl, Same.trans Hs1.out Hs4.out⟩
end Go.Proofs.YtenkdjfikppkdaaGreatDoor
