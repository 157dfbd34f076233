/-
  The document's own Explains and Free. Condition: at most 1048576 operations.
-/
import Derived.Test.YtenkdjfikppkdaaGreatRfI
import Derived.Test.YtenkdjfikppkdaaGreatLnC
import Derived.Test.YtenkdjfikppkdaaGreatMx
namespace Go.Proofs.YtenkdjfikppkdaaGreat
open Go.RowKit Go.Al
set_option linter.unusedVariables false

theorem rangeAt_get {w : World} {b o : Nat} {cs : List Value} (h : w.rangeAt b o cs) (j : Nat) {v : Value} (hv : cs[j]? = some v) : w.cell? ⟨b, o + j, none⟩ = some v := h j v hv
theorem explains_no {l : List Dd} {done : List Int} {i : Nat} (hi : i < l.length) (h : leftB l done i = true) : explainsB l done = false := by
  unfold explainsB
  rw [List.all_eq_false]
  exact ⟨i, List.mem_range.2 hi, by rw [h]; simp⟩
theorem explains_yes {l : List Dd} {done : List Int} {n : Nat} (hn : l.length = n) (h : ∀ j, j < n → leftB l done j = false) : explainsB l done = true := by
  unfold explainsB
  rw [List.all_eq_true]
  intro j hj
  rw [h j (by have := List.mem_range.1 hj; omega)]; rfl
theorem holds_all {l : List Dd} {done : List Int} {i n : Nat} {x : Dd} (hn : l.length = n) (h : ∀ j, j < n → holdsB l done i x j = false) : ((List.range l.length).all fun k => !holdsB l done i x k) = true := by
  rw [List.all_eq_true]
  intro j hj
  rw [h j (by have := List.mem_range.1 hj; omega)]; rfl
theorem holds_not {l : List Dd} {done : List Int} {i k : Nat} {x : Dd} (hk : k < l.length) (h : holdsB l done i x k = true) : ((List.range l.length).all fun k => !holdsB l done i x k) = false := by
  rw [List.all_eq_false]
  exact ⟨k, List.mem_range.2 hk, by rw [h]; simp⟩
theorem upto_step {f : Nat → Bool} {i : Nat} (h : ∀ j, j < i → f j = false) (hi : f i = false) : ∀ j, j < i + 1 → f j = false := fun j hj => by
  by_cases hji : j < i
  · exact h j hji
  · obtain rfl : j = i := by omega
    exact hi
set_option maxRecDepth 100000 in
set_option maxHeartbeats 4000000 in
theorem explainsRf_any {A B : Option Addr} {c c2 : Nat} {l : List Dd} {done : List Int} (w : World) (h : Dds w A l) (hd : Rd w B (is done)) (hl : l.length ≤ 1048576) (hdl : done.length ≤ maxLen) :
    Calls Tryz.prog 15 #[.slice A l.length c, .slice B done.length c2] w fun e w' => e = .returned (.bool (explainsB l done)) ∧ Same w w' := by
  have H := hide h
  have HC := hide (fun (i : Nat) w' (hs : Same w w') => inRf_any (c := c2) done (i : Int) w' (hd.same hs) hdl)
  obtain ⟨n, hn⟩ : ∃ n, l.length = n := ⟨_, rfl⟩
  obtain ⟨m, hm⟩ : ∃ m, done.length = m := ⟨_, rfl⟩
  rw [hn] at hl ⊢
  rw [hm] at HC ⊢
  have Hn := hide hn
  obtain ⟨v, hv⟩ : ∃ v, explainsB l done = v := ⟨_, rfl⟩
  rw [hv]
  have HV := hide hv
  clear h hd hdl hn hm hv
  go_enter Tryz.func15, Tryz.ntmps15
  go_wp2_with fail
  go_loopg [5] n (fun k vi wr => ∃ i : Nat, i ≤ n ∧ k = n - i ∧ vi = .int .i64 i ∧ Same w wr ∧ ∀ j, j < i → leftB l done j = false)
  case atStart => exact ⟨0, Nat.zero_le _, rfl, rfl, Chg.refl _ _, fun j hj => by omega⟩
  case round =>
    obtain ⟨i, hi, hk, rfl, hsm, hall⟩ := hrel
    have Hk := hide hk
    have Hsm := hide hsm
    have Hall := hide hall
    clear hk hsm hall
    by_cases hlt : i < n
    · have hil : i < l.length := by rw [Hn.out]; exact hlt
      obtain ⟨b, off, rfl, hbl, hra, hrp⟩ := (H.out.same Hsm.out).at_ hil
      have hlf : leftB l done i = (mustD l[i] && !hasI done i) := opt_any hil _
      obtain ⟨d, hdd⟩ : ∃ d, l[i] = d := ⟨_, rfl⟩
      rw [hdd] at hra hlf
      have hc2 := rangeAt_get hra 2 (v := .int .i64 d.rp) rfl
      unfold mustD at hlf
      obtain ⟨rp, hrpp⟩ : ∃ x, d.rp = x := ⟨_, rfl⟩
      rw [hrpp] at hc2 hlf
      have hin := HC.out i
      obtain ⟨ha, hha⟩ : ∃ ha, hasI done i = ha := ⟨_, rfl⟩
      rw [hha] at hin hlf
      have Hin := hide hin
      have Hlf := hide hlf
      have Hil := hide hil
      clear hin hha hlf hrpp hdd hra hrp hil
      by_cases h0 : 0 ≤ rp
      · have H0 := hide h0
        cases ha
        · go_wp2_with (go_at_call 30; have hF := Hin.out _ Hsm.out; refine hF.mono ?_; rintro e w2 ⟨rfl, hs⟩; have Hs2 : Hid (Same wr w2) := hide hs; clear hs hF)
          go_ret
          exact ⟨by rw [← HV.out, explains_no Hil.out (Hlf.out.trans (by have := H0.out; rw [decide_eq_true (by omega)]; rfl))]; rfl, Hsm.out.trans Hs2.out⟩
        · go_wp2_with (go_at_call 30; have hF := Hin.out _ Hsm.out; refine hF.mono ?_; rintro e w2 ⟨rfl, hs⟩; have Hs2 : Hid (Same wr w2) := hide hs; clear hs hF)
          go_roundg (n - (i + 1))
          case measure => have := Hk.out; omega
          case rel => exact ⟨i + 1, by omega, rfl, by go_num, Hsm.out.trans Hs2.out, upto_step Hall.out (by rw [Hlf.out]; simp)⟩
      · have H0 := hide h0
        go_wp2_with fail
        go_roundg (n - (i + 1))
        case measure => have := Hk.out; omega
        case rel => exact ⟨i + 1, by omega, rfl, by go_num, Hsm.out, upto_step Hall.out (Hlf.out.trans (by have := H0.out; rw [decide_eq_false (by omega)]; rfl))⟩
    · go_wp2_with fail
      go_ret
      have hie : n = i := by omega
      subst hie
      exact ⟨by rw [← HV.out, explains_yes Hn.out Hall.out]; rfl, Hsm.out⟩
set_option maxRecDepth 100000 in
set_option maxHeartbeats 16000000 in
theorem freeRf_any {A B : Option Addr} {c c2 : Nat} {l : List Dd} {done : List Int} {i : Nat} (w : World) (h : Dds w A l) (hd : Rd w B (is done)) (hl : l.length ≤ 1048576) (hdl : done.length ≤ maxLen) (hi : i < l.length) (hc : l.length ≤ c) :
    Calls Tryz.prog 17 #[.slice A l.length c, .slice B done.length c2, .int .i64 i] w fun e w' => e = .returned (.bool (freeB l done i)) ∧ Same w w' := by
  have H := hide h
  have HC := hide (fun (j : Nat) w' (hs : Same w w') => inRf_any (c := c2) done (j : Int) w' (hd.same hs) hdl)
  obtain ⟨bi, oi, rfl, hbi, hri, hpi⟩ := h.at_ hi
  have Hri := hide hri
  obtain ⟨x, hx⟩ : ∃ x, l[i] = x := ⟨_, rfl⟩
  rw [hx] at Hri
  have hfr : freeB l done i = (canD x && (!hasI done i && (List.range l.length).all fun k => !holdsB l done i x k)) := by rw [← hx]; exact opt_any hi _
  have Hlx := hide (ddL_length x)
  have HCan := hide (canRf_any x)
  have HBf := hide (fun d => beforeRf_any d x)
  obtain ⟨n, hn⟩ : ∃ n, l.length = n := ⟨_, rfl⟩
  obtain ⟨m, hm⟩ : ∃ m, done.length = m := ⟨_, rfl⟩
  rw [hn] at hl hc hi ⊢
  rw [hm] at HC ⊢
  have Hn := hide hn
  obtain ⟨v, hv⟩ : ∃ v, freeB l done i = v := ⟨_, rfl⟩
  rw [hv]
  rw [hv] at hfr
  have HV := hide hfr
  obtain ⟨ca, hca⟩ : ∃ ca, canD x = ca := ⟨_, rfl⟩
  rw [hca] at HCan HV
  obtain ⟨hai, hhai⟩ : ∃ ha, hasI done i = ha := ⟨_, rfl⟩
  have hin := HC.out i
  rw [hhai] at hin HV
  have Hin := hide hin
  clear h hd hdl hn hm hv hfr hri hbi hpi hx hca hhai hin
  unfold ddV at HCan HBf
  obtain ⟨LX, hLX⟩ : ∃ LX, ddL x = LX := ⟨_, rfl⟩
  rw [hLX] at Hri Hlx HCan
  have HBf2 := hide (fun d w => by have := HBf.out d w; rw [hLX] at this; exact this)
  clear HBf hLX
  have qz : decide ((i : Int) < 0) = false := by simp
  have qn : decide (n ≤ i) = false := by simp; omega
  go_enter Tryz.func17, Tryz.ntmps17
  cases ca
  · go_wp2_with (first
      | (refine wpList_ld (by rfl) 45 _ rfl bi (oi + i * 29) rfl LX _ Hri.out Tryz.underlying45 rfl (by rw [Hlx.out]; exact infoDeed) ?_)
      | (go_at_call 31; have hF := HCan.out; refine (hF _).mono ?_; rintro e w1 ⟨rfl, hs⟩; have Hs1 : Hid (Same w w1) := hide hs; clear hs hF)
      | (go_at_call 30; have hF := Hin.out _ Hs1.out; refine hF.mono ?_; rintro e w2 ⟨rfl, hs⟩; have Hs2 : Hid (Same w w2) := hide (Same.trans Hs1.out hs); clear hs hF))
    go_ret
    exact ⟨by rw [HV.out]; rfl, Hs1.out⟩
  cases hai
  case true =>
    go_wp2_with (first
      | (refine wpList_ld (by rfl) 45 _ rfl bi (oi + i * 29) rfl LX _ Hri.out Tryz.underlying45 rfl (by rw [Hlx.out]; exact infoDeed) ?_)
      | (go_at_call 31; have hF := HCan.out; refine (hF _).mono ?_; rintro e w1 ⟨rfl, hs⟩; have Hs1 : Hid (Same w w1) := hide hs; clear hs hF)
      | (go_at_call 30; have hF := Hin.out _ Hs1.out; refine hF.mono ?_; rintro e w2 ⟨rfl, hs⟩; have Hs2 : Hid (Same w w2) := hide (Same.trans Hs1.out hs); clear hs hF))
    go_ret
    exact ⟨by rw [HV.out]; rfl, Hs2.out⟩
  go_wp2_with (first
    | (refine wpList_ld (by rfl) 45 _ rfl bi (oi + i * 29) rfl LX _ Hri.out Tryz.underlying45 rfl (by rw [Hlx.out]; exact infoDeed) ?_)
    | (go_at_call 31; have hF := HCan.out; refine (hF _).mono ?_; rintro e w1 ⟨rfl, hs⟩; have Hs1 : Hid (Same w w1) := hide hs; clear hs hF)
    | (go_at_call 30; have hF := Hin.out _ Hs1.out; refine hF.mono ?_; rintro e w2 ⟨rfl, hs⟩; have Hs2 : Hid (Same w w2) := hide (Same.trans Hs1.out hs); clear hs hF))
  go_loopg [7] n (fun kk vi wr => ∃ k : Nat, k ≤ n ∧ kk = n - k ∧ vi = .int .i64 k ∧ Same w wr ∧ ∀ j, j < k → holdsB l done i x j = false)
  case atStart => exact ⟨0, Nat.zero_le _, rfl, rfl, Hs2.out, fun j hj => by omega⟩
  case round =>
    obtain ⟨k, hk0, hkk, rfl, hsm, hall⟩ := hrel
    have Hk := hide hkk
    have Hsm := hide hsm
    have Hall := hide hall
    clear hkk hsm hall Hs1 Hs2
    by_cases hlt : k < n
    · have hil : k < l.length := by rw [Hn.out]; exact hlt
      obtain ⟨b, off, hAA, hbl, hra, hrp⟩ := (H.out.same Hsm.out).at_ hil
      obtain ⟨rfl, rfl⟩ : bi = b ∧ oi = off := by cases hAA; exact ⟨rfl, rfl⟩
      have Hra := hide hra
      have hlf : holdsB l done i x k = (decide (k ≠ i) && (mustD l[k] && (!hasI done k && beforeD l[k] x))) := by unfold holdsB; rw [opt_any hil]
      obtain ⟨d, hdd⟩ : ∃ d, l[k] = d := ⟨_, rfl⟩
      rw [hdd] at Hra hlf
      have hc2 := rangeAt_get Hra.out 2 (v := .int .i64 d.rp) rfl
      unfold mustD at hlf
      obtain ⟨rp, hrpp⟩ : ∃ x, d.rp = x := ⟨_, rfl⟩
      rw [hrpp] at hc2 hlf
      have Hlf := hide hlf
      have HB := hide (HBf2.out d)
      have Hll := hide (ddL_length d)
      have Hxr := hide (rangeAt_same Hri.out Hsm.out)
      have Hil := hide hil
      clear hra hrp hlf hdd hAA hrpp
      have hin := HC.out k
      obtain ⟨ha, hha⟩ : ∃ ha, hasI done k = ha := ⟨_, rfl⟩
      rw [hha] at hin Hlf
      have Hik := hide hin
      obtain ⟨bf, hbf⟩ : ∃ bf, beforeD d x = bf := ⟨_, rfl⟩
      rw [hbf] at HB Hlf
      clear hin hha hbf hil
      generalize ddL d = L at *
      have Hcp : Hid (∀ w1, Same wr w1 → w1.cell? ⟨bi, oi + k * 29 + 2, none⟩ = some (.int .i64 rp)) := hide fun w1 hs => (hs.cell (p := ⟨bi, oi + k * 29 + 2, none⟩) (World.block_lt_of_cell? _ _ hc2) (fun h => h)).trans hc2
      have qk : decide (k < n) = true := by simpa using hlt
      have qi : decide (i < n) = true := by simpa using hi
      by_cases hki : k = i
      · obtain rfl := hki
        go_wp2_with fail
        refine wp_region_mixS 28 (by kernel_rfl) (by kernel_rfl) fun Fin hFin => ?_
        simp only [List.take_succ_cons, List.take_zero]
        iterate 28 (
            (refine mix_lit ?_ ?_ (fun w => Chg.refl _ w) ?_ ?_ ?_ ?_
             rotate_left; rotate_left
             · intro e w1 hR hF K hK; (have hcp1 := Hcp.out _ hR); go_simp; (first | (refine hK _ _ (Chg.refl _ _) ?_; rfl) | (go_at_call 30; (with_reducible refine (Hik.out _ (Same.trans Hsm.out hR)).mono ?_); rintro _ w2 ⟨rfl, hs⟩; refine hK _ _ hs ?_; rfl) | (go_at_call 32; (with_reducible refine (HB.out _).mono ?_); rintro _ w2 ⟨rfl, hs⟩; refine hK _ _ hs ?_; rfl))
             · intro e; simp only [Act.put, List.setIfInBounds_toArray, List.set_cons_zero, List.set_cons_succ]; rfl
             · exact Loc.const _ _))
        refine mix_nil fun e w1 hR hF => hFin _ _ ?_
        simp only [List.drop_succ_cons, List.drop_zero]
        have HSm := hide (Same.trans Hsm.out hR)
        clear hF hR
        go_wp2_with fail
        go_roundg (n - (k + 1))
        case measure => have := Hk.out; omega
        case rel => exact ⟨k + 1, by omega, rfl, by go_num, HSm.out, upto_step Hall.out (by rw [Hlf.out]; simp)⟩
      · have hb1 : ((k : Int) != (i : Int)) = true := bne_iff_ne.2 (fun e => hki (by omega))
        have hb2 : (k != i) = true := bne_iff_ne.2 hki
        by_cases h0 : 0 ≤ rp
        · have d0 : decide (0 ≤ rp) = true := decide_eq_true h0
          cases ha
          · cases bf
            · go_wp2_with fail
              refine wp_region_mixS 28 (by kernel_rfl) (by kernel_rfl) fun Fin hFin => ?_
              simp only [List.take_succ_cons, List.take_zero]
              iterate 21 (
                  (refine mix_lit ?_ ?_ (fun w => Chg.refl _ w) ?_ ?_ ?_ ?_
                   rotate_left; rotate_left
                   · intro e w1 hR hF K hK; (have hcp1 := Hcp.out _ hR); go_simp; (first | (refine hK _ _ (Chg.refl _ _) ?_; rfl) | (go_at_call 30; (with_reducible refine (Hik.out _ (Same.trans Hsm.out hR)).mono ?_); rintro _ w2 ⟨rfl, hs⟩; refine hK _ _ hs ?_; rfl) | (go_at_call 32; (with_reducible refine (HB.out _).mono ?_); rintro _ w2 ⟨rfl, hs⟩; refine hK _ _ hs ?_; rfl))
                   · intro e; simp only [Act.put, List.setIfInBounds_toArray, List.set_cons_zero, List.set_cons_succ]; rfl
                   · exact Loc.const _ _))
              refine mix_ld L ?_ (fun w => Chg.refl _ w) (fun _ => by rfl) 45 _ rfl bi (oi + k * 29) (fun _ => by rfl) _ (fun w1 hR => rangeAt_same Hra.out hR) Tryz.underlying45 rfl (by rw [Hll.out]; exact infoDeed) ?_ ?_
              rotate_left
              · intro e; simp only [Act.put, List.setIfInBounds_toArray, List.set_cons_zero, List.set_cons_succ]; rfl
              iterate 3 (
                  (refine mix_lit ?_ ?_ (fun w => Chg.refl _ w) ?_ ?_ ?_ ?_
                   rotate_left; rotate_left
                   · intro e w1 hR hF K hK; (have hcp1 := Hcp.out _ hR); go_simp; (first | (refine hK _ _ (Chg.refl _ _) ?_; rfl) | (go_at_call 30; (with_reducible refine (Hik.out _ (Same.trans Hsm.out hR)).mono ?_); rintro _ w2 ⟨rfl, hs⟩; refine hK _ _ hs ?_; rfl) | (go_at_call 32; (with_reducible refine (HB.out _).mono ?_); rintro _ w2 ⟨rfl, hs⟩; refine hK _ _ hs ?_; rfl))
                   · intro e; simp only [Act.put, List.setIfInBounds_toArray, List.set_cons_zero, List.set_cons_succ]; rfl
                   · exact Loc.const _ _))
              refine mix_ld LX ?_ (fun w => Chg.refl _ w) (fun _ => by rfl) 45 _ rfl bi (oi + i * 29) (fun _ => by rfl) _ (fun w1 hR => rangeAt_same Hxr.out hR) Tryz.underlying45 rfl (by rw [Hlx.out]; exact infoDeed) ?_ ?_
              rotate_left
              · intro e; simp only [Act.put, List.setIfInBounds_toArray, List.set_cons_zero, List.set_cons_succ]; rfl
              iterate 2 (
                  (refine mix_lit ?_ ?_ (fun w => Chg.refl _ w) ?_ ?_ ?_ ?_
                   rotate_left; rotate_left
                   · intro e w1 hR hF K hK; (have hcp1 := Hcp.out _ hR); go_simp; (first | (refine hK _ _ (Chg.refl _ _) ?_; rfl) | (go_at_call 30; (with_reducible refine (Hik.out _ (Same.trans Hsm.out hR)).mono ?_); rintro _ w2 ⟨rfl, hs⟩; refine hK _ _ hs ?_; rfl) | (go_at_call 32; (with_reducible refine (HB.out _).mono ?_); rintro _ w2 ⟨rfl, hs⟩; refine hK _ _ hs ?_; rfl))
                   · intro e; simp only [Act.put, List.setIfInBounds_toArray, List.set_cons_zero, List.set_cons_succ]; rfl
                   · exact Loc.const _ _))
              refine mix_nil fun e w1 hR hF => hFin _ _ ?_
              simp only [List.drop_succ_cons, List.drop_zero]
              have HSm := hide (Same.trans Hsm.out hR)
              clear hF hR
              go_wp2_with fail
              go_roundg (n - (k + 1))
              case measure => have := Hk.out; omega
              case rel => exact ⟨k + 1, by omega, rfl, by go_num, HSm.out, upto_step Hall.out (by rw [Hlf.out]; simp)⟩
            · go_wp2_with fail
              refine wp_region_mixS 28 (by kernel_rfl) (by kernel_rfl) fun Fin hFin => ?_
              simp only [List.take_succ_cons, List.take_zero]
              iterate 21 (
                  (refine mix_lit ?_ ?_ (fun w => Chg.refl _ w) ?_ ?_ ?_ ?_
                   rotate_left; rotate_left
                   · intro e w1 hR hF K hK; (have hcp1 := Hcp.out _ hR); go_simp; (first | (refine hK _ _ (Chg.refl _ _) ?_; rfl) | (go_at_call 30; (with_reducible refine (Hik.out _ (Same.trans Hsm.out hR)).mono ?_); rintro _ w2 ⟨rfl, hs⟩; refine hK _ _ hs ?_; rfl) | (go_at_call 32; (with_reducible refine (HB.out _).mono ?_); rintro _ w2 ⟨rfl, hs⟩; refine hK _ _ hs ?_; rfl))
                   · intro e; simp only [Act.put, List.setIfInBounds_toArray, List.set_cons_zero, List.set_cons_succ]; rfl
                   · exact Loc.const _ _))
              refine mix_ld L ?_ (fun w => Chg.refl _ w) (fun _ => by rfl) 45 _ rfl bi (oi + k * 29) (fun _ => by rfl) _ (fun w1 hR => rangeAt_same Hra.out hR) Tryz.underlying45 rfl (by rw [Hll.out]; exact infoDeed) ?_ ?_
              rotate_left
              · intro e; simp only [Act.put, List.setIfInBounds_toArray, List.set_cons_zero, List.set_cons_succ]; rfl
              iterate 3 (
                  (refine mix_lit ?_ ?_ (fun w => Chg.refl _ w) ?_ ?_ ?_ ?_
                   rotate_left; rotate_left
                   · intro e w1 hR hF K hK; (have hcp1 := Hcp.out _ hR); go_simp; (first | (refine hK _ _ (Chg.refl _ _) ?_; rfl) | (go_at_call 30; (with_reducible refine (Hik.out _ (Same.trans Hsm.out hR)).mono ?_); rintro _ w2 ⟨rfl, hs⟩; refine hK _ _ hs ?_; rfl) | (go_at_call 32; (with_reducible refine (HB.out _).mono ?_); rintro _ w2 ⟨rfl, hs⟩; refine hK _ _ hs ?_; rfl))
                   · intro e; simp only [Act.put, List.setIfInBounds_toArray, List.set_cons_zero, List.set_cons_succ]; rfl
                   · exact Loc.const _ _))
              refine mix_ld LX ?_ (fun w => Chg.refl _ w) (fun _ => by rfl) 45 _ rfl bi (oi + i * 29) (fun _ => by rfl) _ (fun w1 hR => rangeAt_same Hxr.out hR) Tryz.underlying45 rfl (by rw [Hlx.out]; exact infoDeed) ?_ ?_
              rotate_left
              · intro e; simp only [Act.put, List.setIfInBounds_toArray, List.set_cons_zero, List.set_cons_succ]; rfl
              iterate 2 (
                  (refine mix_lit ?_ ?_ (fun w => Chg.refl _ w) ?_ ?_ ?_ ?_
                   rotate_left; rotate_left
                   · intro e w1 hR hF K hK; (have hcp1 := Hcp.out _ hR); go_simp; (first | (refine hK _ _ (Chg.refl _ _) ?_; rfl) | (go_at_call 30; (with_reducible refine (Hik.out _ (Same.trans Hsm.out hR)).mono ?_); rintro _ w2 ⟨rfl, hs⟩; refine hK _ _ hs ?_; rfl) | (go_at_call 32; (with_reducible refine (HB.out _).mono ?_); rintro _ w2 ⟨rfl, hs⟩; refine hK _ _ hs ?_; rfl))
                   · intro e; simp only [Act.put, List.setIfInBounds_toArray, List.set_cons_zero, List.set_cons_succ]; rfl
                   · exact Loc.const _ _))
              refine mix_nil fun e w1 hR hF => hFin _ _ ?_
              simp only [List.drop_succ_cons, List.drop_zero]
              have HSm := hide (Same.trans Hsm.out hR)
              clear hF hR
              go_wp2_with fail
              go_ret
              exact ⟨by rw [HV.out, holds_not Hil.out (by rw [Hlf.out]; simp [h0, hki])]; rfl, HSm.out⟩
          · go_wp2_with fail
            refine wp_region_mixS 28 (by kernel_rfl) (by kernel_rfl) fun Fin hFin => ?_
            simp only [List.take_succ_cons, List.take_zero]
            iterate 28 (
                (refine mix_lit ?_ ?_ (fun w => Chg.refl _ w) ?_ ?_ ?_ ?_
                 rotate_left; rotate_left
                 · intro e w1 hR hF K hK; (have hcp1 := Hcp.out _ hR); go_simp; (first | (refine hK _ _ (Chg.refl _ _) ?_; rfl) | (go_at_call 30; (with_reducible refine (Hik.out _ (Same.trans Hsm.out hR)).mono ?_); rintro _ w2 ⟨rfl, hs⟩; refine hK _ _ hs ?_; rfl) | (go_at_call 32; (with_reducible refine (HB.out _).mono ?_); rintro _ w2 ⟨rfl, hs⟩; refine hK _ _ hs ?_; rfl))
                 · intro e; simp only [Act.put, List.setIfInBounds_toArray, List.set_cons_zero, List.set_cons_succ]; rfl
                 · exact Loc.const _ _))
            refine mix_nil fun e w1 hR hF => hFin _ _ ?_
            simp only [List.drop_succ_cons, List.drop_zero]
            have HSm := hide (Same.trans Hsm.out hR)
            clear hF hR
            go_wp2_with fail
            go_roundg (n - (k + 1))
            case measure => have := Hk.out; omega
            case rel => exact ⟨k + 1, by omega, rfl, by go_num, HSm.out, upto_step Hall.out (by rw [Hlf.out]; simp)⟩
        · have d0 : decide (0 ≤ rp) = false := decide_eq_false h0
          have H0 := hide h0
          go_wp2_with fail
          refine wp_region_mixS 28 (by kernel_rfl) (by kernel_rfl) fun Fin hFin => ?_
          simp only [List.take_succ_cons, List.take_zero]
          iterate 28 (
              (refine mix_lit ?_ ?_ (fun w => Chg.refl _ w) ?_ ?_ ?_ ?_
               rotate_left; rotate_left
               · intro e w1 hR hF K hK; (have hcp1 := Hcp.out _ hR); go_simp; (first | (refine hK _ _ (Chg.refl _ _) ?_; rfl) | (go_at_call 30; (with_reducible refine (Hik.out _ (Same.trans Hsm.out hR)).mono ?_); rintro _ w2 ⟨rfl, hs⟩; refine hK _ _ hs ?_; rfl) | (go_at_call 32; (with_reducible refine (HB.out _).mono ?_); rintro _ w2 ⟨rfl, hs⟩; refine hK _ _ hs ?_; rfl))
               · intro e; simp only [Act.put, List.setIfInBounds_toArray, List.set_cons_zero, List.set_cons_succ]; rfl
               · exact Loc.const _ _))
          refine mix_nil fun e w1 hR hF => hFin _ _ ?_
          simp only [List.drop_succ_cons, List.drop_zero]
          have HSm := hide (Same.trans Hsm.out hR)
          clear hF hR
          go_wp2_with fail
          go_roundg (n - (k + 1))
          case measure => have := Hk.out; omega
          case rel => exact ⟨k + 1, by omega, rfl, by go_num, HSm.out, upto_step Hall.out (by rw [Hlf.out]; simp; intro _ h; exact absurd h (by have := H0.out; omega))⟩
    · go_wp2_with fail
      go_ret
      have hie : n = k := by omega
      subst hie
      exact ⟨by rw [HV.out, holds_all Hn.out Hall.out]; rfl, Hsm.out⟩
end Go.Proofs.YtenkdjfikppkdaaGreat
