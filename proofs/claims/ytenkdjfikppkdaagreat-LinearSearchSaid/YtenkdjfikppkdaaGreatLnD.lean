/-
  linear.free: may an operation be the next one. Condition: at most 1048576 operations.
-/
import Derived.Test.YtenkdjfikppkdaaGreatLnC
namespace Go.Proofs.YtenkdjfikppkdaaGreat
open Go.RowKit Go.Al
set_option linter.unusedVariables false

set_option maxRecDepth 100000 in
set_option maxHeartbeats 16000000 in
theorem free_any {A B : Option Addr} {c c2 : Nat} {l : List Dd} {done : List Int} {i : Nat} (w : World) (h : Dds w A l) (hd : Rd w B (is done)) (hl : l.length ≤ 1048576) (hdl : done.length ≤ maxLen) (hi : i < l.length) (hc : l.length ≤ c) :
    Calls Tryz.prog 20 #[.slice A l.length c, .int .i64 i, .slice B done.length c2] w fun e w' => e = .returned (.bool (freeB l done i)) ∧ Same w w' := by
  have H := hide h
  have HC := hide (fun (j : Nat) w' (hs : Same w w') => contains_any (c := c2) done (j : Int) w' (hd.same hs) hdl)
  obtain ⟨bi, oi, rfl, hbi, hri, hpi⟩ := h.at_ hi
  have Hri := hide hri
  have Hbi := hide hbi
  obtain ⟨x, hx⟩ : ∃ x, l[i] = x := ⟨_, rfl⟩
  rw [hx] at Hri
  have hfr : freeB l done i = (canD x && (!hasI done i && (List.range l.length).all fun k => !holdsB l done i x k)) := by rw [← hx]; exact opt_any hi _
  have Hlx := hide (ddL_length x)
  have HCan := hide (can_any x)
  have HBf := hide (fun d => before_any d x)
  obtain ⟨n, hn⟩ : ∃ n, l.length = n := ⟨_, rfl⟩
  obtain ⟨m, hm⟩ : ∃ m, done.length = m := ⟨_, rfl⟩
  rw [hn] at hl hc hi ⊢
  rw [hm] at HC ⊢
  have Hn := hide hn
  obtain ⟨v, hv⟩ : ∃ v, freeB l done i = v := ⟨_, rfl⟩
  rw [hv]
  rw [hv] at hfr
  have HV := hide hfr
  obtain ⟨ca, hca⟩ : ∃ ca, canD x = ca := ⟨_, rfl⟩
  rw [hca] at HCan HV
  obtain ⟨hai, hhai⟩ : ∃ ha, hasI done i = ha := ⟨_, rfl⟩
  have hin := HC.out i
  rw [hhai] at hin HV
  have Hin := hide hin
  clear h hd hdl hn hm hv hfr hri hbi hpi hx hca hhai hin
  unfold ddV at HCan HBf
  obtain ⟨LX, hLX⟩ : ∃ LX, ddL x = LX := ⟨_, rfl⟩
  rw [hLX] at Hri Hlx HCan
  have HBf2 := hide (fun d w => by have := HBf.out d w; rw [hLX] at this; exact this)
  clear HBf hLX
  go_enter Tryz.func20, Tryz.ntmps20
  cases ca
  · go_wp2_with (first
      | (refine wpList_ld (by rfl) 45 _ rfl bi (oi + i * 29) rfl LX _ Hri.out Tryz.underlying45 rfl (by rw [Hlx.out]; exact infoDeed) ?_)
      | (go_at_call 26; have hF := HCan.out; refine (hF _).mono ?_; rintro e w1 ⟨rfl, hs⟩; have Hs1 : Hid (Same w w1) := hide hs; clear hs hF)
      | (go_at_call 36; have hF := Hin.out _ Hs1.out; refine hF.mono ?_; rintro e w2 ⟨rfl, rfl⟩; clear hF))
    go_ret
    exact ⟨by rw [HV.out]; rfl, Hs1.out⟩
  cases hai
  case true =>
    go_wp2_with (first
      | (refine wpList_ld (by rfl) 45 _ rfl bi (oi + i * 29) rfl LX _ Hri.out Tryz.underlying45 rfl (by rw [Hlx.out]; exact infoDeed) ?_)
      | (go_at_call 26; have hF := HCan.out; refine (hF _).mono ?_; rintro e w1 ⟨rfl, hs⟩; have Hs1 : Hid (Same w w1) := hide hs; clear hs hF)
      | (go_at_call 36; have hF := Hin.out _ Hs1.out; refine hF.mono ?_; rintro e w2 ⟨rfl, rfl⟩; clear hF))
    go_ret
    exact ⟨by rw [HV.out]; rfl, Hs1.out⟩
  go_wp2_with (first
    | (refine wpList_ld (by rfl) 45 _ rfl bi (oi + i * 29) rfl LX _ Hri.out Tryz.underlying45 rfl (by rw [Hlx.out]; exact infoDeed) ?_)
    | (go_at_call 26; have hF := HCan.out; refine (hF _).mono ?_; rintro e w1 ⟨rfl, hs⟩; have Hs1 : Hid (Same w w1) := hide hs; clear hs hF)
    | (go_at_call 36; have hF := Hin.out _ Hs1.out; refine hF.mono ?_; rintro e w2 ⟨rfl, rfl⟩; clear hF))
  go_loopg [7, 8, 22] n (fun kk u1 u2 vi wr => ∃ k : Nat, k ≤ n ∧ kk = n - k ∧ vi = .int .i64 k ∧ Same w wr ∧ ∀ j, j < k → holdsB l done i x j = false)
  case atStart => exact ⟨0, Nat.zero_le _, rfl, rfl, Hs1.out, fun j hj => by omega⟩
  case round =>
    obtain ⟨k, hk0, hkk, rfl, hsm, hall⟩ := hrel
    have Hk := hide hkk
    have Hsm := hide hsm
    have Hall := hide hall
    clear hkk hsm hall Hs1
    by_cases hlt : k < n
    · have hil : k < l.length := by rw [Hn.out]; exact hlt
      obtain ⟨b, off, hAA, hbl, hra, hrp⟩ := (H.out.same Hsm.out).at_ hil
      obtain ⟨rfl, rfl⟩ : bi = b ∧ oi = off := by cases hAA; exact ⟨rfl, rfl⟩
      have Hra := hide hra
      have hlf : holdsB l done i x k = (decide (k ≠ i) && (mustD l[k] && (!hasI done k && beforeD l[k] x))) := by unfold holdsB; rw [opt_any hil]
      obtain ⟨d, hdd⟩ : ∃ d, l[k] = d := ⟨_, rfl⟩
      rw [hdd] at Hra hlf
      have Hlf := hide hlf
      have HM := hide (must_any d)
      have HB := hide (HBf2.out d)
      have Hll := hide (ddL_length d)
      have Hon := hide (one_ddL d)
      have Hbd := hide (blk_deed wr 45 d)
      have HsW : Hid (Same w (wr.alloc (.cells (ddL d).toArray 45))) := hide (Chg.alloc Hsm.out _)
      have Hxr := hide (rangeAt_same Hri.out HsW.out)
      unfold ddV at HM
      obtain ⟨mu, hmu⟩ : ∃ mu, mustD d = mu := ⟨_, rfl⟩
      rw [hmu] at HM Hlf
      clear hra hrp hlf hdd hmu hAA
      have hin := HC.out k
      obtain ⟨ha, hha⟩ : ∃ ha, hasI done k = ha := ⟨_, rfl⟩
      rw [hha] at hin Hlf
      have Hik := hide hin
      obtain ⟨bf, hbf⟩ : ∃ bf, beforeD d x = bf := ⟨_, rfl⟩
      rw [hbf] at HB Hlf
      clear hin hha hbf
      generalize ddL d = L at *
      by_cases hki : k = i
      · obtain rfl := hki
        go_wp2_with (first
          | (refine wpList_ld (by rfl) 45 _ rfl bi (oi + k * 29) rfl L _ Hra.out Tryz.underlying45 rfl (by rw [Hll.out]; exact infoDeed) ?_)
          | (refine wpList_st (by rfl) 45 _ _ rfl rfl L rfl _ _ (by rw [Hll.out]; exact infoDeed) (by rw [Hll.out]; rfl) Hon.out ?_))
        refine wp_region_quiet_same (by kernel_rfl) (by kernel_rfl) ?_
        repeat (first
          | refine wpQuiet_ld (by rfl) 45 _ rfl wr.heap.size 0 rfl L _ (fun w' hw' => by obtain ⟨p, rfl⟩ := hw'; exact rangeAt_same Hbd.out p.h) Tryz.underlying45 rfl (by rw [Hll.out]; exact infoDeed) ?_
          | refine wpQuiet_ld (by rfl) 45 _ rfl bi (oi + k * 29) rfl LX _ (fun w' hw' => by obtain ⟨p, rfl⟩ := hw'; exact rangeAt_same Hxr.out p.h) Tryz.underlying45 rfl (by rw [Hlx.out]; exact infoDeed) ?_
          | quiet_step (first | (go_at_call 29; exact quiet_sameW (HM.out _)) | (go_at_call 36; exact quiet_sameW_eq (Hik.out _ (Same.trans HsW.out (SameW.h _)))) | (go_at_call 37; exact quiet_sameW (HB.out _))))
        refine wpQuiet_nil ?_
        rintro _ ⟨pq, rfl⟩
        go_wp2_with fail
        go_roundg (n - (k + 1))
        case measure => have := Hk.out; omega
        case rel =>
          refine ⟨k + 1, by omega, rfl, by go_num, Same.trans HsW.out pq.h, fun j hj => ?_⟩
          by_cases hji : j < k
          · exact Hall.out j hji
          · obtain rfl : j = k := by omega
            rw [Hlf.out]; simp
      · have hb1 : ((k : Int) != (i : Int)) = true := bne_iff_ne.2 (fun e => hki (by omega))
        have hb2 : (k != i) = true := bne_iff_ne.2 hki
        cases mu
        · go_wp2_with (first
            | (refine wpList_ld (by rfl) 45 _ rfl bi (oi + k * 29) rfl L _ Hra.out Tryz.underlying45 rfl (by rw [Hll.out]; exact infoDeed) ?_)
            | (refine wpList_st (by rfl) 45 _ _ rfl rfl L rfl _ _ (by rw [Hll.out]; exact infoDeed) (by rw [Hll.out]; rfl) Hon.out ?_))
          refine wp_region_quiet_same (by kernel_rfl) (by kernel_rfl) ?_
          repeat (first
            | refine wpQuiet_ld (by rfl) 45 _ rfl wr.heap.size 0 rfl L _ (fun w' hw' => by obtain ⟨p, rfl⟩ := hw'; exact rangeAt_same Hbd.out p.h) Tryz.underlying45 rfl (by rw [Hll.out]; exact infoDeed) ?_
            | refine wpQuiet_ld (by rfl) 45 _ rfl bi (oi + i * 29) rfl LX _ (fun w' hw' => by obtain ⟨p, rfl⟩ := hw'; exact rangeAt_same Hxr.out p.h) Tryz.underlying45 rfl (by rw [Hlx.out]; exact infoDeed) ?_
            | quiet_step (first | (go_at_call 29; exact quiet_sameW (HM.out _)) | (go_at_call 36; exact quiet_sameW_eq (Hik.out _ (Same.trans HsW.out (SameW.h _)))) | (go_at_call 37; exact quiet_sameW (HB.out _))))
          refine wpQuiet_nil ?_
          rintro _ ⟨pq, rfl⟩
          go_wp2_with fail
          go_roundg (n - (k + 1))
          case measure => have := Hk.out; omega
          case rel =>
            refine ⟨k + 1, by omega, rfl, by go_num, Same.trans HsW.out pq.h, fun j hj => ?_⟩
            by_cases hji : j < k
            · exact Hall.out j hji
            · obtain rfl : j = k := by omega
              rw [Hlf.out]; simp
        · cases ha
          · cases bf
            · go_wp2_with (first
                | (refine wpList_ld (by rfl) 45 _ rfl bi (oi + k * 29) rfl L _ Hra.out Tryz.underlying45 rfl (by rw [Hll.out]; exact infoDeed) ?_)
                | (refine wpList_st (by rfl) 45 _ _ rfl rfl L rfl _ _ (by rw [Hll.out]; exact infoDeed) (by rw [Hll.out]; rfl) Hon.out ?_))
              refine wp_region_quiet_same (by kernel_rfl) (by kernel_rfl) ?_
              repeat (first
                | refine wpQuiet_ld (by rfl) 45 _ rfl wr.heap.size 0 rfl L _ (fun w' hw' => by obtain ⟨p, rfl⟩ := hw'; exact rangeAt_same Hbd.out p.h) Tryz.underlying45 rfl (by rw [Hll.out]; exact infoDeed) ?_
                | refine wpQuiet_ld (by rfl) 45 _ rfl bi (oi + i * 29) rfl LX _ (fun w' hw' => by obtain ⟨p, rfl⟩ := hw'; exact rangeAt_same Hxr.out p.h) Tryz.underlying45 rfl (by rw [Hlx.out]; exact infoDeed) ?_
                | quiet_step (first | (go_at_call 29; exact quiet_sameW (HM.out _)) | (go_at_call 36; exact quiet_sameW_eq (Hik.out _ (Same.trans HsW.out (SameW.h _)))) | (go_at_call 37; exact quiet_sameW (HB.out _))))
              refine wpQuiet_nil ?_
              rintro _ ⟨pq, rfl⟩
              go_wp2_with fail
              go_roundg (n - (k + 1))
              case measure => have := Hk.out; omega
              case rel =>
                refine ⟨k + 1, by omega, rfl, by go_num, Same.trans HsW.out pq.h, fun j hj => ?_⟩
                by_cases hji : j < k
                · exact Hall.out j hji
                · obtain rfl : j = k := by omega
                  rw [Hlf.out]; simp
            · go_wp2_with (first
                | (refine wpList_ld (by rfl) 45 _ rfl bi (oi + k * 29) rfl L _ Hra.out Tryz.underlying45 rfl (by rw [Hll.out]; exact infoDeed) ?_)
                | (refine wpList_st (by rfl) 45 _ _ rfl rfl L rfl _ _ (by rw [Hll.out]; exact infoDeed) (by rw [Hll.out]; rfl) Hon.out ?_))
              refine wp_region_quiet_same (by kernel_rfl) (by kernel_rfl) ?_
              repeat (first
                | refine wpQuiet_ld (by rfl) 45 _ rfl wr.heap.size 0 rfl L _ (fun w' hw' => by obtain ⟨p, rfl⟩ := hw'; exact rangeAt_same Hbd.out p.h) Tryz.underlying45 rfl (by rw [Hll.out]; exact infoDeed) ?_
                | refine wpQuiet_ld (by rfl) 45 _ rfl bi (oi + i * 29) rfl LX _ (fun w' hw' => by obtain ⟨p, rfl⟩ := hw'; exact rangeAt_same Hxr.out p.h) Tryz.underlying45 rfl (by rw [Hlx.out]; exact infoDeed) ?_
                | quiet_step (first | (go_at_call 29; exact quiet_sameW (HM.out _)) | (go_at_call 36; exact quiet_sameW_eq (Hik.out _ (Same.trans HsW.out (SameW.h _)))) | (go_at_call 37; exact quiet_sameW (HB.out _))))
              refine wpQuiet_nil ?_
              rintro _ ⟨pq, rfl⟩
              go_wp2_with fail
              go_ret
              refine ⟨?_, Same.trans HsW.out pq.h⟩
              rw [HV.out]
              have : ((List.range l.length).all fun k => !holdsB l done i x k) = false := by
                rw [List.all_eq_false]
                exact ⟨k, List.mem_range.2 hil, by rw [Hlf.out]; simp [hki]⟩
              rw [this]; rfl
          · go_wp2_with (first
              | (refine wpList_ld (by rfl) 45 _ rfl bi (oi + k * 29) rfl L _ Hra.out Tryz.underlying45 rfl (by rw [Hll.out]; exact infoDeed) ?_)
              | (refine wpList_st (by rfl) 45 _ _ rfl rfl L rfl _ _ (by rw [Hll.out]; exact infoDeed) (by rw [Hll.out]; rfl) Hon.out ?_))
            refine wp_region_quiet_same (by kernel_rfl) (by kernel_rfl) ?_
            repeat (first
              | refine wpQuiet_ld (by rfl) 45 _ rfl wr.heap.size 0 rfl L _ (fun w' hw' => by obtain ⟨p, rfl⟩ := hw'; exact rangeAt_same Hbd.out p.h) Tryz.underlying45 rfl (by rw [Hll.out]; exact infoDeed) ?_
              | refine wpQuiet_ld (by rfl) 45 _ rfl bi (oi + i * 29) rfl LX _ (fun w' hw' => by obtain ⟨p, rfl⟩ := hw'; exact rangeAt_same Hxr.out p.h) Tryz.underlying45 rfl (by rw [Hlx.out]; exact infoDeed) ?_
              | quiet_step (first | (go_at_call 29; exact quiet_sameW (HM.out _)) | (go_at_call 36; exact quiet_sameW_eq (Hik.out _ (Same.trans HsW.out (SameW.h _)))) | (go_at_call 37; exact quiet_sameW (HB.out _))))
            refine wpQuiet_nil ?_
            rintro _ ⟨pq, rfl⟩
            go_wp2_with fail
            go_roundg (n - (k + 1))
            case measure => have := Hk.out; omega
            case rel =>
              refine ⟨k + 1, by omega, rfl, by go_num, Same.trans HsW.out pq.h, fun j hj => ?_⟩
              by_cases hji : j < k
              · exact Hall.out j hji
              · obtain rfl : j = k := by omega
                rw [Hlf.out]; simp
    · go_wp2_with fail
      go_ret
      refine ⟨?_, Hsm.out⟩
      rw [HV.out]
      have : ((List.range l.length).all fun k => !holdsB l done i x k) = true := by
        rw [List.all_eq_true]
        intro j hj
        rw [Hall.out j (by have := List.mem_range.1 hj; rw [Hn.out] at this; omega)]; rfl
      rw [this]; rfl
end Go.Proofs.YtenkdjfikppkdaaGreat
