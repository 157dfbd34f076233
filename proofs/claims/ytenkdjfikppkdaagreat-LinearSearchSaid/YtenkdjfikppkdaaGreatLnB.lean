/-
  linear.can: which operations can have happened. No conditions.
-/
import Derived.Test.YtenkdjfikppkdaaGreatLnA
namespace Go.Proofs.YtenkdjfikppkdaaGreat
open Go.RowKit Go.Al
set_option linter.unusedVariables false

set_option maxRecDepth 100000 in
set_option maxHeartbeats 8000000 in
theorem can_any (d : Dd) (w : World) :
    Calls Tryz.prog 26 #[ddV d] w fun e w' => e = .returned (.bool (canD d)) ∧ Same w w' := by
  have h0 : (ddL d)[0]? = some (.int .i64 d.iv) := rfl
  have h2 : (ddL d)[2]? = some (.int .i64 d.rp) := rfl
  have h4 : (ddL d)[4]? = some (.int .i64 d.rf) := rfl
  have h6 : (ddL d)[6]? = some (.int .i64 d.r.k) := rfl
  have hr := rangeAt_blk [.int .i64 d.iv, .int .i64 d.tk, .int .i64 d.rp, .int .i64 d.ab, .int .i64 d.rf, .int .i64 d.ss] (rqL d.r) (rpL d.t) (Blk.new w 45 (ddL d).toArray)
  have hd := blk_deed w 45 d
  have Hs := hide ((Chg.refl (fun _ => False) w).alloc (.cells (ddL d).toArray 45))
  have HM := hide (must_any d)
  have HG := hide (Good_req d.r)
  have Hl := hide (ddL_length d)
  have Hlr := hide (rqL_length d.r)
  simp only [List.length_cons, List.length_nil] at hr
  obtain ⟨m, hm⟩ : ∃ m, mustD d = m := ⟨_, rfl⟩
  obtain ⟨g, hg⟩ : ∃ g, goodR d.r = g := ⟨_, rfl⟩
  obtain ⟨v, hv⟩ : ∃ v, canD d = v := ⟨_, rfl⟩
  rw [hm] at HM
  rw [hg] at HG
  rw [hv]
  have hmr : m = decide (0 ≤ d.rp) := by rw [← hm]; rfl
  unfold canD at hv
  rw [hm, hg] at hv
  have HV := hide hv
  have Hr := hide hr
  have Hd := hide hd
  have Hmr := hide hmr
  clear hm hg hv hr hd hmr
  unfold ddV at HM ⊢
  unfold rqV at HG
  obtain ⟨iv, hiv⟩ : ∃ x, d.iv = x := ⟨_, rfl⟩
  obtain ⟨rp, hrp⟩ : ∃ x, d.rp = x := ⟨_, rfl⟩
  obtain ⟨rf, hrf⟩ : ∃ x, d.rf = x := ⟨_, rfl⟩
  obtain ⟨k, hk⟩ : ∃ x, d.r.k = x := ⟨_, rfl⟩
  rw [hiv] at h0 HV
  rw [hrp] at h2 Hmr
  rw [hrf] at h4 HV
  rw [hk] at h6 HV
  clear hiv hrp hrf hk
  generalize rqL d.r = R at *
  generalize ddL d = L at *
  cases m
  · have hrp0 : rp < 0 := by
      rcases Int.lt_or_le rp 0 with h | h
      · exact h
      · have := Hmr.out; rw [decide_eq_true h] at this; cases this
    clear Hmr
    have d2 : decide (rp < 0) = true := decide_eq_true hrp0
    by_cases i0 : 0 ≤ iv
    · have d0 : decide (0 ≤ iv) = true := decide_eq_true i0
      by_cases f0 : rf < 0
      · have d4 : decide (rf < 0) = true := decide_eq_true f0
        by_cases k1 : k = 1
        · subst k1
          go_enter Tryz.func26, Tryz.ntmps26
          go_wp2_with (first
            | (refine wpList_ld (by rfl) 45 _ rfl w.heap.size 0 rfl L _ Hd.out Tryz.underlying45 rfl (by rw [Hl.out]; exact infoDeed) ?_)
            | (go_at_call 29; have hF := HM.out; refine (hF _).mono ?_; rintro e w2 ⟨rfl, hs⟩; have Hs2 : Hid (Same w w2) := hide (Hs.out.same hs); have hk6 := rangeAt_same (Hd.out) hs 6 _ h6; have Hr2 := hide (rangeAt_same Hr.out hs); clear hs hF)
            | (refine wpList_ld (by rfl) 37 _ rfl w.heap.size 6 rfl R _ Hr2.out Tryz.underlying37 rfl (by rw [Hlr.out]; exact infoReq) ?_)
            | (go_at_call 43; have hF := HG.out; refine (hF _).mono ?_; rintro e w3 ⟨rfl, hs⟩; have Hs3 : Hid (Same w w3) := hide (Hs2.out.same hs); clear hs hF))
          go_ret
          exact ⟨by rw [← HV.out]; simp [i0, f0], Hs3.out⟩
        · have dk : (k == 1) = false := beq_eq_false_iff_ne.2 k1
          go_enter Tryz.func26, Tryz.ntmps26
          go_wp2_with (first
            | (refine wpList_ld (by rfl) 45 _ rfl w.heap.size 0 rfl L _ Hd.out Tryz.underlying45 rfl (by rw [Hl.out]; exact infoDeed) ?_)
            | (go_at_call 29; have hF := HM.out; refine (hF _).mono ?_; rintro e w2 ⟨rfl, hs⟩; have Hs2 : Hid (Same w w2) := hide (Hs.out.same hs); have hk6 := rangeAt_same (Hd.out) hs 6 _ h6; have Hr2 := hide (rangeAt_same Hr.out hs); clear hs hF)
            | (refine wpList_ld (by rfl) 37 _ rfl w.heap.size 6 rfl R _ Hr2.out Tryz.underlying37 rfl (by rw [Hlr.out]; exact infoReq) ?_)
            | (go_at_call 43; have hF := HG.out; refine (hF _).mono ?_; rintro e w3 ⟨rfl, hs⟩; have Hs3 : Hid (Same w w3) := hide (Hs2.out.same hs); clear hs hF))
          go_ret
          exact ⟨by rw [← HV.out]; simp [k1], Hs2.out⟩
      · have d4 : decide (rf < 0) = false := decide_eq_false f0
        go_enter Tryz.func26, Tryz.ntmps26
        go_wp2_with (first
          | (refine wpList_ld (by rfl) 45 _ rfl w.heap.size 0 rfl L _ Hd.out Tryz.underlying45 rfl (by rw [Hl.out]; exact infoDeed) ?_)
          | (go_at_call 29; have hF := HM.out; refine (hF _).mono ?_; rintro e w2 ⟨rfl, hs⟩; have Hs2 : Hid (Same w w2) := hide (Hs.out.same hs); have hk6 := rangeAt_same (Hd.out) hs 6 _ h6; have Hr2 := hide (rangeAt_same Hr.out hs); clear hs hF)
          | (refine wpList_ld (by rfl) 37 _ rfl w.heap.size 6 rfl R _ Hr2.out Tryz.underlying37 rfl (by rw [Hlr.out]; exact infoReq) ?_)
          | (go_at_call 43; have hF := HG.out; refine (hF _).mono ?_; rintro e w3 ⟨rfl, hs⟩; have Hs3 : Hid (Same w w3) := hide (Hs2.out.same hs); clear hs hF))
        go_ret
        exact ⟨by rw [← HV.out]; rw [d4]; simp, Hs2.out⟩
    · have d0 : decide (0 ≤ iv) = false := decide_eq_false i0
      go_enter Tryz.func26, Tryz.ntmps26
      go_wp2_with (first
        | (refine wpList_ld (by rfl) 45 _ rfl w.heap.size 0 rfl L _ Hd.out Tryz.underlying45 rfl (by rw [Hl.out]; exact infoDeed) ?_)
        | (go_at_call 29; have hF := HM.out; refine (hF _).mono ?_; rintro e w2 ⟨rfl, hs⟩; have Hs2 : Hid (Same w w2) := hide (Hs.out.same hs); have hk6 := rangeAt_same (Hd.out) hs 6 _ h6; have Hr2 := hide (rangeAt_same Hr.out hs); clear hs hF)
        | (refine wpList_ld (by rfl) 37 _ rfl w.heap.size 6 rfl R _ Hr2.out Tryz.underlying37 rfl (by rw [Hlr.out]; exact infoReq) ?_)
        | (go_at_call 43; have hF := HG.out; refine (hF _).mono ?_; rintro e w3 ⟨rfl, hs⟩; have Hs3 : Hid (Same w w3) := hide (Hs2.out.same hs); clear hs hF))
      go_ret
      exact ⟨by rw [← HV.out]; rw [d0]; simp, Hs2.out⟩
  · have hrp0 : 0 ≤ rp := by
      rcases Int.lt_or_le rp 0 with h | h
      · have := Hmr.out; rw [decide_eq_false (by omega)] at this; cases this
      · exact h
    clear Hmr
    have d2 : decide (rp < 0) = false := decide_eq_false (by omega)
    by_cases i0 : 0 ≤ iv
    · have d0 : decide (0 ≤ iv) = true := decide_eq_true i0
      go_enter Tryz.func26, Tryz.ntmps26
      go_wp2_with (first
        | (refine wpList_ld (by rfl) 45 _ rfl w.heap.size 0 rfl L _ Hd.out Tryz.underlying45 rfl (by rw [Hl.out]; exact infoDeed) ?_)
        | (go_at_call 29; have hF := HM.out; refine (hF _).mono ?_; rintro e w2 ⟨rfl, hs⟩; have Hs2 : Hid (Same w w2) := hide (Hs.out.same hs); have hk6 := rangeAt_same (Hd.out) hs 6 _ h6; have Hr2 := hide (rangeAt_same Hr.out hs); clear hs hF)
        | (refine wpList_ld (by rfl) 37 _ rfl w.heap.size 6 rfl R _ Hr2.out Tryz.underlying37 rfl (by rw [Hlr.out]; exact infoReq) ?_)
        | (go_at_call 43; have hF := HG.out; refine (hF _).mono ?_; rintro e w3 ⟨rfl, hs⟩; have Hs3 : Hid (Same w w3) := hide (Hs2.out.same hs); clear hs hF))
      go_ret
      exact ⟨by rw [← HV.out]; simp, Hs2.out⟩
    · have d0 : decide (0 ≤ iv) = false := decide_eq_false i0
      go_enter Tryz.func26, Tryz.ntmps26
      go_wp2_with (first
        | (refine wpList_ld (by rfl) 45 _ rfl w.heap.size 0 rfl L _ Hd.out Tryz.underlying45 rfl (by rw [Hl.out]; exact infoDeed) ?_)
        | (go_at_call 29; have hF := HM.out; refine (hF _).mono ?_; rintro e w2 ⟨rfl, hs⟩; have Hs2 : Hid (Same w w2) := hide (Hs.out.same hs); have hk6 := rangeAt_same (Hd.out) hs 6 _ h6; have Hr2 := hide (rangeAt_same Hr.out hs); clear hs hF)
        | (refine wpList_ld (by rfl) 37 _ rfl w.heap.size 6 rfl R _ Hr2.out Tryz.underlying37 rfl (by rw [Hlr.out]; exact infoReq) ?_)
        | (go_at_call 43; have hF := HG.out; refine (hF _).mono ?_; rintro e w3 ⟨rfl, hs⟩; have Hs3 : Hid (Same w w3) := hide (Hs2.out.same hs); clear hs hF))
      go_ret
      exact ⟨by rw [← HV.out]; simp, Hs2.out⟩
end Go.Proofs.YtenkdjfikppkdaaGreat
