/-
  Which requests are good: codec.good, codec.Good. No conditions.
-/
import Derived.Test.YtlodanjpkjfjiaaGreatDoorScP
import Derived.Test.YtlodanjpkjfjiaaGreatDoorQs
namespace Go.Proofs.YtlodanjpkjfjiaaGreatDoor
open Go.RowKit Go.Al
set_option linter.unusedVariables false

set_option maxRecDepth 100000 in
set_option maxHeartbeats 4000000 in
theorem good_req (r : Rq) (w : World) :
    Calls Tryz.prog 66 #[rqV r] w fun e w' => e = .returned (.bool (goodR r)) ∧ Same w w' := by
  have Hs := hide ((Chg.refl (fun _ => False) w).alloc (.cells (rqL r).toArray 35))
  obtain ⟨v, hv⟩ : ∃ v, goodR r = v := ⟨_, rfl⟩
  rw [hv]
  unfold goodR at hv
  have HV := hide hv
  clear hv
  obtain ⟨k, ⟨ck, ⟨p1, p2, p3⟩, ⟨s1, s2, s3⟩⟩, ⟨qk, a, b, c, d, e, f, g, x, h⟩⟩ := r
  unfold rqV
  simp only [rqL, cgL, qL, List.cons_append, List.nil_append] at Hs HV ⊢
  by_cases k1 : k = 1
  · subst k1
    by_cases c1 : 1 ≤ ck
    · by_cases c4 : ck ≤ 4
      · go_enter Tryz.func66, Tryz.ntmps66
        go_wp2_with fail
        go_ret
        exact ⟨by rw [← HV.out]; first | (simp [*]; done) | (simp; omega) | omega, Hs.out⟩
      · go_enter Tryz.func66, Tryz.ntmps66
        go_wp2_with fail
        go_ret
        exact ⟨by rw [← HV.out]; first | (simp [*]; done) | (simp; omega) | omega, Hs.out⟩
    · go_enter Tryz.func66, Tryz.ntmps66
      go_wp2_with fail
      go_ret
      exact ⟨by rw [← HV.out]; first | (simp [*]; done) | (simp; omega) | omega, Hs.out⟩
  · by_cases k2 : k = 2
    · subst k2
      by_cases c1 : 1 ≤ qk
      · by_cases c7 : qk ≤ 7
        · go_enter Tryz.func66, Tryz.ntmps66
          go_wp2_with fail
          go_ret
          exact ⟨by rw [← HV.out]; first | (simp [*]; done) | (simp; omega) | omega, Hs.out⟩
        · go_enter Tryz.func66, Tryz.ntmps66
          go_wp2_with fail
          go_ret
          exact ⟨by rw [← HV.out]; first | (simp [*]; done) | (simp; omega) | omega, Hs.out⟩
      · go_enter Tryz.func66, Tryz.ntmps66
        go_wp2_with fail
        go_ret
        exact ⟨by rw [← HV.out]; first | (simp [*]; done) | (simp; omega) | omega, Hs.out⟩
    · go_enter Tryz.func66, Tryz.ntmps66
      go_wp2_with fail
      go_ret
      exact ⟨by rw [← HV.out]; first | (simp [*]; done) | (simp; omega) | omega, Hs.out⟩
set_option maxRecDepth 100000 in
set_option maxHeartbeats 1000000 in
theorem Good_req (r : Rq) (w : World) :
    Calls Tryz.prog 47 #[rqV r] w fun e w' => e = .returned (.bool (goodR r)) ∧ Same w w' := by
  have Hs := hide ((Chg.refl (fun _ => False) w).alloc (.cells (rqL r).toArray 35))
  have HC := hide (good_req r)
  obtain ⟨v, hv⟩ : ∃ v, goodR r = v := ⟨_, rfl⟩
  rw [hv] at HC ⊢
  clear hv
  obtain ⟨k, ⟨ck, ⟨p1, p2, p3⟩, ⟨s1, s2, s3⟩⟩, ⟨qk, a, b, c, d, e, f, g, x, h⟩⟩ := r
  unfold rqV at HC ⊢
  simp only [rqL, cgL, qL, List.cons_append, List.nil_append] at Hs HC ⊢
  go_enter Tryz.func47, Tryz.ntmps47
  go_wp2_with (go_at_call 66; have hF := HC.out; refine (hF _).mono ?_; rintro e w' ⟨rfl, hs⟩; have Hs2 := hide hs; clear hs hF)
  go_ret
  exact ⟨rfl, Hs.out.same Hs2.out⟩
end Go.Proofs.YtlodanjpkjfjiaaGreatDoor
