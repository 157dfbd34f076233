/-
  What a query asks for: box.Has, box.Sees, box.Stabs, box.Overlap, plan.hit, plan.met, plan.points, plan.counts; plan.check. No conditions.
-/
import Derived.Test.YthjnecicagmdeaaGreatQyA
namespace Go.Proofs.YthjnecicagmdeaaGreat
open Go.RowKit Go.Al
set_option linter.unusedVariables false

set_option maxHeartbeats 400000 in
theorem within_any (n lo hi : Int) (w : World) :
    Calls Tryz.prog 130 #[.int .i64 n, .int .i64 lo, .int .i64 hi] w fun e w' => e = .returned (.bool (withinB n lo hi)) ∧ w = w' := by
  unfold withinB
  by_cases h : lo ≤ n
  · rw [decide_eq_true h]
    go_enter Tryz.func130, Tryz.ntmps130
    go_wp2_with fail
    go_ret
    exact ⟨by simp, rfl⟩
  · rw [decide_eq_false h]
    go_enter Tryz.func130, Tryz.ntmps130
    go_wp2_with fail
    go_ret
    exact ⟨by simp, rfl⟩
theorem within_is (n lo hi : Int) (w : World) (v : Bool) (h : withinB n lo hi = v) :
    Calls Tryz.prog 130 #[.int .i64 n, .int .i64 lo, .int .i64 hi] w fun e w' => e = .returned (.bool v) ∧ w = w' := h ▸ within_any n lo hi w
set_option maxHeartbeats 400000 in
theorem has_any (a b c d : Int) (p : P3) (w : World) :
    Calls Tryz.prog 86 #[.agg #[.int .i64 a, .int .i64 b, .int .i64 c, .int .i64 d], agg3 p] w fun e w' => e = .returned (.bool (withinB p.2.1 a b && withinB p.2.2 c d)) ∧ Same w w' := by
  obtain ⟨i, x, y⟩ := p
  unfold agg3
  simp only
  obtain ⟨v, hv⟩ : ∃ v, withinB x a b = v := ⟨_, rfl⟩
  obtain ⟨u, hu⟩ : ∃ u, withinB y c d = u := ⟨_, rfl⟩
  have Hv := hide hv
  have Hu := hide hu
  rw [hv, hu]
  clear hv hu
  have Hs := hide (((Chg.refl (fun _ => False) w).alloc (.cells #[.int .i64 a, .int .i64 b, .int .i64 c, .int .i64 d] 30)).alloc (.cells #[.int .i64 i, .int .i64 x, .int .i64 y] 40))
  cases v
  all_goals
    go_enter Tryz.func86, Tryz.ntmps86
    go_wp2_with (first
      | (go_at_call 130; (with_reducible refine (within_is x a b _ _ Hv.out).mono ?_); rintro e w' ⟨rfl, rfl⟩)
      | (go_at_call 130; (with_reducible refine (within_is y c d _ _ Hu.out).mono ?_); rintro e w' ⟨rfl, rfl⟩))
    go_ret
    exact ⟨by simp, Hs.out⟩
set_option maxHeartbeats 400000 in
theorem sees_any (a b c : Int) (p : P3) (w : World) :
    Calls Tryz.prog 87 #[.agg #[.int .i64 a, .int .i64 b, .int .i64 c], agg3 p] w fun e w' => e = .returned (.bool (withinB p.2.1 a b && decide (c ≤ p.2.2))) ∧ Same w w' := by
  obtain ⟨i, x, y⟩ := p
  unfold agg3
  simp only
  obtain ⟨v, hv⟩ : ∃ v, withinB x a b = v := ⟨_, rfl⟩
  have Hv := hide hv
  rw [hv]
  clear hv
  have Hs := hide (((Chg.refl (fun _ => False) w).alloc (.cells #[.int .i64 a, .int .i64 b, .int .i64 c] 32)).alloc (.cells #[.int .i64 i, .int .i64 x, .int .i64 y] 40))
  cases v
  all_goals
    go_enter Tryz.func87, Tryz.ntmps87
    go_wp2_with (go_at_call 130; refine (within_is _ _ _ _ _ Hv.out).mono ?_; rintro e w' ⟨rfl, rfl⟩)
    go_ret
    exact ⟨by simp, Hs.out⟩
set_option maxHeartbeats 400000 in
theorem stabs_any (s : P3) (x : Int) (w : World) :
    Calls Tryz.prog 88 #[agg3 s, .int .i64 x] w fun e w' => e = .returned (.bool (withinB x s.2.1 s.2.2)) ∧ Same w w' := by
  obtain ⟨i, lo, hi⟩ := s
  unfold agg3
  simp only
  obtain ⟨v, hv⟩ : ∃ v, withinB x lo hi = v := ⟨_, rfl⟩
  have Hv := hide hv
  rw [hv]
  clear hv
  have Hs := hide ((Chg.refl (fun _ => False) w).alloc (.cells #[.int .i64 i, .int .i64 lo, .int .i64 hi] 42))
  go_enter Tryz.func88, Tryz.ntmps88
  go_wp2_with (go_at_call 130; refine (within_is _ _ _ _ _ Hv.out).mono ?_; rintro e w' ⟨rfl, rfl⟩)
  go_ret
  exact ⟨rfl, Hs.out⟩
set_option maxHeartbeats 800000 in
theorem overlap_any (s t : P3) (w : World) :
    Calls Tryz.prog 89 #[agg3 s, agg3 t] w fun e w' => e = .returned (.bool (overB s t)) ∧ Same w w' := by
  obtain ⟨i, lo, hi⟩ := s
  obtain ⟨j, lo2, hi2⟩ := t
  unfold agg3 overB
  simp only
  have Hs := hide (((Chg.refl (fun _ => False) w).alloc (.cells #[.int .i64 i, .int .i64 lo, .int .i64 hi] 42)).alloc (.cells #[.int .i64 j, .int .i64 lo2, .int .i64 hi2] 42))
  by_cases h1 : lo ≤ hi
  · by_cases h2 : lo2 ≤ hi2
    · by_cases h3 : lo ≤ hi2
      · rw [decide_eq_true h1, decide_eq_true h2, decide_eq_true h3]
        go_enter Tryz.func89, Tryz.ntmps89
        go_wp2_with fail
        go_ret
        exact ⟨by simp, Hs.out⟩
      · rw [decide_eq_false h3]
        go_enter Tryz.func89, Tryz.ntmps89
        go_wp2_with fail
        go_ret
        exact ⟨by simp, Hs.out⟩
    · rw [decide_eq_false h2]
      go_enter Tryz.func89, Tryz.ntmps89
      go_wp2_with fail
      go_ret
      exact ⟨by simp, Hs.out⟩
  · rw [decide_eq_false h1]
    go_enter Tryz.func89, Tryz.ntmps89
    go_wp2_with fail
    go_ret
    exact ⟨by simp, Hs.out⟩

set_option maxHeartbeats 400000 in
theorem hit_any (q : Qy) (p : P3) (w : World) :
    Calls Tryz.prog 62 #[qV q, agg3 p] w fun e w' => e = .returned (.bool (hitB q p)) ∧ Same w w' := by
  unfold hitB
  have Hs := hide (((Chg.refl (fun _ => False) w).alloc (.cells (qL q).toArray 34)).alloc (.cells #[.int .i64 p.1, .int .i64 p.2.1, .int .i64 p.2.2] 40))
  obtain ⟨k, a, b, c, d, e, f, g, x, h⟩ := q
  unfold qV
  simp only [qL] at Hs ⊢
  by_cases hk : k ≤ 2
  · rw [if_pos hk]
    have HC := hide (has_any a b c d p)
    obtain ⟨i, px, py⟩ := p
    unfold agg3 at HC ⊢
    simp only at HC Hs ⊢
    obtain ⟨v, hv⟩ : ∃ v, (withinB px a b && withinB py c d) = v := ⟨_, rfl⟩
    rw [hv] at HC ⊢
    clear hv
    go_enter Tryz.func62, Tryz.ntmps62
    go_wp2_with (go_at_call 86; have hF := HC.out; refine (hF _).mono ?_; rintro e w' ⟨rfl, hs⟩; have Hs2 := hide hs; clear hs hF)
    go_ret
    exact ⟨rfl, Hs.out.same Hs2.out⟩
  · rw [if_neg hk]
    have HC := hide (sees_any e f g p)
    obtain ⟨i, px, py⟩ := p
    unfold agg3 at HC ⊢
    simp only at HC Hs ⊢
    obtain ⟨v, hv⟩ : ∃ v, (withinB px e f && decide (g ≤ py)) = v := ⟨_, rfl⟩
    rw [hv] at HC ⊢
    clear hv
    go_enter Tryz.func62, Tryz.ntmps62
    go_wp2_with (go_at_call 87; have hF := HC.out; refine (hF _).mono ?_; rintro e w' ⟨rfl, hs⟩; have Hs2 := hide hs; clear hs hF)
    go_ret
    exact ⟨rfl, Hs.out.same Hs2.out⟩
set_option maxHeartbeats 400000 in
theorem met_any (q : Qy) (s : P3) (w : World) :
    Calls Tryz.prog 63 #[qV q, agg3 s] w fun e w' => e = .returned (.bool (metB q s)) ∧ Same w w' := by
  unfold metB
  have Hs := hide (((Chg.refl (fun _ => False) w).alloc (.cells (qL q).toArray 34)).alloc (.cells #[.int .i64 s.1, .int .i64 s.2.1, .int .i64 s.2.2] 42))
  obtain ⟨k, a, b, c, d, e, f, g, x, h⟩ := q
  unfold qV
  simp only [qL] at Hs ⊢
  by_cases hk : k = 5
  · rw [if_pos hk]
    have HC := hide (stabs_any s x)
    obtain ⟨i, lo, hi⟩ := s
    unfold agg3 at HC ⊢
    simp only at HC Hs ⊢
    obtain ⟨v, hv⟩ : ∃ v, withinB x lo hi = v := ⟨_, rfl⟩
    rw [hv] at HC ⊢
    clear hv
    subst hk
    go_enter Tryz.func63, Tryz.ntmps63
    go_wp2_with (go_at_call 88; have hF := HC.out; refine (hF _).mono ?_; rintro e w' ⟨rfl, hs⟩; have Hs2 := hide hs; clear hs hF)
    go_ret
    exact ⟨rfl, Hs.out.same Hs2.out⟩
  · rw [if_neg hk]
    have HC := hide (overlap_any s (0, x, h))
    obtain ⟨i, lo, hi⟩ := s
    unfold agg3 at HC ⊢
    simp only at HC Hs ⊢
    obtain ⟨v, hv⟩ : ∃ v, overB (i, lo, hi) (0, x, h) = v := ⟨_, rfl⟩
    rw [hv] at HC ⊢
    clear hv
    go_enter Tryz.func63, Tryz.ntmps63
    go_wp2_with (go_at_call 89; have hF := HC.out; refine (hF _).mono ?_; rintro e w' ⟨rfl, hs⟩; have Hs2 := hide hs; clear hs hF)
    go_ret
    exact ⟨rfl, Hs.out.same Hs2.out⟩

set_option maxHeartbeats 400000 in
theorem pointsQ_any (q : Qy) (w : World) :
    Calls Tryz.prog 61 #[qV q] w fun e w' => e = .returned (.bool (pointsB q)) ∧ Same w w' := by
  unfold pointsB
  have Hs := hide ((Chg.refl (fun _ => False) w).alloc (.cells (qL q).toArray 34))
  obtain ⟨k, a, b, c, d, e, f, g, x, h⟩ := q
  unfold qV
  simp only [qL] at Hs ⊢
  by_cases hk : 1 ≤ k
  · rw [decide_eq_true hk]
    go_enter Tryz.func61, Tryz.ntmps61
    go_wp2_with fail
    go_ret
    exact ⟨by simp, Hs.out⟩
  · rw [decide_eq_false hk]
    go_enter Tryz.func61, Tryz.ntmps61
    go_wp2_with fail
    go_ret
    exact ⟨by simp, Hs.out⟩
set_option maxHeartbeats 400000 in
theorem counts_any (q : Qy) (w : World) :
    Calls Tryz.prog 64 #[qV q] w fun e w' => e = .returned (.bool (countsB q)) ∧ Same w w' := by
  unfold countsB
  have Hs := hide ((Chg.refl (fun _ => False) w).alloc (.cells (qL q).toArray 34))
  obtain ⟨k, a, b, c, d, e, f, g, x, h⟩ := q
  unfold qV
  simp only [qL] at Hs ⊢
  by_cases hk : k = 2
  · subst hk
    go_enter Tryz.func64, Tryz.ntmps64
    go_wp2_with fail
    go_ret
    exact ⟨by simp, Hs.out⟩
  · by_cases hk4 : k = 4
    · subst hk4
      go_enter Tryz.func64, Tryz.ntmps64
      go_wp2_with fail
      go_ret
      exact ⟨by simp, Hs.out⟩
    · go_enter Tryz.func64, Tryz.ntmps64
      go_wp2_with fail
      go_ret
      have h1 : (k == 2) = false := beq_eq_false_iff_ne.2 hk
      have h2 : (k == 4) = false := beq_eq_false_iff_ne.2 hk4
      exact ⟨by simp [h1, h2, hk, hk4]; rfl, Hs.out⟩

set_option maxHeartbeats 400000 in
theorem boxCheck_any (a b c d : Int) (w : World) :
    Calls Tryz.prog 57 #[.agg #[.int .i64 a, .int .i64 b, .int .i64 c, .int .i64 d]] w fun e w' => e = .returned (.int .i64 (boxE a b c d)) ∧ Same w w' := by
  have hs := (((Chg.refl (fun _ => False) w).alloc (.cells #[.int .i64 a, .int .i64 b, .int .i64 c, .int .i64 d] 30)).alloc (.cells #[.int .i64 a, .int .i64 b, .int .i64 c, .int .i64 d] 3))
  have hb := Blk.new (w.alloc (.cells #[.int .i64 a, .int .i64 b, .int .i64 c, .int .i64 d] 30)) 3 #[.int .i64 a, .int .i64 b, .int .i64 c, .int .i64 d]
  have Hs := hide hs
  have HC := hide (checked_any a b c d _ _ hb)
  clear hs hb
  obtain ⟨v, hv⟩ : ∃ v, boxE a b c d = v := ⟨_, rfl⟩
  rw [hv] at HC ⊢
  clear hv
  go_enter Tryz.func57, Tryz.ntmps57
  go_wp2_with (go_at_call 84; have hF := HC.out; simp only [World.size_alloc] at hF; refine hF.mono ?_; rintro e w' ⟨rfl, hs⟩; have Hs2 := hide hs; clear hs hF)
  go_ret
  exact ⟨rfl, Hs.out.same Hs2.out⟩
end Go.Proofs.YthjnecicagmdeaaGreat
