/-
  plan.check, and plan.Plain: the ids that a query asks for, of points or of intervals. Conditions: at most 1048576 of each, each list rising by its ids.
-/
import Derived.Test.YthjnecicagmdeaaGreatQyC
import Derived.Test.YthjnecicagmdeaaGreatIn
namespace Go.Proofs.YthjnecicagmdeaaGreat
open Go.RowKit Go.Al
set_option linter.unusedVariables false

set_option maxRecDepth 100000 in
set_option maxHeartbeats 2000000 in
theorem check_any (q : Qy) (w : World) :
    Calls Tryz.prog 38 #[qV q] w fun e w' => e = .returned (.int .i64 (checkE q)) ∧ Same w w' := by
  have Hs := hide ((Chg.refl (fun _ => False) w).alloc (.cells (qL q).toArray 34))
  have Hz : Hid (w.heap.size = w.heap.size) := hide rfl
  obtain ⟨k, a, b, c, d, e, f, g, x, h⟩ := q
  unfold qV checkE
  simp only [qL] at Hs ⊢
  by_cases hk1 : k = 1
  · have hE : (if k = 1 ∨ k = 2 then boxE a b c d else if k = 3 ∨ k = 4 then boxE e f g 1099511627776 else if k = 5 then spanE x x else if k = 6 ∨ k = 7 then spanE x h else 1) = boxE a b c d := by subst hk1; simp
    rw [hE]
    clear hE
    have HC := hide (boxCheck_any a b c d)
    obtain ⟨v, hv⟩ : ∃ v, boxE a b c d = v := ⟨_, rfl⟩
    rw [hv] at HC ⊢
    clear hv
    subst hk1
    go_enter Tryz.func38, Tryz.ntmps38
    go_wp2_with (go_at_call 57; have hF := HC.out; refine (hF _).mono ?_; rintro e w' ⟨rfl, hs⟩; have Hs2 := hide hs; clear hs hF)
    go_ret
    exact ⟨rfl, Hs.out.same Hs2.out⟩
  by_cases hk2 : k = 2
  · have hE : (if k = 1 ∨ k = 2 then boxE a b c d else if k = 3 ∨ k = 4 then boxE e f g 1099511627776 else if k = 5 then spanE x x else if k = 6 ∨ k = 7 then spanE x h else 1) = boxE a b c d := by subst hk2; simp
    rw [hE]
    clear hE
    have HC := hide (boxCheck_any a b c d)
    obtain ⟨v, hv⟩ : ∃ v, boxE a b c d = v := ⟨_, rfl⟩
    rw [hv] at HC ⊢
    clear hv
    subst hk2
    go_enter Tryz.func38, Tryz.ntmps38
    go_wp2_with (go_at_call 57; have hF := HC.out; refine (hF _).mono ?_; rintro e w' ⟨rfl, hs⟩; have Hs2 := hide hs; clear hs hF)
    go_ret
    exact ⟨rfl, Hs.out.same Hs2.out⟩
  by_cases hk3 : k = 3
  · have hE : (if k = 1 ∨ k = 2 then boxE a b c d else if k = 3 ∨ k = 4 then boxE e f g 1099511627776 else if k = 5 then spanE x x else if k = 6 ∨ k = 7 then spanE x h else 1) = boxE e f g 1099511627776 := by subst hk3; simp
    rw [hE]
    clear hE
    have HC := hide (open_any e f g)
    obtain ⟨v, hv⟩ : ∃ v, boxE e f g 1099511627776 = v := ⟨_, rfl⟩
    rw [hv] at HC ⊢
    clear hv
    subst hk3
    go_enter Tryz.func38, Tryz.ntmps38
    go_wp2_with (go_at_call 58; have hF := HC.out; refine (hF _).mono ?_; rintro e w' ⟨⟨x1, x2, x3, x4, rfl⟩, hs⟩; have Hs2 := hide hs; clear hs hF)
    go_ret
    exact ⟨rfl, (Hs.out.same Hs2.out).alloc _⟩
  by_cases hk4 : k = 4
  · have hE : (if k = 1 ∨ k = 2 then boxE a b c d else if k = 3 ∨ k = 4 then boxE e f g 1099511627776 else if k = 5 then spanE x x else if k = 6 ∨ k = 7 then spanE x h else 1) = boxE e f g 1099511627776 := by subst hk4; simp
    rw [hE]
    clear hE
    have HC := hide (open_any e f g)
    obtain ⟨v, hv⟩ : ∃ v, boxE e f g 1099511627776 = v := ⟨_, rfl⟩
    rw [hv] at HC ⊢
    clear hv
    subst hk4
    go_enter Tryz.func38, Tryz.ntmps38
    go_wp2_with (go_at_call 58; have hF := HC.out; refine (hF _).mono ?_; rintro e w' ⟨⟨x1, x2, x3, x4, rfl⟩, hs⟩; have Hs2 := hide hs; clear hs hF)
    go_ret
    exact ⟨rfl, (Hs.out.same Hs2.out).alloc _⟩
  by_cases hk5 : k = 5
  · have hE : (if k = 1 ∨ k = 2 then boxE a b c d else if k = 3 ∨ k = 4 then boxE e f g 1099511627776 else if k = 5 then spanE x x else if k = 6 ∨ k = 7 then spanE x h else 1) = spanE x x := by subst hk5; simp
    rw [hE]
    clear hE
    have HC := hide (span_any_ x x)
    obtain ⟨v, hv⟩ : ∃ v, spanE x x = v := ⟨_, rfl⟩
    rw [hv] at HC ⊢
    clear hv
    subst hk5
    go_enter Tryz.func38, Tryz.ntmps38
    go_wp2_with (go_at_call 59; have hF := HC.out; refine (hF _).mono ?_; rintro e w' ⟨rfl, rfl⟩)
    go_ret
    exact ⟨rfl, (Chg.refl _ w).alloc _⟩
  by_cases hk6 : k = 6
  · have hE : (if k = 1 ∨ k = 2 then boxE a b c d else if k = 3 ∨ k = 4 then boxE e f g 1099511627776 else if k = 5 then spanE x x else if k = 6 ∨ k = 7 then spanE x h else 1) = spanE x h := by subst hk6; simp
    rw [hE]
    clear hE
    have HC := hide (span_any_ x h)
    obtain ⟨v, hv⟩ : ∃ v, spanE x h = v := ⟨_, rfl⟩
    rw [hv] at HC ⊢
    clear hv
    subst hk6
    go_enter Tryz.func38, Tryz.ntmps38
    go_wp2_with (go_at_call 59; have hF := HC.out; refine (hF _).mono ?_; rintro e w' ⟨rfl, rfl⟩)
    go_ret
    exact ⟨rfl, Hs.out⟩
  by_cases hk7 : k = 7
  · have hE : (if k = 1 ∨ k = 2 then boxE a b c d else if k = 3 ∨ k = 4 then boxE e f g 1099511627776 else if k = 5 then spanE x x else if k = 6 ∨ k = 7 then spanE x h else 1) = spanE x h := by subst hk7; simp
    rw [hE]
    clear hE
    have HC := hide (span_any_ x h)
    obtain ⟨v, hv⟩ : ∃ v, spanE x h = v := ⟨_, rfl⟩
    rw [hv] at HC ⊢
    clear hv
    subst hk7
    go_enter Tryz.func38, Tryz.ntmps38
    go_wp2_with (go_at_call 59; have hF := HC.out; refine (hF _).mono ?_; rintro e w' ⟨rfl, rfl⟩)
    go_ret
    exact ⟨rfl, Hs.out⟩
  rw [if_neg (by omega), if_neg (by omega), if_neg (by omega), if_neg (by omega)]
  go_enter Tryz.func38, Tryz.ntmps38
  go_wp2_with fail
  go_ret
  exact ⟨rfl, Hs.out⟩
set_option maxHeartbeats 400000 in
theorem Check_any (q : Qy) (w : World) :
    Calls Tryz.prog 23 #[qV q] w fun e w' => e = .returned (.int .i64 (checkE q)) ∧ Same w w' := by
  have Hs := hide ((Chg.refl (fun _ => False) w).alloc (.cells (qL q).toArray 34))
  have HC := hide (check_any q)
  obtain ⟨v, hv⟩ : ∃ v, checkE q = v := ⟨_, rfl⟩
  rw [hv] at HC ⊢
  clear hv
  obtain ⟨k, a, b, c, d, e, f, g, x, h⟩ := q
  unfold qV at HC ⊢
  simp only [qL] at Hs HC ⊢
  go_enter Tryz.func23, Tryz.ntmps23
  go_wp2_with (go_at_call 38; have hF := HC.out; refine (hF _).mono ?_; rintro e w' ⟨rfl, hs⟩; have Hs2 := hide hs; clear hs hF)
  go_ret
  exact ⟨rfl, Hs.out.same Hs2.out⟩
theorem Counts_any (q : Qy) (w : World) :
    Calls Tryz.prog 147 #[qV q] w fun e w' => e = .returned (.bool (countsB q)) ∧ Same w w' := by
  have Hs := hide ((Chg.refl (fun _ => False) w).alloc (.cells (qL q).toArray 34))
  have HC := hide (counts_any q)
  obtain ⟨v, hv⟩ : ∃ v, countsB q = v := ⟨_, rfl⟩
  rw [hv] at HC ⊢
  clear hv
  obtain ⟨k, a, b, c, d, e, f, g, x, h⟩ := q
  unfold qV at HC ⊢
  simp only [qL] at Hs HC ⊢
  go_enter Tryz.func147, Tryz.ntmps147
  go_wp2_with (go_at_call 64; have hF := HC.out; refine (hF _).mono ?_; rintro e w' ⟨rfl, hs⟩; have Hs2 := hide hs; clear hs hF)
  go_ret
  exact ⟨rfl, Hs.out.same Hs2.out⟩
end Go.Proofs.YthjnecicagmdeaaGreat
