/-
  The document's own words: is a number in a list; operations: Can, Before. No conditions but on lists' lengths.
  The document's own words on requests, queries and replies: which are good, what is wrong of a query, which replies are one; and operations: Can, Before. No conditions but on lists' lengths.
-/
import Derived.Test.YtlimpepdelpogaaGreatDoorLnB
import Derived.Test.YtlimpepdelpogaaGreatDoorTcB
import Derived.Test.YtlimpepdelpogaaGreatDoorQyF

/-! RfI -/
namespace Go.Proofs.YtlimpepdelpogaaGreatDoor
open Go.RowKit Go.Al
set_option linter.unusedVariables false
end Go.Proofs.YtlimpepdelpogaaGreatDoor
/-! RfA -/
namespace Go.Proofs.YtlimpepdelpogaaGreatDoor
open Go.RowKit Go.Al
set_option linter.unusedVariables false
set_option maxHeartbeats 8000000
set_option maxRecDepth 100000
theorem ret_bool {a b : Bool} (h : a = b) : Ending.returned (.bool a) = Ending.returned (.bool b) := by rw [h]
theorem goodRf_any (r : Rq) (w : World) :
    Calls Tryz.prog 32 #[rqV r] w fun e w' => e = .returned (.bool (goodR r)) ∧ Same w w' := by
  have Hs := hide ((Chg.refl (fun _ => False) w).alloc (.cells (rqL r).toArray 37))
  obtain ⟨v, hv⟩ : ∃ v, goodR r = v := ⟨_, rfl⟩
  rw [hv]
  unfold goodR at hv
  have HV := hide hv
  clear hv
  obtain ⟨k, ⟨ck, ⟨p1, p2, p3⟩, ⟨s1, s2, s3⟩⟩, ⟨qk, a, b, c, d, e, f, g, x, h⟩⟩ := r
  unfold rqV
  simp only [rqL, cgL, qL, List.cons_append, List.nil_append] at Hs HV ⊢
  by_cases k1 : k = 1
  · subst k1
    by_cases c1 : 1 ≤ ck
    · by_cases c4 : ck ≤ 4
      · go_enter Tryz.func32, Tryz.ntmps32
        go_wp2_with fail
        go_ret
        exact ⟨by rw [← HV.out]; first | rfl | (simp [*]; done) | (simp; omega) | omega, Hs.out⟩
      · go_enter Tryz.func32, Tryz.ntmps32
        go_wp2_with fail
        go_ret
        exact ⟨by rw [← HV.out]; first | rfl | (simp [*]; done) | (simp; omega) | omega, Hs.out⟩
    · go_enter Tryz.func32, Tryz.ntmps32
      go_wp2_with fail
      go_ret
      exact ⟨by rw [← HV.out]; first | rfl | (simp [*]; done) | (simp; omega) | omega, Hs.out⟩
  · by_cases k2 : k = 2
    · subst k2
      by_cases c1 : 1 ≤ qk
      · by_cases c7 : qk ≤ 7
        · go_enter Tryz.func32, Tryz.ntmps32
          go_wp2_with fail
          go_ret
          exact ⟨by rw [← HV.out]; first | rfl | (simp [*]; done) | (simp; omega) | omega, Hs.out⟩
        · go_enter Tryz.func32, Tryz.ntmps32
          go_wp2_with fail
          go_ret
          exact ⟨by rw [← HV.out]; first | rfl | (simp [*]; done) | (simp; omega) | omega, Hs.out⟩
      · go_enter Tryz.func32, Tryz.ntmps32
        go_wp2_with fail
        go_ret
        exact ⟨by rw [← HV.out]; first | rfl | (simp [*]; done) | (simp; omega) | omega, Hs.out⟩
    · go_enter Tryz.func32, Tryz.ntmps32
      go_wp2_with fail
      go_ret
      exact ⟨by rw [← HV.out]; first | rfl | (simp [*]; done) | (simp; omega) | omega, Hs.out⟩
theorem boxRf_any (a b c d : Int) (w : World) :
    Calls Tryz.prog 61 #[.agg #[.int .i64 a, .int .i64 b, .int .i64 c, .int .i64 d]] w fun e w' => e = .returned (.int .i64 (boxE a b c d)) ∧ Same w w' := by
  have Hs := hide ((Chg.refl (fun _ => False) w).alloc (.cells #[.int .i64 a, .int .i64 b, .int .i64 c, .int .i64 d] 31))
  obtain ⟨v, hv⟩ : ∃ v, boxE a b c d = v := ⟨_, rfl⟩
  rw [hv]
  unfold boxE at hv
  obtain ⟨ga, ha⟩ : ∃ v, good a = v := ⟨_, rfl⟩
  rw [ha] at hv
  have Ha := hide ha
  clear ha
  obtain ⟨gb, hb⟩ : ∃ v, good b = v := ⟨_, rfl⟩
  rw [hb] at hv
  have Hb := hide hb
  clear hb
  obtain ⟨gc, hc⟩ : ∃ v, good c = v := ⟨_, rfl⟩
  rw [hc] at hv
  have Hc := hide hc
  clear hc
  obtain ⟨gd, hd⟩ : ∃ v, good d = v := ⟨_, rfl⟩
  rw [hd] at hv
  have Hd := hide hd
  clear hd
  have HV := hide hv
  clear hv
  rcases ga with _ | _
  · go_enter Tryz.func61, Tryz.ntmps61
    go_wp2_with (first
      | (go_at_call 63; (with_reducible refine (coord_is a _ _ Ha.out).mono ?_); rintro e w' ⟨rfl, rfl⟩)
      | (go_at_call 63; (with_reducible refine (coord_is b _ _ Hb.out).mono ?_); rintro e w' ⟨rfl, rfl⟩)
      | (go_at_call 63; (with_reducible refine (coord_is c _ _ Hc.out).mono ?_); rintro e w' ⟨rfl, rfl⟩)
      | (go_at_call 63; (with_reducible refine (coord_is d _ _ Hd.out).mono ?_); rintro e w' ⟨rfl, rfl⟩))
    go_ret
    exact ⟨by rw [← HV.out]; first | rfl | (simp [*]; done) | (simp; omega) | omega, Hs.out⟩
  · rcases gb with _ | _
    · go_enter Tryz.func61, Tryz.ntmps61
      go_wp2_with (first
        | (go_at_call 63; (with_reducible refine (coord_is a _ _ Ha.out).mono ?_); rintro e w' ⟨rfl, rfl⟩)
        | (go_at_call 63; (with_reducible refine (coord_is b _ _ Hb.out).mono ?_); rintro e w' ⟨rfl, rfl⟩)
        | (go_at_call 63; (with_reducible refine (coord_is c _ _ Hc.out).mono ?_); rintro e w' ⟨rfl, rfl⟩)
        | (go_at_call 63; (with_reducible refine (coord_is d _ _ Hd.out).mono ?_); rintro e w' ⟨rfl, rfl⟩))
      go_ret
      exact ⟨by rw [← HV.out]; first | rfl | (simp [*]; done) | (simp; omega) | omega, Hs.out⟩
    · rcases gc with _ | _
      · go_enter Tryz.func61, Tryz.ntmps61
        go_wp2_with (first
          | (go_at_call 63; (with_reducible refine (coord_is a _ _ Ha.out).mono ?_); rintro e w' ⟨rfl, rfl⟩)
          | (go_at_call 63; (with_reducible refine (coord_is b _ _ Hb.out).mono ?_); rintro e w' ⟨rfl, rfl⟩)
          | (go_at_call 63; (with_reducible refine (coord_is c _ _ Hc.out).mono ?_); rintro e w' ⟨rfl, rfl⟩)
          | (go_at_call 63; (with_reducible refine (coord_is d _ _ Hd.out).mono ?_); rintro e w' ⟨rfl, rfl⟩))
        go_ret
        exact ⟨by rw [← HV.out]; first | rfl | (simp [*]; done) | (simp; omega) | omega, Hs.out⟩
      · rcases gd with _ | _
        · go_enter Tryz.func61, Tryz.ntmps61
          go_wp2_with (first
            | (go_at_call 63; (with_reducible refine (coord_is a _ _ Ha.out).mono ?_); rintro e w' ⟨rfl, rfl⟩)
            | (go_at_call 63; (with_reducible refine (coord_is b _ _ Hb.out).mono ?_); rintro e w' ⟨rfl, rfl⟩)
            | (go_at_call 63; (with_reducible refine (coord_is c _ _ Hc.out).mono ?_); rintro e w' ⟨rfl, rfl⟩)
            | (go_at_call 63; (with_reducible refine (coord_is d _ _ Hd.out).mono ?_); rintro e w' ⟨rfl, rfl⟩))
          go_ret
          exact ⟨by rw [← HV.out]; first | rfl | (simp [*]; done) | (simp; omega) | omega, Hs.out⟩
        · by_cases h1 : b < a
          · go_enter Tryz.func61, Tryz.ntmps61
            go_wp2_with (first
              | (go_at_call 63; (with_reducible refine (coord_is a _ _ Ha.out).mono ?_); rintro e w' ⟨rfl, rfl⟩)
              | (go_at_call 63; (with_reducible refine (coord_is b _ _ Hb.out).mono ?_); rintro e w' ⟨rfl, rfl⟩)
              | (go_at_call 63; (with_reducible refine (coord_is c _ _ Hc.out).mono ?_); rintro e w' ⟨rfl, rfl⟩)
              | (go_at_call 63; (with_reducible refine (coord_is d _ _ Hd.out).mono ?_); rintro e w' ⟨rfl, rfl⟩))
            go_ret
            exact ⟨by rw [← HV.out]; first | rfl | (simp [*]; done) | (simp; omega) | omega, Hs.out⟩
          · by_cases h2 : d < c
            · go_enter Tryz.func61, Tryz.ntmps61
              go_wp2_with (first
                | (go_at_call 63; (with_reducible refine (coord_is a _ _ Ha.out).mono ?_); rintro e w' ⟨rfl, rfl⟩)
                | (go_at_call 63; (with_reducible refine (coord_is b _ _ Hb.out).mono ?_); rintro e w' ⟨rfl, rfl⟩)
                | (go_at_call 63; (with_reducible refine (coord_is c _ _ Hc.out).mono ?_); rintro e w' ⟨rfl, rfl⟩)
                | (go_at_call 63; (with_reducible refine (coord_is d _ _ Hd.out).mono ?_); rintro e w' ⟨rfl, rfl⟩))
              go_ret
              exact ⟨by rw [← HV.out]; first | rfl | (simp [*]; done) | (simp; omega) | omega, Hs.out⟩
            · go_enter Tryz.func61, Tryz.ntmps61
              go_wp2_with (first
                | (go_at_call 63; (with_reducible refine (coord_is a _ _ Ha.out).mono ?_); rintro e w' ⟨rfl, rfl⟩)
                | (go_at_call 63; (with_reducible refine (coord_is b _ _ Hb.out).mono ?_); rintro e w' ⟨rfl, rfl⟩)
                | (go_at_call 63; (with_reducible refine (coord_is c _ _ Hc.out).mono ?_); rintro e w' ⟨rfl, rfl⟩)
                | (go_at_call 63; (with_reducible refine (coord_is d _ _ Hd.out).mono ?_); rintro e w' ⟨rfl, rfl⟩))
              go_ret
              exact ⟨by rw [← HV.out]; first | rfl | (simp [*]; done) | (simp; omega) | omega, Hs.out⟩
theorem winRf_any (a b c : Int) (w : World) :
    Calls Tryz.prog 62 #[.agg #[.int .i64 a, .int .i64 b, .int .i64 c]] w fun e w' => e = .returned (.int .i64 (boxE a b c 1099511627776)) ∧ Same w w' := by
  have Hs := hide ((Chg.refl (fun _ => False) w).alloc (.cells #[.int .i64 a, .int .i64 b, .int .i64 c] 33))
  have HC := hide (boxRf_any a b c 1099511627776)
  obtain ⟨v, hv⟩ : ∃ v, boxE a b c 1099511627776 = v := ⟨_, rfl⟩
  rw [hv] at HC ⊢
  clear hv
  go_enter Tryz.func62, Tryz.ntmps62
  go_wp2_with (go_at_call 61; have hF := HC.out; refine (hF _).mono ?_; rintro e w' ⟨rfl, hs⟩; have Hs2 := hide hs; clear hs hF)
  go_ret
  exact ⟨rfl, Hs.out.same Hs2.out⟩
theorem hasRf_any (a b c d x y : Int) (w : World) :
    Calls Tryz.prog 65 #[.agg #[.int .i64 a, .int .i64 b, .int .i64 c, .int .i64 d], .int .i64 x, .int .i64 y] w fun e w' => e = .returned (.bool (withinB x a b && withinB y c d)) ∧ Same w w' := by
  have Hs := hide ((Chg.refl (fun _ => False) w).alloc (.cells #[.int .i64 a, .int .i64 b, .int .i64 c, .int .i64 d] 31))
  obtain ⟨v, hv⟩ : ∃ v, (withinB x a b && withinB y c d) = v := ⟨_, rfl⟩
  rw [hv]
  unfold withinB at hv
  have HV := hide hv
  clear hv
  by_cases h1 : a ≤ x
  · by_cases h2 : x ≤ b
    · by_cases h3 : c ≤ y
      · by_cases h4 : y ≤ d
        · go_enter Tryz.func65, Tryz.ntmps65
          go_wp2_with fail
          go_ret
          exact ⟨by rw [← HV.out]; first | rfl | (simp [*]; done) | (simp; omega) | omega, Hs.out⟩
        · go_enter Tryz.func65, Tryz.ntmps65
          go_wp2_with fail
          go_ret
          exact ⟨by rw [← HV.out]; first | rfl | (simp [*]; done) | (simp; omega) | omega, Hs.out⟩
      · go_enter Tryz.func65, Tryz.ntmps65
        go_wp2_with fail
        go_ret
        exact ⟨by rw [← HV.out]; first | rfl | (simp [*]; done) | (simp; omega) | omega, Hs.out⟩
    · go_enter Tryz.func65, Tryz.ntmps65
      go_wp2_with fail
      go_ret
      exact ⟨by rw [← HV.out]; first | rfl | (simp [*]; done) | (simp; omega) | omega, Hs.out⟩
  · go_enter Tryz.func65, Tryz.ntmps65
    go_wp2_with fail
    go_ret
    exact ⟨by rw [← HV.out]; first | rfl | (simp [*]; done) | (simp; omega) | omega, Hs.out⟩
theorem seesRf_any (a b c x y : Int) (w : World) :
    Calls Tryz.prog 66 #[.agg #[.int .i64 a, .int .i64 b, .int .i64 c], .int .i64 x, .int .i64 y] w fun e w' => e = .returned (.bool (withinB x a b && decide (c ≤ y))) ∧ Same w w' := by
  have Hs := hide ((Chg.refl (fun _ => False) w).alloc (.cells #[.int .i64 a, .int .i64 b, .int .i64 c] 33))
  obtain ⟨v, hv⟩ : ∃ v, (withinB x a b && decide (c ≤ y)) = v := ⟨_, rfl⟩
  rw [hv]
  unfold withinB at hv
  have HV := hide hv
  clear hv
  by_cases h1 : a ≤ x
  · by_cases h2 : x ≤ b
    · by_cases h3 : c ≤ y
      · go_enter Tryz.func66, Tryz.ntmps66
        go_wp2_with fail
        go_ret
        exact ⟨by rw [← HV.out]; first | rfl | (simp [*]; done) | (simp; omega) | omega, Hs.out⟩
      · go_enter Tryz.func66, Tryz.ntmps66
        go_wp2_with fail
        go_ret
        exact ⟨by rw [← HV.out]; first | rfl | (simp [*]; done) | (simp; omega) | omega, Hs.out⟩
    · go_enter Tryz.func66, Tryz.ntmps66
      go_wp2_with fail
      go_ret
      exact ⟨by rw [← HV.out]; first | rfl | (simp [*]; done) | (simp; omega) | omega, Hs.out⟩
  · go_enter Tryz.func66, Tryz.ntmps66
    go_wp2_with fail
    go_ret
    exact ⟨by rw [← HV.out]; first | rfl | (simp [*]; done) | (simp; omega) | omega, Hs.out⟩
theorem overRf_any (s t : P3) (w : World) :
    Calls Tryz.prog 67 #[agg3 s, agg3 t] w fun e w' => e = .returned (.bool (overB s t)) ∧ Same w w' := by
  obtain ⟨i, lo, hi⟩ := s
  obtain ⟨j, lo2, hi2⟩ := t
  unfold agg3
  simp only
  have Hs := hide (((Chg.refl (fun _ => False) w).alloc (.cells #[.int .i64 i, .int .i64 lo, .int .i64 hi] 27)).alloc (.cells #[.int .i64 j, .int .i64 lo2, .int .i64 hi2] 27))
  obtain ⟨v, hv⟩ : ∃ v, overB (i, lo, hi) (j, lo2, hi2) = v := ⟨_, rfl⟩
  rw [hv]
  unfold overB at hv
  simp only at hv
  have HV := hide hv
  clear hv
  by_cases h1 : lo < lo2
  · by_cases h2 : hi2 < hi
    · go_enter Tryz.func67, Tryz.ntmps67
      go_wp2_with fail
      go_quiet (fail)
      go_wp2_with fail
      go_ret
      exact ⟨by rw [← HV.out]; exact ret_bool (by rw [Bool.eq_iff_iff]; simp; omega), Hs.out.drewN _⟩
    · go_enter Tryz.func67, Tryz.ntmps67
      go_wp2_with fail
      go_quiet (fail)
      go_wp2_with fail
      go_ret
      exact ⟨by rw [← HV.out]; exact ret_bool (by rw [Bool.eq_iff_iff]; simp; omega), Hs.out.drewN _⟩
  · by_cases h2 : hi2 < hi
    · go_enter Tryz.func67, Tryz.ntmps67
      go_wp2_with fail
      go_quiet (fail)
      go_wp2_with fail
      go_ret
      exact ⟨by rw [← HV.out]; exact ret_bool (by rw [Bool.eq_iff_iff]; simp; omega), Hs.out.drewN _⟩
    · go_enter Tryz.func67, Tryz.ntmps67
      go_wp2_with fail
      go_quiet (fail)
      go_wp2_with fail
      go_ret
      exact ⟨by rw [← HV.out]; exact ret_bool (by rw [Bool.eq_iff_iff]; simp; omega), Hs.out.drewN _⟩
theorem checkRf_any (q : Qy) (w : World) :
    Calls Tryz.prog 35 #[qV q] w fun e w' => e = .returned (.int .i64 (checkE q)) ∧ Same w w' := by
  have Hs := hide ((Chg.refl (fun _ => False) w).alloc (.cells (qL q).toArray 35))
  obtain ⟨v, hv⟩ : ∃ v, checkE q = v := ⟨_, rfl⟩
  rw [hv]
  obtain ⟨k, a, b, c, d, e, f, g, x, h⟩ := q
  unfold checkE spanE at hv
  unfold qV
  simp only [qL] at Hs hv ⊢
  have HB := hide (boxRf_any a b c d)
  have HW := hide (winRf_any e f g)
  obtain ⟨eb, heb⟩ : ∃ v, boxE a b c d = v := ⟨_, rfl⟩
  rw [heb] at HB hv
  obtain ⟨ew, hew⟩ : ∃ v, boxE e f g 1099511627776 = v := ⟨_, rfl⟩
  rw [hew] at HW hv
  obtain ⟨gx, hx⟩ : ∃ v, good x = v := ⟨_, rfl⟩
  obtain ⟨gh, hh⟩ : ∃ v, good h = v := ⟨_, rfl⟩
  rw [hx, hh] at hv
  have Hx := hide hx
  have Hh := hide hh
  have HV := hide hv
  clear heb hew hx hh hv
  by_cases k1 : k = 1
  · subst k1
    go_enter Tryz.func35, Tryz.ntmps35
    go_wp2_with (first
      | (go_at_call 61; refine (HB.out _).mono ?_; rintro e w' ⟨rfl, hs⟩; have Hs2 := hide hs; clear hs)
      | (go_at_call 62; refine (HW.out _).mono ?_; rintro e w' ⟨rfl, hs⟩; have Hs2 := hide hs; clear hs)
      | (go_at_call 63; (with_reducible refine (coord_is x _ _ Hx.out).mono ?_); rintro e w' ⟨rfl, rfl⟩)
      | (go_at_call 63; (with_reducible refine (coord_is h _ _ Hh.out).mono ?_); rintro e w' ⟨rfl, rfl⟩))
    go_ret
    exact ⟨by rw [← HV.out]; first | rfl | (simp [*]; done) | (simp; omega) | omega, by first | exact Hs.out | exact Hs.out.same Hs2.out⟩
  · by_cases k2 : k = 2
    · subst k2
      go_enter Tryz.func35, Tryz.ntmps35
      go_wp2_with (first
        | (go_at_call 61; refine (HB.out _).mono ?_; rintro e w' ⟨rfl, hs⟩; have Hs2 := hide hs; clear hs)
        | (go_at_call 62; refine (HW.out _).mono ?_; rintro e w' ⟨rfl, hs⟩; have Hs2 := hide hs; clear hs)
        | (go_at_call 63; (with_reducible refine (coord_is x _ _ Hx.out).mono ?_); rintro e w' ⟨rfl, rfl⟩)
        | (go_at_call 63; (with_reducible refine (coord_is h _ _ Hh.out).mono ?_); rintro e w' ⟨rfl, rfl⟩))
      go_ret
      exact ⟨by rw [← HV.out]; first | rfl | (simp [*]; done) | (simp; omega) | omega, by first | exact Hs.out | exact Hs.out.same Hs2.out⟩
    · by_cases k3 : k = 3
      · subst k3
        go_enter Tryz.func35, Tryz.ntmps35
        go_wp2_with (first
          | (go_at_call 61; refine (HB.out _).mono ?_; rintro e w' ⟨rfl, hs⟩; have Hs2 := hide hs; clear hs)
          | (go_at_call 62; refine (HW.out _).mono ?_; rintro e w' ⟨rfl, hs⟩; have Hs2 := hide hs; clear hs)
          | (go_at_call 63; (with_reducible refine (coord_is x _ _ Hx.out).mono ?_); rintro e w' ⟨rfl, rfl⟩)
          | (go_at_call 63; (with_reducible refine (coord_is h _ _ Hh.out).mono ?_); rintro e w' ⟨rfl, rfl⟩))
        go_ret
        exact ⟨by rw [← HV.out]; first | rfl | (simp [*]; done) | (simp; omega) | omega, by first | exact Hs.out | exact Hs.out.same Hs2.out⟩
      · by_cases k4 : k = 4
        · subst k4
          go_enter Tryz.func35, Tryz.ntmps35
          go_wp2_with (first
            | (go_at_call 61; refine (HB.out _).mono ?_; rintro e w' ⟨rfl, hs⟩; have Hs2 := hide hs; clear hs)
            | (go_at_call 62; refine (HW.out _).mono ?_; rintro e w' ⟨rfl, hs⟩; have Hs2 := hide hs; clear hs)
            | (go_at_call 63; (with_reducible refine (coord_is x _ _ Hx.out).mono ?_); rintro e w' ⟨rfl, rfl⟩)
            | (go_at_call 63; (with_reducible refine (coord_is h _ _ Hh.out).mono ?_); rintro e w' ⟨rfl, rfl⟩))
          go_ret
          exact ⟨by rw [← HV.out]; first | rfl | (simp [*]; done) | (simp; omega) | omega, by first | exact Hs.out | exact Hs.out.same Hs2.out⟩
        · by_cases k5 : k = 5
          · subst k5
            rcases gx with _ | _
            · go_enter Tryz.func35, Tryz.ntmps35
              go_wp2_with (first
                | (go_at_call 61; refine (HB.out _).mono ?_; rintro e w' ⟨rfl, hs⟩; have Hs2 := hide hs; clear hs)
                | (go_at_call 62; refine (HW.out _).mono ?_; rintro e w' ⟨rfl, hs⟩; have Hs2 := hide hs; clear hs)
                | (go_at_call 63; (with_reducible refine (coord_is x _ _ Hx.out).mono ?_); rintro e w' ⟨rfl, rfl⟩)
                | (go_at_call 63; (with_reducible refine (coord_is h _ _ Hh.out).mono ?_); rintro e w' ⟨rfl, rfl⟩))
              go_ret
              exact ⟨by rw [← HV.out]; first | rfl | (simp [*]; done) | (simp; omega) | omega, by first | exact Hs.out | exact Hs.out.same Hs2.out⟩
            · go_enter Tryz.func35, Tryz.ntmps35
              go_wp2_with (first
                | (go_at_call 61; refine (HB.out _).mono ?_; rintro e w' ⟨rfl, hs⟩; have Hs2 := hide hs; clear hs)
                | (go_at_call 62; refine (HW.out _).mono ?_; rintro e w' ⟨rfl, hs⟩; have Hs2 := hide hs; clear hs)
                | (go_at_call 63; (with_reducible refine (coord_is x _ _ Hx.out).mono ?_); rintro e w' ⟨rfl, rfl⟩)
                | (go_at_call 63; (with_reducible refine (coord_is h _ _ Hh.out).mono ?_); rintro e w' ⟨rfl, rfl⟩))
              go_ret
              exact ⟨by rw [← HV.out]; first | rfl | (simp [*]; done) | (simp; omega) | omega, by first | exact Hs.out | exact Hs.out.same Hs2.out⟩
          · by_cases k6 : k = 6 ∨ k = 7
            · have b1 : (k == 1) = false := by simpa using k1
              have b2 : (k == 2) = false := by simpa using k2
              have b3 : (k == 3) = false := by simpa using k3
              have b4 : (k == 4) = false := by simpa using k4
              have k57 : 5 < k := by omega
              have k77 : k ≤ 7 := by omega
              have k5b : ¬ k < 5 := by omega
              rcases gx with _ | _
              · go_enter Tryz.func35, Tryz.ntmps35
                go_wp2_with (first
                  | (go_at_call 61; refine (HB.out _).mono ?_; rintro e w' ⟨rfl, hs⟩; have Hs2 := hide hs; clear hs)
                  | (go_at_call 62; refine (HW.out _).mono ?_; rintro e w' ⟨rfl, hs⟩; have Hs2 := hide hs; clear hs)
                  | (go_at_call 63; (with_reducible refine (coord_is x _ _ Hx.out).mono ?_); rintro e w' ⟨rfl, rfl⟩)
                  | (go_at_call 63; (with_reducible refine (coord_is h _ _ Hh.out).mono ?_); rintro e w' ⟨rfl, rfl⟩))
                go_ret
                exact ⟨by rw [← HV.out]; first | rfl | (simp [*]; done) | (simp; omega) | omega, by first | exact Hs.out | exact Hs.out.same Hs2.out⟩
              · rcases gh with _ | _
                · go_enter Tryz.func35, Tryz.ntmps35
                  go_wp2_with (first
                    | (go_at_call 61; refine (HB.out _).mono ?_; rintro e w' ⟨rfl, hs⟩; have Hs2 := hide hs; clear hs)
                    | (go_at_call 62; refine (HW.out _).mono ?_; rintro e w' ⟨rfl, hs⟩; have Hs2 := hide hs; clear hs)
                    | (go_at_call 63; (with_reducible refine (coord_is x _ _ Hx.out).mono ?_); rintro e w' ⟨rfl, rfl⟩)
                    | (go_at_call 63; (with_reducible refine (coord_is h _ _ Hh.out).mono ?_); rintro e w' ⟨rfl, rfl⟩))
                  go_ret
                  exact ⟨by rw [← HV.out]; first | rfl | (simp [*]; done) | (simp; omega) | omega, by first | exact Hs.out | exact Hs.out.same Hs2.out⟩
                · by_cases xh : h < x
                  · go_enter Tryz.func35, Tryz.ntmps35
                    go_wp2_with (first
                      | (go_at_call 61; refine (HB.out _).mono ?_; rintro e w' ⟨rfl, hs⟩; have Hs2 := hide hs; clear hs)
                      | (go_at_call 62; refine (HW.out _).mono ?_; rintro e w' ⟨rfl, hs⟩; have Hs2 := hide hs; clear hs)
                      | (go_at_call 63; (with_reducible refine (coord_is x _ _ Hx.out).mono ?_); rintro e w' ⟨rfl, rfl⟩)
                      | (go_at_call 63; (with_reducible refine (coord_is h _ _ Hh.out).mono ?_); rintro e w' ⟨rfl, rfl⟩))
                    go_ret
                    exact ⟨by rw [← HV.out]; first | rfl | (simp [*]; done) | (simp; omega) | omega, by first | exact Hs.out | exact Hs.out.same Hs2.out⟩
                  · go_enter Tryz.func35, Tryz.ntmps35
                    go_wp2_with (first
                      | (go_at_call 61; refine (HB.out _).mono ?_; rintro e w' ⟨rfl, hs⟩; have Hs2 := hide hs; clear hs)
                      | (go_at_call 62; refine (HW.out _).mono ?_; rintro e w' ⟨rfl, hs⟩; have Hs2 := hide hs; clear hs)
                      | (go_at_call 63; (with_reducible refine (coord_is x _ _ Hx.out).mono ?_); rintro e w' ⟨rfl, rfl⟩)
                      | (go_at_call 63; (with_reducible refine (coord_is h _ _ Hh.out).mono ?_); rintro e w' ⟨rfl, rfl⟩))
                    go_ret
                    exact ⟨by rw [← HV.out]; first | rfl | (simp [*]; done) | (simp; omega) | omega, by first | exact Hs.out | exact Hs.out.same Hs2.out⟩
            · have b1 : (k == 1) = false := by simpa using k1
              have b2 : (k == 2) = false := by simpa using k2
              have b3 : (k == 3) = false := by simpa using k3
              have b4 : (k == 4) = false := by simpa using k4
              have k57 : k < 5 ∨ 7 < k := by omega
              by_cases k8 : k < 5
              · go_enter Tryz.func35, Tryz.ntmps35
                go_wp2_with (first
                  | (go_at_call 61; refine (HB.out _).mono ?_; rintro e w' ⟨rfl, hs⟩; have Hs2 := hide hs; clear hs)
                  | (go_at_call 62; refine (HW.out _).mono ?_; rintro e w' ⟨rfl, hs⟩; have Hs2 := hide hs; clear hs)
                  | (go_at_call 63; (with_reducible refine (coord_is x _ _ Hx.out).mono ?_); rintro e w' ⟨rfl, rfl⟩)
                  | (go_at_call 63; (with_reducible refine (coord_is h _ _ Hh.out).mono ?_); rintro e w' ⟨rfl, rfl⟩))
                go_ret
                exact ⟨by rw [← HV.out]; first | rfl | (simp [*]; done) | (simp; omega) | omega, by first | exact Hs.out | exact Hs.out.same Hs2.out⟩
              · have k9 : 7 < k := by omega
                go_enter Tryz.func35, Tryz.ntmps35
                go_wp2_with (first
                  | (go_at_call 61; refine (HB.out _).mono ?_; rintro e w' ⟨rfl, hs⟩; have Hs2 := hide hs; clear hs)
                  | (go_at_call 62; refine (HW.out _).mono ?_; rintro e w' ⟨rfl, hs⟩; have Hs2 := hide hs; clear hs)
                  | (go_at_call 63; (with_reducible refine (coord_is x _ _ Hx.out).mono ?_); rintro e w' ⟨rfl, rfl⟩)
                  | (go_at_call 63; (with_reducible refine (coord_is h _ _ Hh.out).mono ?_); rintro e w' ⟨rfl, rfl⟩))
                go_ret
                exact ⟨by rw [← HV.out]; first | rfl | (simp [*]; done) | (simp; omega) | omega, by first | exact Hs.out | exact Hs.out.same Hs2.out⟩
theorem countsRf_any (q : Qy) (w : World) :
    Calls Tryz.prog 64 #[qV q] w fun e w' => e = .returned (.bool (countsB q)) ∧ Same w w' := by
  have Hs := hide ((Chg.refl (fun _ => False) w).alloc (.cells (qL q).toArray 35))
  obtain ⟨v, hv⟩ : ∃ v, countsB q = v := ⟨_, rfl⟩
  rw [hv]
  obtain ⟨k, a, b, c, d, e, f, g, x, h⟩ := q
  unfold countsB at hv
  unfold qV
  simp only [qL] at Hs hv ⊢
  have HV := hide hv
  clear hv
  by_cases k2 : k = 2
  · subst k2
    go_enter Tryz.func64, Tryz.ntmps64
    go_wp2_with fail
    go_ret
    exact ⟨by rw [← HV.out]; first | rfl | (simp [*]; done) | (simp; omega) | omega, Hs.out⟩
  · by_cases k4 : k = 4
    · subst k4
      go_enter Tryz.func64, Tryz.ntmps64
      go_wp2_with fail
      go_ret
      exact ⟨by rw [← HV.out]; first | rfl | (simp [*]; done) | (simp; omega) | omega, Hs.out⟩
    · by_cases k7 : k = 7
      · subst k7
        go_enter Tryz.func64, Tryz.ntmps64
        go_wp2_with fail
        go_ret
        exact ⟨by rw [← HV.out]; first | rfl | (simp [*]; done) | (simp; omega) | omega, Hs.out⟩
      · go_enter Tryz.func64, Tryz.ntmps64
        go_wp2_with fail
        go_ret
        exact ⟨by rw [← HV.out]; first | rfl | (simp [*]; done) | (simp; omega) | omega, Hs.out⟩
theorem take_ne {xs ys : List Int} {i : Nat} {x y : Int} (hx : xs[i]? = some x) (hy : ys[i]? = some y) (h : ¬ x = y) : eqI xs ys = false := by
  unfold eqI
  rw [decide_eq_false_iff_not]
  intro e
  subst e
  rw [hx] at hy
  exact h (Option.some.inj hy)
theorem eqI_all {xs ys : List Int} {n : Nat} (h1 : xs.length = n) (h2 : ys.length = n) (h : ∀ j, j < n → xs[j]? = ys[j]?) : eqI xs ys = true := by
  unfold eqI
  rw [decide_eq_true_eq]
  apply List.ext_getElem?
  intro i
  by_cases hi : i < n
  · exact h i hi
  · rw [List.getElem?_eq_none (by omega), List.getElem?_eq_none (by omega)]
theorem sameIRf_any {A B : Option Addr} {c d : Nat} (xs ys : List Int) (w : World) (hx : Rd w A (is xs)) (hy : Rd w B (is ys)) (hl : xs.length ≤ maxLen) (hm : ys.length ≤ maxLen) :
    Calls Tryz.prog 33 #[.slice A xs.length c, .slice B ys.length d] w fun e w' => e = .returned (.bool (eqI xs ys)) ∧ Same w w' := by
  unfold maxLen at hl hm
  have HX := hide hx
  have HY := hide hy
  obtain ⟨n, hn⟩ : ∃ n, xs.length = n := ⟨_, rfl⟩
  obtain ⟨m, hmm⟩ : ∃ m, ys.length = m := ⟨_, rfl⟩
  rw [hn] at hl ⊢
  rw [hmm] at hm ⊢
  have Hn := hide hn
  have Hm := hide hmm
  clear hx hy hn hmm
  by_cases hnm : n = m
  · subst hnm
    go_enter Tryz.func33, Tryz.ntmps33
    go_wp2_with fail
    go_loopg [5] n (fun k vi wr => ∃ i : Nat, i ≤ n ∧ k = n - i ∧ vi = .int .i64 i ∧ (∀ j, j < i → xs[j]? = ys[j]?) ∧ Same w wr)
    case atStart => exact ⟨0, Nat.zero_le _, rfl, rfl, fun j h => by omega, Chg.refl _ w⟩
    case round =>
      obtain ⟨i, hi, hk, rfl, hall, hsm⟩ := hrel
      have Hk := hide hk
      have Hall := hide hall
      have Hsm := hide hsm
      clear hk hall hsm
      by_cases hlt : i < n
      · obtain ⟨b, off, rfl, hcx⟩ := (HX.out.same Hsm.out).at_ (i := i) (by rw [is_length, Hn.out]; exact hlt)
        obtain ⟨b2, off2, rfl, hcy⟩ := (HY.out.same Hsm.out).at_ (i := i) (by rw [is_length, Hm.out]; exact hlt)
        have hix : i < xs.length := by rw [Hn.out]; exact hlt
        have hiy : i < ys.length := by rw [Hm.out]; exact hlt
        have Hgx := hide (List.getElem?_eq_getElem hix)
        have Hgy := hide (List.getElem?_eq_getElem hiy)
        simp only [is, List.getElem_map] at hcx hcy
        generalize xs[i] = x at *
        generalize ys[i] = y at *
        by_cases hxy : x = y
        · have Hn2 : Hid (∀ j, j < i + 1 → xs[j]? = ys[j]?) := hide fun j hj => by
            rcases Nat.lt_or_ge j i with h | h
            · exact Hall.out j h
            · obtain rfl : j = i := by omega
              rw [Hgx.out, Hgy.out, hxy]
          subst hxy
          go_wp2_with fail
          try (go_quiet (fail); go_wp2_with fail)
          go_roundg (n - (i + 1))
          case measure => have := Hk.out; omega
          case rel => exact ⟨i + 1, by omega, rfl, by go_num, Hn2.out, by first | exact Hsm.out | exact Hsm.out.drewN _⟩
        · have hb : (x != y) = true := by simp [hxy]
          have Hno := hide (take_ne Hgx.out Hgy.out hxy)
          clear hxy
          go_wp2_with fail
          try (go_quiet (fail); go_wp2_with fail)
          go_ret
          exact ⟨by rw [Hno.out]; rfl, by first | exact Hsm.out | exact Hsm.out.drewN _⟩
      · have he : n = i := by omega
        subst he
        go_wp2_with fail
        go_ret
        exact ⟨by rw [eqI_all Hn.out Hm.out Hall.out]; rfl, Hsm.out⟩
  · have hb : ((n : Int) != (m : Int)) = true := by simp; omega
    have he : eqI xs ys = false := by unfold eqI; rw [decide_eq_false_iff_not]; intro e; subst e; exact hnm (Hn.out.symm.trans Hm.out)
    have He := hide he
    clear he
    go_enter Tryz.func33, Tryz.ntmps33
    go_wp2_with fail
    go_ret
    exact ⟨by rw [He.out]; rfl, Chg.refl _ w⟩
theorem rsameRf_any (a b : Rp) (w : World) (ha : RpAt w a) (hb : RpAt w b) :
    Calls Tryz.prog 17 #[rpV a, rpV b] w fun e w' => e = .returned (.bool (sameA a.ans b.ans)) ∧ Same w w' := by
  have Hs := hide (((Chg.refl (fun _ => False) w).alloc (.cells (rpL a).toArray 43)).alloc (.cells (rpL b).toArray 43))
  have HE := hide (fun w' (hs : Same w w') => sameIRf_any (c := a.cp) (d := b.cp) a.ids b.ids w' (ha.rd.same hs) (hb.rd.same hs) (Nat.le_trans ha.le ha.cp) (Nat.le_trans hb.le hb.cp))
  obtain ⟨e1, as1, li1, n1, A1, c1, l1⟩ := a
  obtain ⟨e2, as2, li2, n2, A2, c2, l2⟩ := b
  unfold rpV sameA Rp.ans
  simp only [rpL] at Hs HE ⊢
  clear ha hb
  obtain ⟨v, hv⟩ : ∃ v, (decide (e1 = e2) && (as1 == as2 && (li1 == li2 && (decide (n1 = n2) && l1 == l2)))) = v := ⟨_, rfl⟩
  rw [hv]
  have HV := hide hv
  clear hv
  by_cases h1 : e1 = e2
  · subst h1
    cases h2 : (as1 == as2)
    · go_enter Tryz.func17, Tryz.ntmps17
      go_wp2_with fail
      go_ret
      exact ⟨by rw [← HV.out]; rw [h2]; simp, Hs.out⟩
    · cases h3 : (li1 == li2)
      · go_enter Tryz.func17, Tryz.ntmps17
        go_wp2_with fail
        go_ret
        exact ⟨by rw [← HV.out]; rw [h3]; simp, Hs.out⟩
      · by_cases h4 : n1 = n2
        · subst h4
          go_enter Tryz.func17, Tryz.ntmps17
          go_wp2_with (go_at_call 33; refine (HE.out _ Hs.out).mono ?_; rintro e w' ⟨rfl, hs⟩; have Hs2 := hide hs; clear hs)
          go_ret
          exact ⟨by rw [← HV.out]; simp [h2, h3, eqI]; first | done | (rw [Bool.eq_iff_iff]; simp), Hs.out.same Hs2.out⟩
        · go_enter Tryz.func17, Tryz.ntmps17
          go_wp2_with fail
          go_ret
          exact ⟨by rw [← HV.out]; simp [h4], Hs.out⟩
  · go_enter Tryz.func17, Tryz.ntmps17
    go_wp2_with fail
    go_ret
    exact ⟨by rw [← HV.out]; simp [h1], Hs.out⟩
end Go.Proofs.YtlimpepdelpogaaGreatDoor
