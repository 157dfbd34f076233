/-
  What is wrong of a query, as the document has it. No conditions.
-/
import Derived.Test.YthjnecicagmdeaaGreatQyD
import Derived.Test.YthjnecicagmdeaaGreatQyP
namespace Go.Proofs.YthjnecicagmdeaaGreat
open Go.RowKit Go.Al
set_option linter.unusedVariables false
set_option linter.unusedSimpArgs false

set_option maxHeartbeats 400000 in
theorem coord_any (x : Int) (w : World) : Calls Tryz.prog 26 #[.int .i64 x] w fun e w' => e = .returned (.bool (good x)) ∧ w = w' := by
  unfold good
  by_cases h : -1099511627776 ≤ x
  · go_enter Tryz.func26, Tryz.ntmps26
    go_wp2_with fail
    go_ret
    exact ⟨by simp [h], rfl⟩
  · rw [decide_eq_false h]
    go_enter Tryz.func26, Tryz.ntmps26
    go_wp2_with fail
    go_ret
    exact ⟨by simp, rfl⟩
theorem coord_is (x : Int) (w : World) (v : Bool) (h : good x = v) : Calls Tryz.prog 26 #[.int .i64 x] w fun e w' => e = .returned (.bool v) ∧ w = w' := h ▸ coord_any x w
theorem ret_bool {a b : Bool} (h : a = b) : Ending.returned (.bool a) = Ending.returned (.bool b) := by rw [h]
theorem Same.by_ {a b c : World} (h : Hid (Same b c)) (h' : Same a b) : Same a c := Same.trans h' h.out
set_option maxRecDepth 100000 in
set_option maxHeartbeats 4000000 in
theorem boxRf_any (a b c d : Int) (w : World) :
    Calls Tryz.prog 24 #[.agg #[.int .i64 a, .int .i64 b, .int .i64 c, .int .i64 d]] w fun e w' => e = .returned (.int .i64 (boxE a b c d)) ∧ Same w w' := by
  have Hs := hide ((Chg.refl (fun _ => False) w).alloc (.cells #[.int .i64 a, .int .i64 b, .int .i64 c, .int .i64 d] 30))
  obtain ⟨v, hv⟩ : ∃ v, boxE a b c d = v := ⟨_, rfl⟩
  rw [hv]
  unfold boxE at hv
  obtain ⟨ga, ha⟩ : ∃ v, good a = v := ⟨_, rfl⟩
  rw [ha] at hv
  have Ha := hide ha
  clear ha
  obtain ⟨gb, hb⟩ : ∃ v, good b = v := ⟨_, rfl⟩
  rw [hb] at hv
  have Hb := hide hb
  clear hb
  obtain ⟨gc, hc⟩ : ∃ v, good c = v := ⟨_, rfl⟩
  rw [hc] at hv
  have Hc := hide hc
  clear hc
  obtain ⟨gd, hd⟩ : ∃ v, good d = v := ⟨_, rfl⟩
  rw [hd] at hv
  have Hd := hide hd
  clear hd
  have HV := hide hv
  clear hv
  rcases ga with _ | _
  · go_enter Tryz.func24, Tryz.ntmps24
    go_wp2_with (first
      | (go_at_call 26; (with_reducible refine (coord_is a _ _ Ha.out).mono ?_); rintro e w' ⟨rfl, rfl⟩)
      | (go_at_call 26; (with_reducible refine (coord_is b _ _ Hb.out).mono ?_); rintro e w' ⟨rfl, rfl⟩)
      | (go_at_call 26; (with_reducible refine (coord_is c _ _ Hc.out).mono ?_); rintro e w' ⟨rfl, rfl⟩)
      | (go_at_call 26; (with_reducible refine (coord_is d _ _ Hd.out).mono ?_); rintro e w' ⟨rfl, rfl⟩))
    go_ret
    exact ⟨by rw [← HV.out]; first | rfl | (simp [*]; done) | (simp; omega) | omega, Hs.out⟩
  · rcases gb with _ | _
    · go_enter Tryz.func24, Tryz.ntmps24
      go_wp2_with (first
        | (go_at_call 26; (with_reducible refine (coord_is a _ _ Ha.out).mono ?_); rintro e w' ⟨rfl, rfl⟩)
        | (go_at_call 26; (with_reducible refine (coord_is b _ _ Hb.out).mono ?_); rintro e w' ⟨rfl, rfl⟩)
        | (go_at_call 26; (with_reducible refine (coord_is c _ _ Hc.out).mono ?_); rintro e w' ⟨rfl, rfl⟩)
        | (go_at_call 26; (with_reducible refine (coord_is d _ _ Hd.out).mono ?_); rintro e w' ⟨rfl, rfl⟩))
      go_ret
      exact ⟨by rw [← HV.out]; first | rfl | (simp [*]; done) | (simp; omega) | omega, Hs.out⟩
    · rcases gc with _ | _
      · go_enter Tryz.func24, Tryz.ntmps24
        go_wp2_with (first
          | (go_at_call 26; (with_reducible refine (coord_is a _ _ Ha.out).mono ?_); rintro e w' ⟨rfl, rfl⟩)
          | (go_at_call 26; (with_reducible refine (coord_is b _ _ Hb.out).mono ?_); rintro e w' ⟨rfl, rfl⟩)
          | (go_at_call 26; (with_reducible refine (coord_is c _ _ Hc.out).mono ?_); rintro e w' ⟨rfl, rfl⟩)
          | (go_at_call 26; (with_reducible refine (coord_is d _ _ Hd.out).mono ?_); rintro e w' ⟨rfl, rfl⟩))
        go_ret
        exact ⟨by rw [← HV.out]; first | rfl | (simp [*]; done) | (simp; omega) | omega, Hs.out⟩
      · rcases gd with _ | _
        · go_enter Tryz.func24, Tryz.ntmps24
          go_wp2_with (first
            | (go_at_call 26; (with_reducible refine (coord_is a _ _ Ha.out).mono ?_); rintro e w' ⟨rfl, rfl⟩)
            | (go_at_call 26; (with_reducible refine (coord_is b _ _ Hb.out).mono ?_); rintro e w' ⟨rfl, rfl⟩)
            | (go_at_call 26; (with_reducible refine (coord_is c _ _ Hc.out).mono ?_); rintro e w' ⟨rfl, rfl⟩)
            | (go_at_call 26; (with_reducible refine (coord_is d _ _ Hd.out).mono ?_); rintro e w' ⟨rfl, rfl⟩))
          go_ret
          exact ⟨by rw [← HV.out]; first | rfl | (simp [*]; done) | (simp; omega) | omega, Hs.out⟩
        · by_cases h1 : b < a
          · go_enter Tryz.func24, Tryz.ntmps24
            go_wp2_with (first
              | (go_at_call 26; (with_reducible refine (coord_is a _ _ Ha.out).mono ?_); rintro e w' ⟨rfl, rfl⟩)
              | (go_at_call 26; (with_reducible refine (coord_is b _ _ Hb.out).mono ?_); rintro e w' ⟨rfl, rfl⟩)
              | (go_at_call 26; (with_reducible refine (coord_is c _ _ Hc.out).mono ?_); rintro e w' ⟨rfl, rfl⟩)
              | (go_at_call 26; (with_reducible refine (coord_is d _ _ Hd.out).mono ?_); rintro e w' ⟨rfl, rfl⟩))
            go_ret
            exact ⟨by rw [← HV.out]; first | rfl | (simp [*]; done) | (simp; omega) | omega, Hs.out⟩
          · by_cases h2 : d < c
            · go_enter Tryz.func24, Tryz.ntmps24
              go_wp2_with (first
                | (go_at_call 26; (with_reducible refine (coord_is a _ _ Ha.out).mono ?_); rintro e w' ⟨rfl, rfl⟩)
                | (go_at_call 26; (with_reducible refine (coord_is b _ _ Hb.out).mono ?_); rintro e w' ⟨rfl, rfl⟩)
                | (go_at_call 26; (with_reducible refine (coord_is c _ _ Hc.out).mono ?_); rintro e w' ⟨rfl, rfl⟩)
                | (go_at_call 26; (with_reducible refine (coord_is d _ _ Hd.out).mono ?_); rintro e w' ⟨rfl, rfl⟩))
              go_ret
              exact ⟨by rw [← HV.out]; first | rfl | (simp [*]; done) | (simp; omega) | omega, Hs.out⟩
            · go_enter Tryz.func24, Tryz.ntmps24
              go_wp2_with (first
                | (go_at_call 26; (with_reducible refine (coord_is a _ _ Ha.out).mono ?_); rintro e w' ⟨rfl, rfl⟩)
                | (go_at_call 26; (with_reducible refine (coord_is b _ _ Hb.out).mono ?_); rintro e w' ⟨rfl, rfl⟩)
                | (go_at_call 26; (with_reducible refine (coord_is c _ _ Hc.out).mono ?_); rintro e w' ⟨rfl, rfl⟩)
                | (go_at_call 26; (with_reducible refine (coord_is d _ _ Hd.out).mono ?_); rintro e w' ⟨rfl, rfl⟩))
              go_ret
              exact ⟨by rw [← HV.out]; first | rfl | (simp [*]; done) | (simp; omega) | omega, Hs.out⟩
set_option maxRecDepth 100000 in
set_option maxHeartbeats 2000000 in
theorem winRf_any (a b c : Int) (w : World) :
    Calls Tryz.prog 25 #[.agg #[.int .i64 a, .int .i64 b, .int .i64 c]] w fun e w' => e = .returned (.int .i64 (boxE a b c 1099511627776)) ∧ Same w w' := by
  have Hs := hide ((Chg.refl (fun _ => False) w).alloc (.cells #[.int .i64 a, .int .i64 b, .int .i64 c] 32))
  have HC := hide (boxRf_any a b c 1099511627776)
  obtain ⟨v, hv⟩ : ∃ v, boxE a b c 1099511627776 = v := ⟨_, rfl⟩
  rw [hv] at HC ⊢
  clear hv
  go_enter Tryz.func25, Tryz.ntmps25
  go_wp2_with (go_at_call 24; have hF := HC.out; refine (hF _).mono ?_; rintro e w' ⟨rfl, hs⟩; have Hs2 := hide hs; clear hs hF)
  go_ret
  exact ⟨rfl, Hs.out.same Hs2.out⟩
set_option maxRecDepth 100000 in
set_option maxHeartbeats 8000000 in
theorem checkRf_any (q : Qy) (w : World) :
    Calls Tryz.prog 11 #[qV q] w fun e w' => e = .returned (.int .i64 (checkE q)) ∧ Same w w' := by
  have Hs := hide ((Chg.refl (fun _ => False) w).alloc (.cells (qL q).toArray 34))
  obtain ⟨v, hv⟩ : ∃ v, checkE q = v := ⟨_, rfl⟩
  rw [hv]
  obtain ⟨k, a, b, c, d, e, f, g, x, h⟩ := q
  unfold checkE spanE at hv
  unfold qV
  simp only [qL] at Hs hv ⊢
  have HB := hide (boxRf_any a b c d)
  have HW := hide (winRf_any e f g)
  obtain ⟨eb, heb⟩ : ∃ v, boxE a b c d = v := ⟨_, rfl⟩
  rw [heb] at HB hv
  obtain ⟨ew, hew⟩ : ∃ v, boxE e f g 1099511627776 = v := ⟨_, rfl⟩
  rw [hew] at HW hv
  obtain ⟨gx, hx⟩ : ∃ v, good x = v := ⟨_, rfl⟩
  obtain ⟨gh, hh⟩ : ∃ v, good h = v := ⟨_, rfl⟩
  rw [hx, hh] at hv
  have Hx := hide hx
  have Hh := hide hh
  have HV := hide hv
  clear heb hew hx hh hv
  by_cases k1 : k = 1
  · subst k1
    go_enter Tryz.func11, Tryz.ntmps11
    go_wp2_with (first
      | (go_at_call 24; refine (HB.out _).mono ?_; rintro e w' ⟨rfl, hs⟩; have Hs2 := hide hs; clear hs)
      | (go_at_call 25; refine (HW.out _).mono ?_; rintro e w' ⟨rfl, hs⟩; have Hs2 := hide hs; clear hs)
      | (go_at_call 26; (with_reducible refine (coord_is x _ _ Hx.out).mono ?_); rintro e w' ⟨rfl, rfl⟩)
      | (go_at_call 26; (with_reducible refine (coord_is h _ _ Hh.out).mono ?_); rintro e w' ⟨rfl, rfl⟩))
    go_ret
    exact ⟨by rw [← HV.out]; first | rfl | (simp [*]; done) | (simp; omega) | omega, by first | exact Hs.out | exact Hs.out.same Hs2.out⟩
  · by_cases k2 : k = 2
    · subst k2
      go_enter Tryz.func11, Tryz.ntmps11
      go_wp2_with (first
        | (go_at_call 24; refine (HB.out _).mono ?_; rintro e w' ⟨rfl, hs⟩; have Hs2 := hide hs; clear hs)
        | (go_at_call 25; refine (HW.out _).mono ?_; rintro e w' ⟨rfl, hs⟩; have Hs2 := hide hs; clear hs)
        | (go_at_call 26; (with_reducible refine (coord_is x _ _ Hx.out).mono ?_); rintro e w' ⟨rfl, rfl⟩)
        | (go_at_call 26; (with_reducible refine (coord_is h _ _ Hh.out).mono ?_); rintro e w' ⟨rfl, rfl⟩))
      go_ret
      exact ⟨by rw [← HV.out]; first | rfl | (simp [*]; done) | (simp; omega) | omega, by first | exact Hs.out | exact Hs.out.same Hs2.out⟩
    · by_cases k3 : k = 3
      · subst k3
        go_enter Tryz.func11, Tryz.ntmps11
        go_wp2_with (first
          | (go_at_call 24; refine (HB.out _).mono ?_; rintro e w' ⟨rfl, hs⟩; have Hs2 := hide hs; clear hs)
          | (go_at_call 25; refine (HW.out _).mono ?_; rintro e w' ⟨rfl, hs⟩; have Hs2 := hide hs; clear hs)
          | (go_at_call 26; (with_reducible refine (coord_is x _ _ Hx.out).mono ?_); rintro e w' ⟨rfl, rfl⟩)
          | (go_at_call 26; (with_reducible refine (coord_is h _ _ Hh.out).mono ?_); rintro e w' ⟨rfl, rfl⟩))
        go_ret
        exact ⟨by rw [← HV.out]; first | rfl | (simp [*]; done) | (simp; omega) | omega, by first | exact Hs.out | exact Hs.out.same Hs2.out⟩
      · by_cases k4 : k = 4
        · subst k4
          go_enter Tryz.func11, Tryz.ntmps11
          go_wp2_with (first
            | (go_at_call 24; refine (HB.out _).mono ?_; rintro e w' ⟨rfl, hs⟩; have Hs2 := hide hs; clear hs)
            | (go_at_call 25; refine (HW.out _).mono ?_; rintro e w' ⟨rfl, hs⟩; have Hs2 := hide hs; clear hs)
            | (go_at_call 26; (with_reducible refine (coord_is x _ _ Hx.out).mono ?_); rintro e w' ⟨rfl, rfl⟩)
            | (go_at_call 26; (with_reducible refine (coord_is h _ _ Hh.out).mono ?_); rintro e w' ⟨rfl, rfl⟩))
          go_ret
          exact ⟨by rw [← HV.out]; first | rfl | (simp [*]; done) | (simp; omega) | omega, by first | exact Hs.out | exact Hs.out.same Hs2.out⟩
        · by_cases k5 : k = 5
          · subst k5
            rcases gx with _ | _
            · go_enter Tryz.func11, Tryz.ntmps11
              go_wp2_with (first
                | (go_at_call 24; refine (HB.out _).mono ?_; rintro e w' ⟨rfl, hs⟩; have Hs2 := hide hs; clear hs)
                | (go_at_call 25; refine (HW.out _).mono ?_; rintro e w' ⟨rfl, hs⟩; have Hs2 := hide hs; clear hs)
                | (go_at_call 26; (with_reducible refine (coord_is x _ _ Hx.out).mono ?_); rintro e w' ⟨rfl, rfl⟩)
                | (go_at_call 26; (with_reducible refine (coord_is h _ _ Hh.out).mono ?_); rintro e w' ⟨rfl, rfl⟩))
              go_ret
              exact ⟨by rw [← HV.out]; first | rfl | (simp [*]; done) | (simp; omega) | omega, by first | exact Hs.out | exact Hs.out.same Hs2.out⟩
            · go_enter Tryz.func11, Tryz.ntmps11
              go_wp2_with (first
                | (go_at_call 24; refine (HB.out _).mono ?_; rintro e w' ⟨rfl, hs⟩; have Hs2 := hide hs; clear hs)
                | (go_at_call 25; refine (HW.out _).mono ?_; rintro e w' ⟨rfl, hs⟩; have Hs2 := hide hs; clear hs)
                | (go_at_call 26; (with_reducible refine (coord_is x _ _ Hx.out).mono ?_); rintro e w' ⟨rfl, rfl⟩)
                | (go_at_call 26; (with_reducible refine (coord_is h _ _ Hh.out).mono ?_); rintro e w' ⟨rfl, rfl⟩))
              go_ret
              exact ⟨by rw [← HV.out]; first | rfl | (simp [*]; done) | (simp; omega) | omega, by first | exact Hs.out | exact Hs.out.same Hs2.out⟩
          · by_cases k6 : k = 6 ∨ k = 7
            · have b1 : (k == 1) = false := by simpa using k1
              have b2 : (k == 2) = false := by simpa using k2
              have b3 : (k == 3) = false := by simpa using k3
              have b4 : (k == 4) = false := by simpa using k4
              have k57 : 5 < k := by omega
              have k77 : k ≤ 7 := by omega
              have k5b : ¬ k < 5 := by omega
              rcases gx with _ | _
              · go_enter Tryz.func11, Tryz.ntmps11
                go_wp2_with (first
                  | (go_at_call 24; refine (HB.out _).mono ?_; rintro e w' ⟨rfl, hs⟩; have Hs2 := hide hs; clear hs)
                  | (go_at_call 25; refine (HW.out _).mono ?_; rintro e w' ⟨rfl, hs⟩; have Hs2 := hide hs; clear hs)
                  | (go_at_call 26; (with_reducible refine (coord_is x _ _ Hx.out).mono ?_); rintro e w' ⟨rfl, rfl⟩)
                  | (go_at_call 26; (with_reducible refine (coord_is h _ _ Hh.out).mono ?_); rintro e w' ⟨rfl, rfl⟩))
                go_ret
                exact ⟨by rw [← HV.out]; first | rfl | (simp [*]; done) | (simp; omega) | omega, by first | exact Hs.out | exact Hs.out.same Hs2.out⟩
              · rcases gh with _ | _
                · go_enter Tryz.func11, Tryz.ntmps11
                  go_wp2_with (first
                    | (go_at_call 24; refine (HB.out _).mono ?_; rintro e w' ⟨rfl, hs⟩; have Hs2 := hide hs; clear hs)
                    | (go_at_call 25; refine (HW.out _).mono ?_; rintro e w' ⟨rfl, hs⟩; have Hs2 := hide hs; clear hs)
                    | (go_at_call 26; (with_reducible refine (coord_is x _ _ Hx.out).mono ?_); rintro e w' ⟨rfl, rfl⟩)
                    | (go_at_call 26; (with_reducible refine (coord_is h _ _ Hh.out).mono ?_); rintro e w' ⟨rfl, rfl⟩))
                  go_ret
                  exact ⟨by rw [← HV.out]; first | rfl | (simp [*]; done) | (simp; omega) | omega, by first | exact Hs.out | exact Hs.out.same Hs2.out⟩
                · by_cases xh : h < x
                  · go_enter Tryz.func11, Tryz.ntmps11
                    go_wp2_with (first
                      | (go_at_call 24; refine (HB.out _).mono ?_; rintro e w' ⟨rfl, hs⟩; have Hs2 := hide hs; clear hs)
                      | (go_at_call 25; refine (HW.out _).mono ?_; rintro e w' ⟨rfl, hs⟩; have Hs2 := hide hs; clear hs)
                      | (go_at_call 26; (with_reducible refine (coord_is x _ _ Hx.out).mono ?_); rintro e w' ⟨rfl, rfl⟩)
                      | (go_at_call 26; (with_reducible refine (coord_is h _ _ Hh.out).mono ?_); rintro e w' ⟨rfl, rfl⟩))
                    go_ret
                    exact ⟨by rw [← HV.out]; first | rfl | (simp [*]; done) | (simp; omega) | omega, by first | exact Hs.out | exact Hs.out.same Hs2.out⟩
                  · go_enter Tryz.func11, Tryz.ntmps11
                    go_wp2_with (first
                      | (go_at_call 24; refine (HB.out _).mono ?_; rintro e w' ⟨rfl, hs⟩; have Hs2 := hide hs; clear hs)
                      | (go_at_call 25; refine (HW.out _).mono ?_; rintro e w' ⟨rfl, hs⟩; have Hs2 := hide hs; clear hs)
                      | (go_at_call 26; (with_reducible refine (coord_is x _ _ Hx.out).mono ?_); rintro e w' ⟨rfl, rfl⟩)
                      | (go_at_call 26; (with_reducible refine (coord_is h _ _ Hh.out).mono ?_); rintro e w' ⟨rfl, rfl⟩))
                    go_ret
                    exact ⟨by rw [← HV.out]; first | rfl | (simp [*]; done) | (simp; omega) | omega, by first | exact Hs.out | exact Hs.out.same Hs2.out⟩
            · have b1 : (k == 1) = false := by simpa using k1
              have b2 : (k == 2) = false := by simpa using k2
              have b3 : (k == 3) = false := by simpa using k3
              have b4 : (k == 4) = false := by simpa using k4
              have k57 : k < 5 ∨ 7 < k := by omega
              by_cases k8 : k < 5
              · go_enter Tryz.func11, Tryz.ntmps11
                go_wp2_with (first
                  | (go_at_call 24; refine (HB.out _).mono ?_; rintro e w' ⟨rfl, hs⟩; have Hs2 := hide hs; clear hs)
                  | (go_at_call 25; refine (HW.out _).mono ?_; rintro e w' ⟨rfl, hs⟩; have Hs2 := hide hs; clear hs)
                  | (go_at_call 26; (with_reducible refine (coord_is x _ _ Hx.out).mono ?_); rintro e w' ⟨rfl, rfl⟩)
                  | (go_at_call 26; (with_reducible refine (coord_is h _ _ Hh.out).mono ?_); rintro e w' ⟨rfl, rfl⟩))
                go_ret
                exact ⟨by rw [← HV.out]; first | rfl | (simp [*]; done) | (simp; omega) | omega, by first | exact Hs.out | exact Hs.out.same Hs2.out⟩
              · have k9 : 7 < k := by omega
                go_enter Tryz.func11, Tryz.ntmps11
                go_wp2_with (first
                  | (go_at_call 24; refine (HB.out _).mono ?_; rintro e w' ⟨rfl, hs⟩; have Hs2 := hide hs; clear hs)
                  | (go_at_call 25; refine (HW.out _).mono ?_; rintro e w' ⟨rfl, hs⟩; have Hs2 := hide hs; clear hs)
                  | (go_at_call 26; (with_reducible refine (coord_is x _ _ Hx.out).mono ?_); rintro e w' ⟨rfl, rfl⟩)
                  | (go_at_call 26; (with_reducible refine (coord_is h _ _ Hh.out).mono ?_); rintro e w' ⟨rfl, rfl⟩))
                go_ret
                exact ⟨by rw [← HV.out]; first | rfl | (simp [*]; done) | (simp; omega) | omega, by first | exact Hs.out | exact Hs.out.same Hs2.out⟩
end Go.Proofs.YthjnecicagmdeaaGreat
