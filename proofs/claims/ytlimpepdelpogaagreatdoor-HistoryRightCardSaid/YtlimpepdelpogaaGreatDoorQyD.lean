/-
  What judges a query: box.Check, box.Open, plan.span, plan.check, and what these call. No conditions.
  What a query asks for: box.Has, box.Sees, box.Stabs, box.Overlap, plan.hit, plan.met, plan.points, plan.counts; plan.check. No conditions.
  Which queries may be: box.Open, plan.span, plan.check, plan.Check. No conditions.
  plan.check, and plan.Plain: the ids that a query asks for, of points or of intervals. Conditions: at most 1048576 of each, each list rising by its ids.
-/
import Derived.Test.YtlimpepdelpogaaGreatDoorQyF
import Derived.Test.YtlimpepdelpogaaGreatDoorIn
/-! QyA -/
namespace Go.Proofs.YtlimpepdelpogaaGreatDoor
open Go.RowKit Go.Al
set_option linter.unusedVariables false
set_option maxHeartbeats 1000000
set_option maxRecDepth 100000
theorem odd_any (x : Int) (w : World) :
    Calls Tryz.prog 168 #[.int .i64 x] w fun e w' => e = .returned (.bool (!good x)) ∧ w = w' := by
  obtain ⟨b, hb⟩ : ∃ b, good x = b := ⟨_, rfl⟩
  have HG := hide (good_is x w b hb)
  rw [hb]
  clear hb
  go_enter Tryz.func168, Tryz.ntmps168
  go_wp2_with (go_at_call 147; have hF := HG.out; refine hF.mono ?_; rintro e w' ⟨rfl, rfl⟩)
  go_ret
  exact ⟨rfl, rfl⟩
def oddsB (xs : List Int) : Bool := xs.any fun x => !good x
theorem indexOdd_any {A : Option Addr} {c : Nat} (xs : List Int) (w : World) (h : Rd w A (is xs)) (hl : xs.length ≤ maxLen) :
    Calls Tryz.prog 178 #[.slice A xs.length c, .func (.func 168) #[] #[]] w fun e w' => (∃ k : Int, e = .returned (.int .i64 k) ∧ decide (0 ≤ k) = oddsB xs) ∧ w = w' := by
  unfold maxLen at hl
  have H := hide h
  obtain ⟨n, hn⟩ : ∃ n, xs.length = n := ⟨_, rfl⟩
  rw [hn] at hl ⊢
  have Hn := hide hn
  clear h hn
  go_enter Tryz.func178, Tryz.ntmps178
  go_wp2_with fail
  go_loopg [5, 8] n (fun k u vi wr => ∃ i : Nat, i ≤ n ∧ k = n - i ∧ vi = .int .i64 i ∧ w = wr ∧ ∀ x ∈ xs.take i, good x = true)
  case atStart => exact ⟨0, Nat.zero_le _, rfl, rfl, rfl, by simp⟩
  case round =>
    obtain ⟨i, hi, hk, rfl, rfl, hall⟩ := hrel
    have Hk := hide hk
    have Hall := hide hall
    clear hk hall
    by_cases hlt : i < n
    · have hil : i < xs.length := by rw [Hn.out]; exact hlt
      obtain ⟨b, off, rfl, hc⟩ := H.out.at_ (i := i) (by simpa using hil)
      simp only [is, List.getElem_map] at hc
      obtain ⟨x, hx⟩ : ∃ x, xs[i] = x := ⟨_, rfl⟩
      rw [hx] at hc
      have Hx := hide hx
      clear hx
      have HO := hide (odd_any x w)
      cases hg : good x
      · have Hg := hide hg
        have HO := hide (show Calls Tryz.prog 168 #[.int .i64 x] w fun e w' => e = .returned (.bool true) ∧ w = w' by have := HO.out; rw [hg] at this; exact this)
        clear hg
        go_wp2_with (go_at_call 168; have hF := HO.out; refine hF.mono ?_; rintro e w' ⟨rfl, rfl⟩)
        go_ret
        refine ⟨⟨i, rfl, ?_⟩, rfl⟩
        have : oddsB xs = true := List.any_eq_true.2 ⟨xs[i], List.getElem_mem hil, by rw [Hx.out, Hg.out]; rfl⟩
        rw [this]; simp
      · have Hg := hide hg
        have HO := hide (show Calls Tryz.prog 168 #[.int .i64 x] w fun e w' => e = .returned (.bool false) ∧ w = w' by have := HO.out; rw [hg] at this; exact this)
        clear hg
        go_wp2_with (go_at_call 168; have hF := HO.out; refine hF.mono ?_; rintro e w' ⟨rfl, rfl⟩)
        go_roundg (n - (i + 1))
        case measure => have := Hk.out; omega
        case rel =>
          refine ⟨i + 1, by omega, rfl, by go_num, rfl, ?_⟩
          intro y hy
          rw [List.take_succ_eq_append_getElem hil, List.mem_append] at hy
          rcases hy with hy | hy
          · exact Hall.out y hy
          · simp at hy; rw [hy, Hx.out]; exact Hg.out
    · go_wp2_with fail
      go_ret
      refine ⟨⟨-1, rfl, ?_⟩, rfl⟩
      have : oddsB xs = false := by
        rw [oddsB, List.any_eq_false]
        intro x hx
        have := Hall.out x (by rw [List.take_of_length_le (by rw [Hn.out]; omega)]; exact hx)
        simp [this]
      rw [this]; simp
theorem containsOdd_any {A : Option Addr} {c : Nat} (xs : List Int) (w : World) (h : Rd w A (is xs)) (hl : xs.length ≤ maxLen) :
    Calls Tryz.prog 167 #[.slice A xs.length c, .func (.func 168) #[] #[]] w fun e w' => e = .returned (.bool (oddsB xs)) ∧ w = w' := by
  have HI := hide (indexOdd_any (c := c) xs w h hl)
  obtain ⟨n, hn⟩ : ∃ n, xs.length = n := ⟨_, rfl⟩
  rw [hn] at HI ⊢
  clear hl h hn
  go_enter Tryz.func167, Tryz.ntmps167
  go_wp2_with (go_at_call 178; have hF := HI.out; refine hF.mono ?_; rintro e w' ⟨⟨k, rfl, hk⟩, rfl⟩; have Hk := hide hk; clear hk hF)
  go_ret
  exact ⟨by rw [← Hk.out]; rfl, rfl⟩
theorem checked_any (a b c d : Int) (g : Nat) (w : World) (h : Blk w g 3 #[.int .i64 a, .int .i64 b, .int .i64 c, .int .i64 d]) :
    Calls Tryz.prog 146 #[.slice (some ⟨g, 0, none⟩) 4 4] w fun e w' => e = .returned (.int .i64 (boxE a b c d)) ∧ Same w w' := by
  have hr : Rd w (some ⟨g, 0, none⟩) (is [a, b, c, d]) := fun _ => ⟨g, 0, rfl, fun i x hx => by rw [Nat.zero_add, h.cell]; simpa [is] using hx⟩
  have HC := hide (containsOdd_any (c := 4) [a, b, c, d] w hr (by simp [maxLen]))
  have h0 := h.cell 0
  have h1 := h.cell 1
  have h2 := h.cell 2
  have h3 := h.cell 3
  simp at h0 h1 h2 h3
  have hb : boxE a b c d = if oddsB [a, b, c, d] then 2 else if b < a then 3 else if d < c then 3 else 0 := by
    unfold boxE oddsB
    cases ha : good a <;> cases hb : good b <;> cases hc : good c <;> cases hd : good d <;> simp [ha, hb, hc, hd]
  have hb4 := hide h
  rw [hb]
  clear hb h hr
  obtain ⟨o, ho⟩ : ∃ o, oddsB [a, b, c, d] = o := ⟨_, rfl⟩
  rw [ho] at HC ⊢
  clear ho
  obtain ⟨v, hv⟩ : ∃ v : Int, (if o = true then 2 else if b < a then 3 else if d < c then 3 else 0) = v := ⟨_, rfl⟩
  rw [hv]
  have HV := hide hv
  clear hv
  go_enter Tryz.func146, Tryz.ntmps146
  cases o
  · go_wp2_with (go_at_call 167; have hF := HC.out; refine hF.mono ?_; rintro e w' ⟨rfl, rfl⟩)
    clear HC
    go_loopg [3] 4 (fun k vi wr => ∃ i : Nat, k = 4 - i ∧ vi = .int .i64 i ∧ Same w wr ∧ (i = 0 ∨ (i = 2 ∧ a ≤ b) ∨ (i = 4 ∧ a ≤ b ∧ c ≤ d)))
    case atStart => exact ⟨0, rfl, rfl, Chg.refl _ _, .inl rfl⟩
    case round =>
      obtain ⟨i, hk, rfl, hsm, hi⟩ := hrel
      have Hk := hide hk
      have Hsm := hide hsm
      have k0 : wr.cell? ⟨g, 0, none⟩ = some (.int .i64 a) := (hb4.out.same hsm).cell 0
      have k1 : wr.cell? ⟨g, 1, none⟩ = some (.int .i64 b) := (hb4.out.same hsm).cell 1
      have k2 : wr.cell? ⟨g, 2, none⟩ = some (.int .i64 c) := (hb4.out.same hsm).cell 2
      have k3 : wr.cell? ⟨g, 3, none⟩ = some (.int .i64 d) := (hb4.out.same hsm).cell 3
      clear hsm hk h0 h1 h2 h3
      rcases hi with rfl | ⟨rfl, hab⟩ | ⟨rfl, hab, hcd⟩
      · by_cases hba : b < a
        · go_wp2_with fail
          go_quiet (fail)
          go_wp2_with fail
          go_ret
          exact ⟨by rw [← HV.out, if_neg (by simp), if_pos hba]; rfl, Hsm.out.trans (Same.of_drewN _ _)⟩
        · go_wp2_with fail
          go_quiet (fail)
          go_wp2_with fail
          go_roundg 2
          case measure => have := Hk.out; omega
          case rel => exact ⟨2, rfl, rfl, Hsm.out.trans (Same.of_drewN _ _), .inr (.inl ⟨rfl, by omega⟩)⟩
      · have Hab := hide hab
        clear hab
        by_cases hdc : d < c
        · go_wp2_with fail
          go_quiet (fail)
          go_wp2_with fail
          go_ret
          exact ⟨by rw [← HV.out, if_neg (by simp), if_neg (by have := Hab.out; omega), if_pos hdc]; rfl, Hsm.out.trans (Same.of_drewN _ _)⟩
        · go_wp2_with fail
          go_quiet (fail)
          go_wp2_with fail
          go_roundg 0
          case measure => have := Hk.out; omega
          case rel => exact ⟨4, rfl, rfl, Hsm.out.trans (Same.of_drewN _ _), .inr (.inr ⟨rfl, Hab.out, by omega⟩)⟩
      · have Hab := hide (And.intro hab hcd)
        clear hab hcd
        go_wp2_with fail
        go_ret
        exact ⟨by rw [← HV.out, if_neg (by simp), if_neg (by have := Hab.out; omega), if_neg (by have := Hab.out; omega)]; rfl, Hsm.out⟩
  · go_wp2_with (go_at_call 167; have hF := HC.out; refine hF.mono ?_; rintro e w' ⟨rfl, rfl⟩)
    go_ret
    exact ⟨by rw [← HV.out]; simp, Chg.refl _ _⟩
end Go.Proofs.YtlimpepdelpogaaGreatDoor
/-! QyB -/
namespace Go.Proofs.YtlimpepdelpogaaGreatDoor
open Go.RowKit Go.Al
set_option linter.unusedVariables false
set_option maxHeartbeats 800000
set_option maxRecDepth 100000
theorem within_any (n lo hi : Int) (w : World) :
    Calls Tryz.prog 148 #[.int .i64 n, .int .i64 lo, .int .i64 hi] w fun e w' => e = .returned (.bool (withinB n lo hi)) ∧ w = w' := by
  unfold withinB
  by_cases h : lo ≤ n
  · rw [decide_eq_true h]
    go_enter Tryz.func148, Tryz.ntmps148
    go_wp2_with fail
    go_ret
    exact ⟨by simp, rfl⟩
  · rw [decide_eq_false h]
    go_enter Tryz.func148, Tryz.ntmps148
    go_wp2_with fail
    go_ret
    exact ⟨by simp, rfl⟩
theorem within_is (n lo hi : Int) (w : World) (v : Bool) (h : withinB n lo hi = v) :
    Calls Tryz.prog 148 #[.int .i64 n, .int .i64 lo, .int .i64 hi] w fun e w' => e = .returned (.bool v) ∧ w = w' := h ▸ within_any n lo hi w
theorem has_any (a b c d : Int) (p : P3) (w : World) :
    Calls Tryz.prog 123 #[.agg #[.int .i64 a, .int .i64 b, .int .i64 c, .int .i64 d], agg3 p] w fun e w' => e = .returned (.bool (withinB p.2.1 a b && withinB p.2.2 c d)) ∧ Same w w' := by
  obtain ⟨i, x, y⟩ := p
  unfold agg3
  simp only
  obtain ⟨v, hv⟩ : ∃ v, withinB x a b = v := ⟨_, rfl⟩
  obtain ⟨u, hu⟩ : ∃ u, withinB y c d = u := ⟨_, rfl⟩
  have Hv := hide hv
  have Hu := hide hu
  rw [hv, hu]
  clear hv hu
  have Hs := hide (((Chg.refl (fun _ => False) w).alloc (.cells #[.int .i64 a, .int .i64 b, .int .i64 c, .int .i64 d] 31)).alloc (.cells #[.int .i64 i, .int .i64 x, .int .i64 y] 25))
  cases v
  all_goals
    go_enter Tryz.func123, Tryz.ntmps123
    go_wp2_with (first
      | (go_at_call 148; (with_reducible refine (within_is x a b _ _ Hv.out).mono ?_); rintro e w' ⟨rfl, rfl⟩)
      | (go_at_call 148; (with_reducible refine (within_is y c d _ _ Hu.out).mono ?_); rintro e w' ⟨rfl, rfl⟩))
    go_ret
    exact ⟨by simp, Hs.out⟩
theorem sees_any (a b c : Int) (p : P3) (w : World) :
    Calls Tryz.prog 124 #[.agg #[.int .i64 a, .int .i64 b, .int .i64 c], agg3 p] w fun e w' => e = .returned (.bool (withinB p.2.1 a b && decide (c ≤ p.2.2))) ∧ Same w w' := by
  obtain ⟨i, x, y⟩ := p
  unfold agg3
  simp only
  obtain ⟨v, hv⟩ : ∃ v, withinB x a b = v := ⟨_, rfl⟩
  have Hv := hide hv
  rw [hv]
  clear hv
  have Hs := hide (((Chg.refl (fun _ => False) w).alloc (.cells #[.int .i64 a, .int .i64 b, .int .i64 c] 33)).alloc (.cells #[.int .i64 i, .int .i64 x, .int .i64 y] 25))
  cases v
  all_goals
    go_enter Tryz.func124, Tryz.ntmps124
    go_wp2_with (go_at_call 148; refine (within_is _ _ _ _ _ Hv.out).mono ?_; rintro e w' ⟨rfl, rfl⟩)
    go_ret
    exact ⟨by simp, Hs.out⟩
theorem stabs_any (s : P3) (x : Int) (w : World) :
    Calls Tryz.prog 125 #[agg3 s, .int .i64 x] w fun e w' => e = .returned (.bool (withinB x s.2.1 s.2.2)) ∧ Same w w' := by
  obtain ⟨i, lo, hi⟩ := s
  unfold agg3
  simp only
  obtain ⟨v, hv⟩ : ∃ v, withinB x lo hi = v := ⟨_, rfl⟩
  have Hv := hide hv
  rw [hv]
  clear hv
  have Hs := hide ((Chg.refl (fun _ => False) w).alloc (.cells #[.int .i64 i, .int .i64 lo, .int .i64 hi] 27))
  go_enter Tryz.func125, Tryz.ntmps125
  go_wp2_with (go_at_call 148; refine (within_is _ _ _ _ _ Hv.out).mono ?_; rintro e w' ⟨rfl, rfl⟩)
  go_ret
  exact ⟨rfl, Hs.out⟩
theorem overlap_any (s t : P3) (w : World) :
    Calls Tryz.prog 126 #[agg3 s, agg3 t] w fun e w' => e = .returned (.bool (overB s t)) ∧ Same w w' := by
  obtain ⟨i, lo, hi⟩ := s
  obtain ⟨j, lo2, hi2⟩ := t
  unfold agg3 overB
  simp only
  have Hs := hide (((Chg.refl (fun _ => False) w).alloc (.cells #[.int .i64 i, .int .i64 lo, .int .i64 hi] 27)).alloc (.cells #[.int .i64 j, .int .i64 lo2, .int .i64 hi2] 27))
  by_cases h1 : lo ≤ hi
  · by_cases h2 : lo2 ≤ hi2
    · by_cases h3 : lo ≤ hi2
      · rw [decide_eq_true h1, decide_eq_true h2, decide_eq_true h3]
        go_enter Tryz.func126, Tryz.ntmps126
        go_wp2_with fail
        go_ret
        exact ⟨by simp, Hs.out⟩
      · rw [decide_eq_false h3]
        go_enter Tryz.func126, Tryz.ntmps126
        go_wp2_with fail
        go_ret
        exact ⟨by simp, Hs.out⟩
    · rw [decide_eq_false h2]
      go_enter Tryz.func126, Tryz.ntmps126
      go_wp2_with fail
      go_ret
      exact ⟨by simp, Hs.out⟩
  · rw [decide_eq_false h1]
    go_enter Tryz.func126, Tryz.ntmps126
    go_wp2_with fail
    go_ret
    exact ⟨by simp, Hs.out⟩
theorem hit_any (q : Qy) (p : P3) (w : World) :
    Calls Tryz.prog 85 #[qV q, agg3 p] w fun e w' => e = .returned (.bool (hitB q p)) ∧ Same w w' := by
  unfold hitB
  have Hs := hide (((Chg.refl (fun _ => False) w).alloc (.cells (qL q).toArray 35)).alloc (.cells #[.int .i64 p.1, .int .i64 p.2.1, .int .i64 p.2.2] 25))
  obtain ⟨k, a, b, c, d, e, f, g, x, h⟩ := q
  unfold qV
  simp only [qL] at Hs ⊢
  by_cases hk : k ≤ 2
  · rw [if_pos hk]
    have HC := hide (has_any a b c d p)
    obtain ⟨i, px, py⟩ := p
    unfold agg3 at HC ⊢
    simp only at HC Hs ⊢
    obtain ⟨v, hv⟩ : ∃ v, (withinB px a b && withinB py c d) = v := ⟨_, rfl⟩
    rw [hv] at HC ⊢
    clear hv
    go_enter Tryz.func85, Tryz.ntmps85
    go_wp2_with (go_at_call 123; have hF := HC.out; refine (hF _).mono ?_; rintro e w' ⟨rfl, hs⟩; have Hs2 := hide hs; clear hs hF)
    go_ret
    exact ⟨rfl, Hs.out.same Hs2.out⟩
  · rw [if_neg hk]
    have HC := hide (sees_any e f g p)
    obtain ⟨i, px, py⟩ := p
    unfold agg3 at HC ⊢
    simp only at HC Hs ⊢
    obtain ⟨v, hv⟩ : ∃ v, (withinB px e f && decide (g ≤ py)) = v := ⟨_, rfl⟩
    rw [hv] at HC ⊢
    clear hv
    go_enter Tryz.func85, Tryz.ntmps85
    go_wp2_with (go_at_call 124; have hF := HC.out; refine (hF _).mono ?_; rintro e w' ⟨rfl, hs⟩; have Hs2 := hide hs; clear hs hF)
    go_ret
    exact ⟨rfl, Hs.out.same Hs2.out⟩
theorem met_any (q : Qy) (s : P3) (w : World) :
    Calls Tryz.prog 86 #[qV q, agg3 s] w fun e w' => e = .returned (.bool (metB q s)) ∧ Same w w' := by
  unfold metB
  have Hs := hide (((Chg.refl (fun _ => False) w).alloc (.cells (qL q).toArray 35)).alloc (.cells #[.int .i64 s.1, .int .i64 s.2.1, .int .i64 s.2.2] 27))
  obtain ⟨k, a, b, c, d, e, f, g, x, h⟩ := q
  unfold qV
  simp only [qL] at Hs ⊢
  by_cases hk : k = 5
  · rw [if_pos hk]
    have HC := hide (stabs_any s x)
    obtain ⟨i, lo, hi⟩ := s
    unfold agg3 at HC ⊢
    simp only at HC Hs ⊢
    obtain ⟨v, hv⟩ : ∃ v, withinB x lo hi = v := ⟨_, rfl⟩
    rw [hv] at HC ⊢
    clear hv
    subst hk
    go_enter Tryz.func86, Tryz.ntmps86
    go_wp2_with (go_at_call 125; have hF := HC.out; refine (hF _).mono ?_; rintro e w' ⟨rfl, hs⟩; have Hs2 := hide hs; clear hs hF)
    go_ret
    exact ⟨rfl, Hs.out.same Hs2.out⟩
  · rw [if_neg hk]
    have HC := hide (overlap_any s (0, x, h))
    obtain ⟨i, lo, hi⟩ := s
    unfold agg3 at HC ⊢
    simp only at HC Hs ⊢
    obtain ⟨v, hv⟩ : ∃ v, overB (i, lo, hi) (0, x, h) = v := ⟨_, rfl⟩
    rw [hv] at HC ⊢
    clear hv
    go_enter Tryz.func86, Tryz.ntmps86
    go_wp2_with (go_at_call 126; have hF := HC.out; refine (hF _).mono ?_; rintro e w' ⟨rfl, hs⟩; have Hs2 := hide hs; clear hs hF)
    go_ret
    exact ⟨rfl, Hs.out.same Hs2.out⟩
theorem pointsQ_any (q : Qy) (w : World) :
    Calls Tryz.prog 84 #[qV q] w fun e w' => e = .returned (.bool (pointsB q)) ∧ Same w w' := by
  unfold pointsB
  have Hs := hide ((Chg.refl (fun _ => False) w).alloc (.cells (qL q).toArray 35))
  obtain ⟨k, a, b, c, d, e, f, g, x, h⟩ := q
  unfold qV
  simp only [qL] at Hs ⊢
  by_cases hk : 1 ≤ k
  · rw [decide_eq_true hk]
    go_enter Tryz.func84, Tryz.ntmps84
    go_wp2_with fail
    go_ret
    exact ⟨by simp, Hs.out⟩
  · rw [decide_eq_false hk]
    go_enter Tryz.func84, Tryz.ntmps84
    go_wp2_with fail
    go_ret
    exact ⟨by simp, Hs.out⟩
theorem counts_any (q : Qy) (w : World) :
    Calls Tryz.prog 87 #[qV q] w fun e w' => e = .returned (.bool (countsB q)) ∧ Same w w' := by
  unfold countsB
  have Hs := hide ((Chg.refl (fun _ => False) w).alloc (.cells (qL q).toArray 35))
  obtain ⟨k, a, b, c, d, e, f, g, x, h⟩ := q
  unfold qV
  simp only [qL] at Hs ⊢
  by_cases hk : k = 2
  · subst hk
    go_enter Tryz.func87, Tryz.ntmps87
    go_wp2_with fail
    go_ret
    exact ⟨by simp, Hs.out⟩
  · by_cases hk4 : k = 4
    · subst hk4
      go_enter Tryz.func87, Tryz.ntmps87
      go_wp2_with fail
      go_ret
      exact ⟨by simp, Hs.out⟩
    · go_enter Tryz.func87, Tryz.ntmps87
      go_wp2_with fail
      go_ret
      have h1 : (k == 2) = false := beq_eq_false_iff_ne.2 hk
      have h2 : (k == 4) = false := beq_eq_false_iff_ne.2 hk4
      exact ⟨by simp [h1, h2, hk, hk4]; rfl, Hs.out⟩
theorem boxCheck_any (a b c d : Int) (w : World) :
    Calls Tryz.prog 120 #[.agg #[.int .i64 a, .int .i64 b, .int .i64 c, .int .i64 d]] w fun e w' => e = .returned (.int .i64 (boxE a b c d)) ∧ Same w w' := by
  have hs := (((Chg.refl (fun _ => False) w).alloc (.cells #[.int .i64 a, .int .i64 b, .int .i64 c, .int .i64 d] 31)).alloc (.cells #[.int .i64 a, .int .i64 b, .int .i64 c, .int .i64 d] 3))
  have hb := Blk.new (w.alloc (.cells #[.int .i64 a, .int .i64 b, .int .i64 c, .int .i64 d] 31)) 3 #[.int .i64 a, .int .i64 b, .int .i64 c, .int .i64 d]
  have Hs := hide hs
  have HC := hide (checked_any a b c d _ _ hb)
  clear hs hb
  obtain ⟨v, hv⟩ : ∃ v, boxE a b c d = v := ⟨_, rfl⟩
  rw [hv] at HC ⊢
  clear hv
  go_enter Tryz.func120, Tryz.ntmps120
  go_wp2_with (go_at_call 146; have hF := HC.out; simp only [World.size_alloc] at hF; refine hF.mono ?_; rintro e w' ⟨rfl, hs⟩; have Hs2 := hide hs; clear hs hF)
  go_ret
  exact ⟨rfl, Hs.out.same Hs2.out⟩
end Go.Proofs.YtlimpepdelpogaaGreatDoor
/-! QyC -/
namespace Go.Proofs.YtlimpepdelpogaaGreatDoor
open Go.RowKit Go.Al
set_option linter.unusedVariables false
set_option maxHeartbeats 800000
set_option maxRecDepth 100000
theorem Blk.put4 {w : World} {g : Nat} {t : TypeId} {b0 b1 b2 b3 : Value} (h : Blk w g t #[b0, b1, b2, b3]) (u0 u1 u2 u3 : Value) : Blk ((((w.setCell ⟨g, 0, none⟩ u0).setCell ⟨g, 1, none⟩ u1).setCell ⟨g, 2, none⟩ u2).setCell ⟨g, 3, none⟩ u3) g t #[u0, u1, u2, u3] := by
  have := (((h.set_ 0 u0).set_ 1 u1).set_ 2 u2).set_ 3 u3
  simpa using this
theorem Chg.put4 {S : Nat → Prop} {a w : World} {g : Nat} (h : Chg S a w) (hg : S g ∨ a.heap.size ≤ g) (u0 u1 u2 u3 : Value) : Chg S a ((((w.setCell ⟨g, 0, none⟩ u0).setCell ⟨g, 1, none⟩ u1).setCell ⟨g, 2, none⟩ u2).setCell ⟨g, 3, none⟩ u3) :=
  (((h.setCell (p := ⟨g, 0, none⟩) hg u0).setCell (p := ⟨g, 1, none⟩) hg u1).setCell (p := ⟨g, 2, none⟩) hg u2).setCell (p := ⟨g, 3, none⟩) hg u3
theorem open_any (a b c : Int) (w : World) :
    Calls Tryz.prog 121 #[.agg #[.int .i64 a, .int .i64 b, .int .i64 c]] w fun e w' => (∃ x1 x2 x3 x4 : Int, e = .returned (.tuple #[.agg #[.int .i64 x1, .int .i64 x2, .int .i64 x3, .int .i64 x4], .int .i64 (boxE a b c 1099511627776)])) ∧ Same w w' := by
  have hs := (((Chg.refl (fun _ => False) w).alloc (.cells #[.int .i64 a, .int .i64 b, .int .i64 c] 33)).alloc (.cells #[.int .i64 0, .int .i64 0, .int .i64 0, .int .i64 0] 31)).alloc (.cells #[.int .i64 a, .int .i64 b, .int .i64 c, .int .i64 1099511627776] 3)
  have hb := Blk.new ((w.alloc (.cells #[.int .i64 a, .int .i64 b, .int .i64 c] 33)).alloc (.cells #[.int .i64 0, .int .i64 0, .int .i64 0, .int .i64 0] 31)) 3 #[.int .i64 a, .int .i64 b, .int .i64 c, .int .i64 1099511627776]
  have hw := (Blk.new w 33 #[.int .i64 a, .int .i64 b, .int .i64 c]).alloc (.cells #[.int .i64 0, .int .i64 0, .int .i64 0, .int .i64 0] 31) |>.alloc (.cells #[.int .i64 a, .int .i64 b, .int .i64 c, .int .i64 1099511627776] 3)
  have hB := (Blk.new (w.alloc (.cells #[.int .i64 a, .int .i64 b, .int .i64 c] 33)) 31 #[.int .i64 0, .int .i64 0, .int .i64 0, .int .i64 0]).alloc (.cells #[.int .i64 a, .int .i64 b, .int .i64 c, .int .i64 1099511627776] 3)
  simp only [World.size_alloc] at hb hB
  have Hs := hide hs
  have Hw := hide hw
  have HB := hide hB
  have HC := hide (checked_any a b c 1099511627776 _ _ hb)
  clear hs hb hw hB
  obtain ⟨v, hv⟩ : ∃ v, boxE a b c 1099511627776 = v := ⟨_, rfl⟩
  rw [hv] at HC ⊢
  clear hv
  by_cases h0 : v = 0
  all_goals
    go_enter Tryz.func121, Tryz.ntmps121
    go_wp2_with (go_at_call 146; have hF := HC.out; refine hF.mono ?_; rintro e w' ⟨rfl, hs⟩; have Hs2 := hide hs; have hk := (Hw.out.same hs).cell; have hkB := (HB.out.same hs).cell; have hkf := (HB.out.same hs).frozen; have HB2 := hide (HB.out.same hs); clear hs hF)
  · refine bodyPost_ret (results_cell2 rfl rfl (Blk.put4 HB2.out _ _ _ _) Tryz.underlying31 rfl (by kernel_rfl)) rfl ⟨⟨a, b, c, 1099511627776, by rw [h0]; rfl⟩, ?_⟩
    exact Chg.put4 (Hs.out.same Hs2.out) (.inr (by omega)) _ _ _ _
  · refine bodyPost_ret (results_cell2 rfl rfl (Blk.put4 HB2.out _ _ _ _) Tryz.underlying31 rfl (by kernel_rfl)) rfl ⟨⟨0, 0, 0, 0, rfl⟩, ?_⟩
    exact Chg.put4 (Hs.out.same Hs2.out) (.inr (by omega)) _ _ _ _
theorem span_any_ (lo hi : Int) (w : World) :
    Calls Tryz.prog 122 #[.int .i64 lo, .int .i64 hi] w fun e w' => e = .returned (.int .i64 (spanE lo hi)) ∧ w = w' := by
  unfold spanE
  obtain ⟨u, hu⟩ : ∃ u, good lo = u := ⟨_, rfl⟩
  obtain ⟨v, hv⟩ : ∃ v, good hi = v := ⟨_, rfl⟩
  have Hu := hide hu
  have Hv := hide hv
  rw [hu, hv]
  clear hu hv
  by_cases h : hi < lo
  all_goals
    cases u
    · go_enter Tryz.func122, Tryz.ntmps122
      go_wp2_with (go_at_call 147; refine (good_is _ _ _ Hu.out).mono ?_; rintro e w' ⟨rfl, rfl⟩)
      go_ret
      exact ⟨by simp, rfl⟩
    · cases v
      all_goals
        go_enter Tryz.func122, Tryz.ntmps122
        go_wp2_with (first
          | (go_at_call 147; (with_reducible refine (good_is lo _ _ Hu.out).mono ?_); rintro e w' ⟨rfl, rfl⟩)
          | (go_at_call 147; (with_reducible refine (good_is hi _ _ Hv.out).mono ?_); rintro e w' ⟨rfl, rfl⟩))
        go_ret
        exact ⟨by first | (simp; done) | simp [h], rfl⟩
end Go.Proofs.YtlimpepdelpogaaGreatDoor
/-! QyD -/
namespace Go.Proofs.YtlimpepdelpogaaGreatDoor
open Go.RowKit Go.Al
set_option linter.unusedVariables false
set_option maxHeartbeats 2000000
set_option maxRecDepth 100000
theorem check_any (q : Qy) (w : World) :
    Calls Tryz.prog 81 #[qV q] w fun e w' => e = .returned (.int .i64 (checkE q)) ∧ Same w w' := by
  have Hs := hide ((Chg.refl (fun _ => False) w).alloc (.cells (qL q).toArray 35))
  have Hz : Hid (w.heap.size = w.heap.size) := hide rfl
  obtain ⟨k, a, b, c, d, e, f, g, x, h⟩ := q
  unfold qV checkE
  simp only [qL] at Hs ⊢
  by_cases hk1 : k = 1
  · have hE : (if k = 1 ∨ k = 2 then boxE a b c d else if k = 3 ∨ k = 4 then boxE e f g 1099511627776 else if k = 5 then spanE x x else if k = 6 ∨ k = 7 then spanE x h else 1) = boxE a b c d := by subst hk1; simp
    rw [hE]
    clear hE
    have HC := hide (boxCheck_any a b c d)
    obtain ⟨v, hv⟩ : ∃ v, boxE a b c d = v := ⟨_, rfl⟩
    rw [hv] at HC ⊢
    clear hv
    subst hk1
    go_enter Tryz.func81, Tryz.ntmps81
    go_wp2_with (go_at_call 120; have hF := HC.out; refine (hF _).mono ?_; rintro e w' ⟨rfl, hs⟩; have Hs2 := hide hs; clear hs hF)
    go_ret
    exact ⟨rfl, Hs.out.same Hs2.out⟩
  by_cases hk2 : k = 2
  · have hE : (if k = 1 ∨ k = 2 then boxE a b c d else if k = 3 ∨ k = 4 then boxE e f g 1099511627776 else if k = 5 then spanE x x else if k = 6 ∨ k = 7 then spanE x h else 1) = boxE a b c d := by subst hk2; simp
    rw [hE]
    clear hE
    have HC := hide (boxCheck_any a b c d)
    obtain ⟨v, hv⟩ : ∃ v, boxE a b c d = v := ⟨_, rfl⟩
    rw [hv] at HC ⊢
    clear hv
    subst hk2
    go_enter Tryz.func81, Tryz.ntmps81
    go_wp2_with (go_at_call 120; have hF := HC.out; refine (hF _).mono ?_; rintro e w' ⟨rfl, hs⟩; have Hs2 := hide hs; clear hs hF)
    go_ret
    exact ⟨rfl, Hs.out.same Hs2.out⟩
  by_cases hk3 : k = 3
  · have hE : (if k = 1 ∨ k = 2 then boxE a b c d else if k = 3 ∨ k = 4 then boxE e f g 1099511627776 else if k = 5 then spanE x x else if k = 6 ∨ k = 7 then spanE x h else 1) = boxE e f g 1099511627776 := by subst hk3; simp
    rw [hE]
    clear hE
    have HC := hide (open_any e f g)
    obtain ⟨v, hv⟩ : ∃ v, boxE e f g 1099511627776 = v := ⟨_, rfl⟩
    rw [hv] at HC ⊢
    clear hv
    subst hk3
    go_enter Tryz.func81, Tryz.ntmps81
    go_wp2_with (go_at_call 121; have hF := HC.out; refine (hF _).mono ?_; rintro e w' ⟨⟨x1, x2, x3, x4, rfl⟩, hs⟩; have Hs2 := hide hs; clear hs hF)
    go_ret
    exact ⟨rfl, (Hs.out.same Hs2.out).alloc _⟩
  by_cases hk4 : k = 4
  · have hE : (if k = 1 ∨ k = 2 then boxE a b c d else if k = 3 ∨ k = 4 then boxE e f g 1099511627776 else if k = 5 then spanE x x else if k = 6 ∨ k = 7 then spanE x h else 1) = boxE e f g 1099511627776 := by subst hk4; simp
    rw [hE]
    clear hE
    have HC := hide (open_any e f g)
    obtain ⟨v, hv⟩ : ∃ v, boxE e f g 1099511627776 = v := ⟨_, rfl⟩
    rw [hv] at HC ⊢
    clear hv
    subst hk4
    go_enter Tryz.func81, Tryz.ntmps81
    go_wp2_with (go_at_call 121; have hF := HC.out; refine (hF _).mono ?_; rintro e w' ⟨⟨x1, x2, x3, x4, rfl⟩, hs⟩; have Hs2 := hide hs; clear hs hF)
    go_ret
    exact ⟨rfl, (Hs.out.same Hs2.out).alloc _⟩
  by_cases hk5 : k = 5
  · have hE : (if k = 1 ∨ k = 2 then boxE a b c d else if k = 3 ∨ k = 4 then boxE e f g 1099511627776 else if k = 5 then spanE x x else if k = 6 ∨ k = 7 then spanE x h else 1) = spanE x x := by subst hk5; simp
    rw [hE]
    clear hE
    have HC := hide (span_any_ x x)
    obtain ⟨v, hv⟩ : ∃ v, spanE x x = v := ⟨_, rfl⟩
    rw [hv] at HC ⊢
    clear hv
    subst hk5
    go_enter Tryz.func81, Tryz.ntmps81
    go_wp2_with (go_at_call 122; have hF := HC.out; refine (hF _).mono ?_; rintro e w' ⟨rfl, rfl⟩)
    go_ret
    exact ⟨rfl, (Chg.refl _ w).alloc _⟩
  by_cases hk6 : k = 6
  · have hE : (if k = 1 ∨ k = 2 then boxE a b c d else if k = 3 ∨ k = 4 then boxE e f g 1099511627776 else if k = 5 then spanE x x else if k = 6 ∨ k = 7 then spanE x h else 1) = spanE x h := by subst hk6; simp
    rw [hE]
    clear hE
    have HC := hide (span_any_ x h)
    obtain ⟨v, hv⟩ : ∃ v, spanE x h = v := ⟨_, rfl⟩
    rw [hv] at HC ⊢
    clear hv
    subst hk6
    go_enter Tryz.func81, Tryz.ntmps81
    go_wp2_with (go_at_call 122; have hF := HC.out; refine (hF _).mono ?_; rintro e w' ⟨rfl, rfl⟩)
    go_ret
    exact ⟨rfl, Hs.out⟩
  by_cases hk7 : k = 7
  · have hE : (if k = 1 ∨ k = 2 then boxE a b c d else if k = 3 ∨ k = 4 then boxE e f g 1099511627776 else if k = 5 then spanE x x else if k = 6 ∨ k = 7 then spanE x h else 1) = spanE x h := by subst hk7; simp
    rw [hE]
    clear hE
    have HC := hide (span_any_ x h)
    obtain ⟨v, hv⟩ : ∃ v, spanE x h = v := ⟨_, rfl⟩
    rw [hv] at HC ⊢
    clear hv
    subst hk7
    go_enter Tryz.func81, Tryz.ntmps81
    go_wp2_with (go_at_call 122; have hF := HC.out; refine (hF _).mono ?_; rintro e w' ⟨rfl, rfl⟩)
    go_ret
    exact ⟨rfl, Hs.out⟩
  rw [if_neg (by omega), if_neg (by omega), if_neg (by omega), if_neg (by omega)]
  go_enter Tryz.func81, Tryz.ntmps81
  go_wp2_with fail
  go_ret
  exact ⟨rfl, Hs.out⟩
theorem Check_any (q : Qy) (w : World) :
    Calls Tryz.prog 52 #[qV q] w fun e w' => e = .returned (.int .i64 (checkE q)) ∧ Same w w' := by
  have Hs := hide ((Chg.refl (fun _ => False) w).alloc (.cells (qL q).toArray 35))
  have HC := hide (check_any q)
  obtain ⟨v, hv⟩ : ∃ v, checkE q = v := ⟨_, rfl⟩
  rw [hv] at HC ⊢
  clear hv
  obtain ⟨k, a, b, c, d, e, f, g, x, h⟩ := q
  unfold qV at HC ⊢
  simp only [qL] at Hs HC ⊢
  go_enter Tryz.func52, Tryz.ntmps52
  go_wp2_with (go_at_call 81; have hF := HC.out; refine (hF _).mono ?_; rintro e w' ⟨rfl, hs⟩; have Hs2 := hide hs; clear hs hF)
  go_ret
  exact ⟨rfl, Hs.out.same Hs2.out⟩
theorem Counts_any (q : Qy) (w : World) :
    Calls Tryz.prog 82 #[qV q] w fun e w' => e = .returned (.bool (countsB q)) ∧ Same w w' := by
  have Hs := hide ((Chg.refl (fun _ => False) w).alloc (.cells (qL q).toArray 35))
  have HC := hide (counts_any q)
  obtain ⟨v, hv⟩ : ∃ v, countsB q = v := ⟨_, rfl⟩
  rw [hv] at HC ⊢
  clear hv
  obtain ⟨k, a, b, c, d, e, f, g, x, h⟩ := q
  unfold qV at HC ⊢
  simp only [qL] at Hs HC ⊢
  go_enter Tryz.func82, Tryz.ntmps82
  go_wp2_with (go_at_call 87; have hF := HC.out; refine (hF _).mono ?_; rintro e w' ⟨rfl, hs⟩; have Hs2 := hide hs; clear hs hF)
  go_ret
  exact ⟨rfl, Hs.out.same Hs2.out⟩
end Go.Proofs.YtlimpepdelpogaaGreatDoor
