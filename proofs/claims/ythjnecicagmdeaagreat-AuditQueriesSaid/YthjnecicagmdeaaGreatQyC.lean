/-
  Which queries may be: box.Open, plan.span, plan.check, plan.Check. No conditions.
-/
import Derived.Test.YthjnecicagmdeaaGreatQyB
namespace Go.Proofs.YthjnecicagmdeaaGreat
open Go.RowKit Go.Al
set_option linter.unusedVariables false

theorem Blk.put4 {w : World} {g : Nat} {t : TypeId} {b0 b1 b2 b3 : Value} (h : Blk w g t #[b0, b1, b2, b3]) (u0 u1 u2 u3 : Value) : Blk ((((w.setCell ⟨g, 0, none⟩ u0).setCell ⟨g, 1, none⟩ u1).setCell ⟨g, 2, none⟩ u2).setCell ⟨g, 3, none⟩ u3) g t #[u0, u1, u2, u3] := by
  have := (((h.set_ 0 u0).set_ 1 u1).set_ 2 u2).set_ 3 u3
  simpa using this
theorem Chg.put4 {S : Nat → Prop} {a w : World} {g : Nat} (h : Chg S a w) (hg : S g ∨ a.heap.size ≤ g) (u0 u1 u2 u3 : Value) : Chg S a ((((w.setCell ⟨g, 0, none⟩ u0).setCell ⟨g, 1, none⟩ u1).setCell ⟨g, 2, none⟩ u2).setCell ⟨g, 3, none⟩ u3) :=
  (((h.setCell (p := ⟨g, 0, none⟩) hg u0).setCell (p := ⟨g, 1, none⟩) hg u1).setCell (p := ⟨g, 2, none⟩) hg u2).setCell (p := ⟨g, 3, none⟩) hg u3
set_option maxRecDepth 100000 in
set_option maxHeartbeats 800000 in
theorem open_any (a b c : Int) (w : World) :
    Calls Tryz.prog 58 #[.agg #[.int .i64 a, .int .i64 b, .int .i64 c]] w fun e w' => (∃ x1 x2 x3 x4 : Int, e = .returned (.tuple #[.agg #[.int .i64 x1, .int .i64 x2, .int .i64 x3, .int .i64 x4], .int .i64 (boxE a b c 1099511627776)])) ∧ Same w w' := by
  have hs := (((Chg.refl (fun _ => False) w).alloc (.cells #[.int .i64 a, .int .i64 b, .int .i64 c] 32)).alloc (.cells #[.int .i64 0, .int .i64 0, .int .i64 0, .int .i64 0] 30)).alloc (.cells #[.int .i64 a, .int .i64 b, .int .i64 c, .int .i64 1099511627776] 3)
  have hb := Blk.new ((w.alloc (.cells #[.int .i64 a, .int .i64 b, .int .i64 c] 32)).alloc (.cells #[.int .i64 0, .int .i64 0, .int .i64 0, .int .i64 0] 30)) 3 #[.int .i64 a, .int .i64 b, .int .i64 c, .int .i64 1099511627776]
  have hw := (Blk.new w 32 #[.int .i64 a, .int .i64 b, .int .i64 c]).alloc (.cells #[.int .i64 0, .int .i64 0, .int .i64 0, .int .i64 0] 30) |>.alloc (.cells #[.int .i64 a, .int .i64 b, .int .i64 c, .int .i64 1099511627776] 3)
  have hB := (Blk.new (w.alloc (.cells #[.int .i64 a, .int .i64 b, .int .i64 c] 32)) 30 #[.int .i64 0, .int .i64 0, .int .i64 0, .int .i64 0]).alloc (.cells #[.int .i64 a, .int .i64 b, .int .i64 c, .int .i64 1099511627776] 3)
  simp only [World.size_alloc] at hb hB
  have Hs := hide hs
  have Hw := hide hw
  have HB := hide hB
  have HC := hide (checked_any a b c 1099511627776 _ _ hb)
  clear hs hb hw hB
  obtain ⟨v, hv⟩ : ∃ v, boxE a b c 1099511627776 = v := ⟨_, rfl⟩
  rw [hv] at HC ⊢
  clear hv
  by_cases h0 : v = 0
  all_goals
    go_enter Tryz.func58, Tryz.ntmps58
    go_wp2_with (go_at_call 84; have hF := HC.out; refine hF.mono ?_; rintro e w' ⟨rfl, hs⟩; have Hs2 := hide hs; have hk := (Hw.out.same hs).cell; have hkB := (HB.out.same hs).cell; have hkf := (HB.out.same hs).frozen; have HB2 := hide (HB.out.same hs); clear hs hF)
  · refine bodyPost_ret (results_cell2 rfl rfl (Blk.put4 HB2.out _ _ _ _) Tryz.underlying30 rfl (by kernel_rfl)) rfl ⟨⟨a, b, c, 1099511627776, by rw [h0]; rfl⟩, ?_⟩
    exact Chg.put4 (Hs.out.same Hs2.out) (.inr (by omega)) _ _ _ _
  · refine bodyPost_ret (results_cell2 rfl rfl (Blk.put4 HB2.out _ _ _ _) Tryz.underlying30 rfl (by kernel_rfl)) rfl ⟨⟨0, 0, 0, 0, rfl⟩, ?_⟩
    exact Chg.put4 (Hs.out.same Hs2.out) (.inr (by omega)) _ _ _ _

set_option maxHeartbeats 400000 in
theorem span_any_ (lo hi : Int) (w : World) :
    Calls Tryz.prog 59 #[.int .i64 lo, .int .i64 hi] w fun e w' => e = .returned (.int .i64 (spanE lo hi)) ∧ w = w' := by
  unfold spanE
  obtain ⟨u, hu⟩ : ∃ u, good lo = u := ⟨_, rfl⟩
  obtain ⟨v, hv⟩ : ∃ v, good hi = v := ⟨_, rfl⟩
  have Hu := hide hu
  have Hv := hide hv
  rw [hu, hv]
  clear hu hv
  by_cases h : hi < lo
  all_goals
    cases u
    · go_enter Tryz.func59, Tryz.ntmps59
      go_wp2_with (go_at_call 85; refine (good_is _ _ _ Hu.out).mono ?_; rintro e w' ⟨rfl, rfl⟩)
      go_ret
      exact ⟨by simp, rfl⟩
    · cases v
      all_goals
        go_enter Tryz.func59, Tryz.ntmps59
        go_wp2_with (first
          | (go_at_call 85; (with_reducible refine (good_is lo _ _ Hu.out).mono ?_); rintro e w' ⟨rfl, rfl⟩)
          | (go_at_call 85; (with_reducible refine (good_is hi _ _ Hv.out).mono ?_); rintro e w' ⟨rfl, rfl⟩))
        go_ret
        exact ⟨by first | (simp; done) | simp [h], rfl⟩
end Go.Proofs.YthjnecicagmdeaaGreat
