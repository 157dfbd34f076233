/-
  QueuePlays' own act, done to both. Condition: at most 60 acts.
-/
import Derived.Test.YtkakhpbeglkbnaaRqL
namespace Go.Proofs.Ytkakhpbeglkbnaa
open Go.RowKit Go.Al Go.Al.Rg
set_option linter.unusedVariables false

set_option maxRecDepth 100000 in
set_option maxHeartbeats 2000000 in
theorem does_any {w0 w : World} {g g' m b : Nat} {q : List Int} {id : Int} {held : Bool} {t : Nat} (k v : Int) (h : Pair w0 w g g' m b q id held t) (hm : m ≤ 65536) (hb : b ≤ 60) :
    Calls Try.prog 30 #[.pointer (some ⟨g, 0, none⟩), .pointer (some ⟨g', 0, none⟩), .agg #[.int .i64 k, .int .i64 v]] w fun e w' => e = .returned (.bool true) ∧ PairX w0 w' g g' m (b + 1) := by
  have hs1 : Same w (w.alloc (.cells #[.int .i64 k, .int .i64 v] 56)) := (Chg.refl _ w).alloc _
  have hp1 := h.same hs1
  by_cases k1 : k = 1
  · subst k1
    obtain ⟨X, B, hG⟩ := pair_grant hp1 hm hb
    have HG := hide hG
    clear hG hp1 h hs1
    go_enter Try.func30, Try.ntmps30
    go_wp2_with (first
      | (go_at_call 25; have hF := HG.out; refine hF.mono ?_; rintro e w1 ⟨rfl, hH⟩; have HH := hide hH; clear hH hF)
      | (go_at_call 39; have hF := HH.out; refine hF.mono ?_; rintro e w2 ⟨rfl, hH⟩; have HP := hide hH; clear hH hF))
    go_ret
    exact ⟨rfl, HP.out⟩
  · by_cases k2 : k = 2
    · subst k2
      obtain ⟨E, hG⟩ := pair_release v hp1
      have HG := hide hG
      clear hG hp1 h hs1
      go_enter Try.func30, Try.ntmps30
      go_wp2_with (first
        | (go_at_call 27; have hF := HG.out; refine hF.mono ?_; rintro e w1 ⟨rfl, hH⟩; have HH := hide hH; clear hH hF)
        | (go_at_call 40; have hF := HH.out; refine hF.mono ?_; rintro e w2 ⟨rfl, hH⟩; have HP := hide hH; clear hH hF))
      go_ret
      exact ⟨by simp, HP.out⟩
    · by_cases k3 : k = 3
      · subst k3
        obtain ⟨E, hG⟩ := pair_leave v hp1 hm hb
        have HG := hide hG
        clear hG hp1 h hs1
        go_enter Try.func30, Try.ntmps30
        go_wp2_with (first
          | (go_at_call 24; have hF := HG.out; refine hF.mono ?_; rintro e w1 ⟨rfl, hH⟩; have HH := hide hH; clear hH hF)
          | (go_at_call 41; have hF := HH.out; refine hF.mono ?_; rintro e w2 ⟨rfl, hH⟩; have HP := hide hH; clear hH hF))
        go_ret
        exact ⟨by simp, HP.out⟩
      · by_cases k4 : k = 4
        · subst k4
          cases held
          · obtain ⟨E, hG⟩ := pair_release v hp1
            have HG := hide hG
            obtain ⟨F, A, c, h1, h2, h3, h4, h5, h6⟩ := h
            have hk := h2.1.cell
            have bg : g' < w.heap.size := h2.1.lt
            clear hG hp1 hs1 h1 h2 h3 h4 h5 h6
            go_enter Try.func30, Try.ntmps30
            go_wp2_with (first
              | (go_at_call 27; have hF := HG.out; refine hF.mono ?_; rintro e w1 ⟨rfl, hH⟩; have HH := hide hH; clear hH hF)
              | (go_at_call 40; have hF := HH.out; refine hF.mono ?_; rintro e w2 ⟨rfl, hH⟩; have HP := hide hH; clear hH hF))
            go_ret
            exact ⟨by simp, HP.out⟩
          · obtain ⟨E, hG⟩ := pair_release id hp1
            have HG := hide hG
            obtain ⟨F, A, c, h1, h2, h3, h4, h5, h6⟩ := h
            have hk := h2.1.cell
            have bg : g' < w.heap.size := h2.1.lt
            have hn : 0 < (lst q id true).length := by simp [lst]
            obtain ⟨b2, off2, rfl, bh, hc⟩ := h2.2.1.at_ hn
            rw [show headI (lst q id true) = id from rfl] at hc
            generalize (lst q id true).length = n at *
            clear hG hp1 hs1 h1 h2 h3 h4 h5 h6
            go_enter Try.func30, Try.ntmps30
            go_wp2_with (first
              | (go_at_call 27; have hF := HG.out; refine hF.mono ?_; rintro e w1 ⟨rfl, hH⟩; have HH := hide hH; clear hH hF)
              | (go_at_call 40; have hF := HH.out; refine hF.mono ?_; rintro e w2 ⟨rfl, hH⟩; have HP := hide hH; clear hH hF))
            go_ret
            exact ⟨by simp, HP.out⟩
        · obtain ⟨E, hG⟩ := pair_want v hp1 hm hb
          have HG := hide hG
          clear hG hp1 h hs1
          go_enter Try.func30, Try.ntmps30
          go_wp2_with (first
            | (go_at_call 23; have hF := HG.out; refine hF.mono ?_; rintro e w1 ⟨rfl, hH⟩; have HH := hide hH; clear hH hF)
            | (go_at_call 42; have hF := HH.out; refine hF.mono ?_; rintro e w2 ⟨rfl, hH⟩; have HP := hide hH; clear hH hF))
          go_ret
          exact ⟨by simp, HP.out⟩
end Go.Proofs.Ytkakhpbeglkbnaa
