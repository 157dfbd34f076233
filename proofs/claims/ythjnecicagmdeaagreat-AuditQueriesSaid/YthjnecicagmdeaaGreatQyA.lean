/-
  What judges a query: box.Check, box.Open, plan.span, plan.check, and what these call. No conditions.
-/
import Derived.Test.YthjnecicagmdeaaGreatQyP
namespace Go.Proofs.YthjnecicagmdeaaGreat
open Go.RowKit Go.Al
set_option linter.unusedVariables false

set_option maxHeartbeats 400000 in
theorem odd_any (x : Int) (w : World) :
    Calls Tryz.prog 129 #[.int .i64 x] w fun e w' => e = .returned (.bool (!good x)) ∧ w = w' := by
  obtain ⟨b, hb⟩ : ∃ b, good x = b := ⟨_, rfl⟩
  have HG := hide (good_is x w b hb)
  rw [hb]
  clear hb
  go_enter Tryz.func129, Tryz.ntmps129
  go_wp2_with (go_at_call 85; have hF := HG.out; refine hF.mono ?_; rintro e w' ⟨rfl, rfl⟩)
  go_ret
  exact ⟨rfl, rfl⟩

def oddsB (xs : List Int) : Bool := xs.any fun x => !good x
set_option maxRecDepth 100000 in
set_option maxHeartbeats 1000000 in
theorem indexOdd_any {A : Option Addr} {c : Nat} (xs : List Int) (w : World) (h : Rd w A (is xs)) (hl : xs.length ≤ maxLen) :
    Calls Tryz.prog 188 #[.slice A xs.length c, .func (.func 129) #[] #[]] w fun e w' => (∃ k : Int, e = .returned (.int .i64 k) ∧ decide (0 ≤ k) = oddsB xs) ∧ w = w' := by
  unfold maxLen at hl
  have H := hide h
  obtain ⟨n, hn⟩ : ∃ n, xs.length = n := ⟨_, rfl⟩
  rw [hn] at hl ⊢
  have Hn := hide hn
  clear h hn
  go_enter Tryz.func188, Tryz.ntmps188
  go_wp2_with fail
  go_loopg [5, 8] n (fun k u vi wr => ∃ i : Nat, i ≤ n ∧ k = n - i ∧ vi = .int .i64 i ∧ w = wr ∧ ∀ x ∈ xs.take i, good x = true)
  case atStart => exact ⟨0, Nat.zero_le _, rfl, rfl, rfl, by simp⟩
  case round =>
    obtain ⟨i, hi, hk, rfl, rfl, hall⟩ := hrel
    have Hk := hide hk
    have Hall := hide hall
    clear hk hall
    by_cases hlt : i < n
    · have hil : i < xs.length := by rw [Hn.out]; exact hlt
      obtain ⟨b, off, rfl, hc⟩ := H.out.at_ (i := i) (by simpa using hil)
      simp only [is, List.getElem_map] at hc
      obtain ⟨x, hx⟩ : ∃ x, xs[i] = x := ⟨_, rfl⟩
      rw [hx] at hc
      have Hx := hide hx
      clear hx
      have HO := hide (odd_any x w)
      cases hg : good x
      · have Hg := hide hg
        have HO := hide (show Calls Tryz.prog 129 #[.int .i64 x] w fun e w' => e = .returned (.bool true) ∧ w = w' by have := HO.out; rw [hg] at this; exact this)
        clear hg
        go_wp2_with (go_at_call 129; have hF := HO.out; refine hF.mono ?_; rintro e w' ⟨rfl, rfl⟩)
        go_ret
        refine ⟨⟨i, rfl, ?_⟩, rfl⟩
        have : oddsB xs = true := List.any_eq_true.2 ⟨xs[i], List.getElem_mem hil, by rw [Hx.out, Hg.out]; rfl⟩
        rw [this]; simp
      · have Hg := hide hg
        have HO := hide (show Calls Tryz.prog 129 #[.int .i64 x] w fun e w' => e = .returned (.bool false) ∧ w = w' by have := HO.out; rw [hg] at this; exact this)
        clear hg
        go_wp2_with (go_at_call 129; have hF := HO.out; refine hF.mono ?_; rintro e w' ⟨rfl, rfl⟩)
        go_roundg (n - (i + 1))
        case measure => have := Hk.out; omega
        case rel =>
          refine ⟨i + 1, by omega, rfl, by go_num, rfl, ?_⟩
          intro y hy
          rw [List.take_succ_eq_append_getElem hil, List.mem_append] at hy
          rcases hy with hy | hy
          · exact Hall.out y hy
          · simp at hy; rw [hy, Hx.out]; exact Hg.out
    · go_wp2_with fail
      go_ret
      refine ⟨⟨-1, rfl, ?_⟩, rfl⟩
      have : oddsB xs = false := by
        rw [oddsB, List.any_eq_false]
        intro x hx
        have := Hall.out x (by rw [List.take_of_length_le (by rw [Hn.out]; omega)]; exact hx)
        simp [this]
      rw [this]; simp

set_option maxHeartbeats 400000 in
theorem containsOdd_any {A : Option Addr} {c : Nat} (xs : List Int) (w : World) (h : Rd w A (is xs)) (hl : xs.length ≤ maxLen) :
    Calls Tryz.prog 128 #[.slice A xs.length c, .func (.func 129) #[] #[]] w fun e w' => e = .returned (.bool (oddsB xs)) ∧ w = w' := by
  have HI := hide (indexOdd_any (c := c) xs w h hl)
  obtain ⟨n, hn⟩ : ∃ n, xs.length = n := ⟨_, rfl⟩
  rw [hn] at HI ⊢
  clear hl h hn
  go_enter Tryz.func128, Tryz.ntmps128
  go_wp2_with (go_at_call 188; have hF := HI.out; refine hF.mono ?_; rintro e w' ⟨⟨k, rfl, hk⟩, rfl⟩; have Hk := hide hk; clear hk hF)
  go_ret
  exact ⟨by rw [← Hk.out]; rfl, rfl⟩

set_option maxRecDepth 100000 in
set_option maxHeartbeats 1000000 in
theorem checked_any (a b c d : Int) (g : Nat) (w : World) (h : Blk w g 3 #[.int .i64 a, .int .i64 b, .int .i64 c, .int .i64 d]) :
    Calls Tryz.prog 84 #[.slice (some ⟨g, 0, none⟩) 4 4] w fun e w' => e = .returned (.int .i64 (boxE a b c d)) ∧ Same w w' := by
  have hr : Rd w (some ⟨g, 0, none⟩) (is [a, b, c, d]) := fun _ => ⟨g, 0, rfl, fun i x hx => by rw [Nat.zero_add, h.cell]; simpa [is] using hx⟩
  have HC := hide (containsOdd_any (c := 4) [a, b, c, d] w hr (by simp [maxLen]))
  have h0 := h.cell 0
  have h1 := h.cell 1
  have h2 := h.cell 2
  have h3 := h.cell 3
  simp at h0 h1 h2 h3
  have hb : boxE a b c d = if oddsB [a, b, c, d] then 2 else if b < a then 3 else if d < c then 3 else 0 := by
    unfold boxE oddsB
    cases ha : good a <;> cases hb : good b <;> cases hc : good c <;> cases hd : good d <;> simp [ha, hb, hc, hd]
  have hb4 := hide h
  rw [hb]
  clear hb h hr
  obtain ⟨o, ho⟩ : ∃ o, oddsB [a, b, c, d] = o := ⟨_, rfl⟩
  rw [ho] at HC ⊢
  clear ho
  obtain ⟨v, hv⟩ : ∃ v : Int, (if o = true then 2 else if b < a then 3 else if d < c then 3 else 0) = v := ⟨_, rfl⟩
  rw [hv]
  have HV := hide hv
  clear hv
  go_enter Tryz.func84, Tryz.ntmps84
  cases o
  · go_wp2_with (go_at_call 128; have hF := HC.out; refine hF.mono ?_; rintro e w' ⟨rfl, rfl⟩)
    clear HC
    go_loopg [3] 4 (fun k vi wr => ∃ i : Nat, k = 4 - i ∧ vi = .int .i64 i ∧ Same w wr ∧ (i = 0 ∨ (i = 2 ∧ a ≤ b) ∨ (i = 4 ∧ a ≤ b ∧ c ≤ d)))
    case atStart => exact ⟨0, rfl, rfl, Chg.refl _ _, .inl rfl⟩
    case round =>
      obtain ⟨i, hk, rfl, hsm, hi⟩ := hrel
      have Hk := hide hk
      have Hsm := hide hsm
      have k0 : wr.cell? ⟨g, 0, none⟩ = some (.int .i64 a) := (hb4.out.same hsm).cell 0
      have k1 : wr.cell? ⟨g, 1, none⟩ = some (.int .i64 b) := (hb4.out.same hsm).cell 1
      have k2 : wr.cell? ⟨g, 2, none⟩ = some (.int .i64 c) := (hb4.out.same hsm).cell 2
      have k3 : wr.cell? ⟨g, 3, none⟩ = some (.int .i64 d) := (hb4.out.same hsm).cell 3
      clear hsm hk h0 h1 h2 h3
      rcases hi with rfl | ⟨rfl, hab⟩ | ⟨rfl, hab, hcd⟩
      · by_cases hba : b < a
        · go_wp2_with fail
          go_quiet (fail)
          go_wp2_with fail
          go_ret
          exact ⟨by rw [← HV.out, if_neg (by simp), if_pos hba]; rfl, Hsm.out.trans (Same.of_drewN _ _)⟩
        · go_wp2_with fail
          go_quiet (fail)
          go_wp2_with fail
          go_roundg 2
          case measure => have := Hk.out; omega
          case rel => exact ⟨2, rfl, rfl, Hsm.out.trans (Same.of_drewN _ _), .inr (.inl ⟨rfl, by omega⟩)⟩
      · have Hab := hide hab
        clear hab
        by_cases hdc : d < c
        · go_wp2_with fail
          go_quiet (fail)
          go_wp2_with fail
          go_ret
          exact ⟨by rw [← HV.out, if_neg (by simp), if_neg (by have := Hab.out; omega), if_pos hdc]; rfl, Hsm.out.trans (Same.of_drewN _ _)⟩
        · go_wp2_with fail
          go_quiet (fail)
          go_wp2_with fail
          go_roundg 0
          case measure => have := Hk.out; omega
          case rel => exact ⟨4, rfl, rfl, Hsm.out.trans (Same.of_drewN _ _), .inr (.inr ⟨rfl, Hab.out, by omega⟩)⟩
      · have Hab := hide (And.intro hab hcd)
        clear hab hcd
        go_wp2_with fail
        go_ret
        exact ⟨by rw [← HV.out, if_neg (by simp), if_neg (by have := Hab.out; omega), if_neg (by have := Hab.out; omega)]; rfl, Hsm.out⟩
  · go_wp2_with (go_at_call 128; have hF := HC.out; refine hF.mono ?_; rintro e w' ⟨rfl, rfl⟩)
    go_ret
    exact ⟨by rw [← HV.out]; simp, Chg.refl _ _⟩
end Go.Proofs.YthjnecicagmdeaaGreat
