/-
  The document's own functions of a list: At, Push, Drop, and Same. Condition: at most 65536 elements.
-/
import Derived.Test.YtkakhpbeglkbnaaRgG
namespace Go.Proofs.Ytkakhpbeglkbnaa
open Go.RowKit Go.Al Go.Al.Rg
set_option linter.unusedVariables false

/-- a slice of integers that can be read -/
def Row (w : World) (A : Option Addr) (n c : Nat) (l : List Int) : Prop := Rd w A (is l) ∧ l.length = n ∧ n ≤ c ∧ c ≤ maxLen ∧ ∀ b, blkOf A = some b → b < w.heap.size
theorem Row.same {w w' : World} {A : Option Addr} {n c : Nat} {l : List Int} (h : Row w A n c l) (hs : Same w w') : Row w' A n c l :=
  ⟨h.1.same hs, h.2.1, h.2.2.1, h.2.2.2.1, fun b hb => by have := h.2.2.2.2 b hb; have := hs.size; omega⟩
theorem Row.chg {S : Nat → Prop} {w w' : World} {A : Option Addr} {n c : Nat} {l : List Int} (h : Row w A n c l) (hs : Chg S w w') (hn : ∀ b, blkOf A = some b → ¬ S b) : Row w' A n c l :=
  ⟨h.1.chg hs fun b hb _ => hn b hb, h.2.1, h.2.2.1, h.2.2.2.1, fun b hb => by have := h.2.2.2.2 b hb; have := hs.size; omega⟩
theorem Row.own {w : World} {base n m c : Nat} {A : Option Addr} {l : List Int} (h : w.ownsRow base 3 1 (.slice A m c) n (is l)) (hl : l.length = n) (hm : m = n) : Row w A m c l := by
  obtain ⟨A', c', he, h1, h2, h3, h4, h5, h6⟩ := own_form h
  obtain ⟨rfl, rfl, rfl⟩ : A = A' ∧ m = n ∧ c = c' := by injection he with e1 e2 e3; exact ⟨e1, e2, e3⟩
  exact ⟨h2, hl, h1, h5, fun b hb => ty_lt (h3 b hb)⟩
/-- a slice that came of another: it lies in the same block, or in a fresh one -/
def From (w : World) (A A' : Option Addr) : Prop := ∀ b, blkOf A' = some b → blkOf A = some b ∨ w.heap.size ≤ b

def atI (l : List Int) (v : Int) : Int := if v ∈ l then (pos l v : Nat) else -1

set_option maxRecDepth 100000 in
set_option maxHeartbeats 1000000 in
theorem at_any (A : Option Addr) (n c : Nat) (l : List Int) (v : Int) (w : World) (hr : Row w A n c l) (hn : n ≤ 65536) :
    Calls Try.prog 15 #[.slice A n c, .int .i64 v] w fun e w' => e = .returned (.int .i64 (atI l v)) ∧ w = w' := by
  have hln := hr.2.1
  have Hr := hide hr.1
  clear hr
  go_enter Try.func15, Try.ntmps15
  go_wp2_with fail
  go_loopg [5] n (fun k vi wr => ∃ i : Nat, i ≤ n ∧ k = n - i ∧ vi = .int .i64 i ∧ (∀ j, j < i → l[j]? ≠ some v) ∧ w = wr)
  case atStart => exact ⟨0, Nat.zero_le _, rfl, rfl, fun j h => by omega, rfl⟩
  case round =>
    obtain ⟨i, hi, hkk, rfl, hnot, rfl⟩ := hrel
    have Hk := hide hkk
    have Hnot := hide hnot
    clear hkk hnot
    by_cases hlt : i < n
    · have hil : i < l.length := by omega
      obtain ⟨b, off, rfl, hc0⟩ := Hr.out.at_ (i := i) (by simp; exact hil)
      have hc : w.cell? ⟨b, off + i, none⟩ = some (.int .i64 l[i]) := by rw [hc0]; simp [is]
      clear hc0
      have Hfound := hide (fun h => pos_found hil h Hnot.out : l[i] = v → v ∈ l ∧ pos l v = i)
      have Hn2 : Hid (¬ l[i] = v → ∀ j, j < i + 1 → l[j]? ≠ some v) := hide fun hne j hj => by
        rcases Nat.lt_or_ge j i with h | h
        · exact Hnot.out j h
        · have : j = i := by omega
          subst this
          rw [List.getElem?_eq_getElem hil]
          exact fun e => hne (Option.some.inj e)
      generalize l[i] = x at *
      by_cases hx : x = v
      · have hxb : (x == v) = true := by simp [hx]
        obtain ⟨h1, h2⟩ := Hfound.out hx
        clear hx
        go_wp2_with fail
        go_ret
        exact ⟨by rw [atI, if_pos h1, h2]; rfl, rfl⟩
      · have hxb : (x == v) = false := by simp [hx]
        have Hn3 := hide (Hn2.out hx)
        clear hx
        go_wp2_with fail
        go_roundg (n - (i + 1))
        case measure => have := Hk.out; omega
        case rel => exact ⟨i + 1, by omega, rfl, by go_num, Hn3.out, rfl⟩
    · have e : i = n := by omega
      have h := not_mem_of (q := l) (v := v) (fun j hj => Hnot.out j (by omega))
      go_wp2_with fail
      go_ret
      exact ⟨by rw [atI, if_neg h]; rfl, rfl⟩

set_option maxRecDepth 100000 in
set_option maxHeartbeats 1000000 in
/-- two slices that read alike -/
theorem same_eq (A B : Option Addr) (n c d : Nat) (l : List Int) (w : World) (hr : Row w A n c l) (hs : Row w B n d l) (hn : n ≤ 65536) :
    Calls Try.prog 19 #[.slice A n c, .slice B n d] w fun e w' => e = .returned (.bool true) ∧ Same w w' := by
  have hln := hr.2.1
  have Hr := hide hr.1
  have Hs := hide hs.1
  clear hr hs
  go_enter Try.func19, Try.ntmps19
  go_wp2_with fail
  go_loopg [5] n (fun k vi wr => ∃ i : Nat, i ≤ n ∧ k = n - i ∧ vi = .int .i64 i ∧ Same w wr)
  case atStart => exact ⟨0, Nat.zero_le _, rfl, rfl, Chg.refl _ _⟩
  case round =>
    obtain ⟨i, hi, hkk, rfl, hsm⟩ := hrel
    have Hk := hide hkk
    have Hsm := hide hsm
    clear hkk
    by_cases hlt : i < n
    · have hil : i < l.length := by omega
      obtain ⟨b, off, rfl, hc0⟩ := (Hr.out.same hsm).at_ (i := i) (by simp; exact hil)
      have hc : wr.cell? ⟨b, off + i, none⟩ = some (.int .i64 l[i]) := by rw [hc0]; simp [is]
      obtain ⟨b2, off2, rfl, hc20⟩ := (Hs.out.same hsm).at_ (i := i) (by simp; exact hil)
      have hc2 : wr.cell? ⟨b2, off2 + i, none⟩ = some (.int .i64 l[i]) := by rw [hc20]; simp [is]
      clear hsm hc0 hc20
      generalize l[i] = x at *
      go_wp2_with fail
      go_quiet (fail)
      go_wp2_with fail
      go_roundg (n - (i + 1))
      case measure => have := Hk.out; omega
      case rel => exact ⟨i + 1, by omega, rfl, by go_num, Hsm.out.trans (Same.of_drewN _ _)⟩
    · clear hsm
      go_wp2_with fail
      go_ret
      exact ⟨rfl, Hsm.out⟩

theorem atI_in {l : List Int} {v : Int} (h : v ∈ l) : atI l v = (pos l v : Nat) := if_pos h
theorem atI_out {l : List Int} {v : Int} (h : ¬ v ∈ l) : atI l v = -1 := if_neg h
set_option maxRecDepth 100000 in
set_option maxHeartbeats 1000000 in
theorem push_dup (A : Option Addr) (n c : Nat) (l : List Int) (most v : Int) (w : World) (hr : Row w A n c l) (hn : n ≤ 65536) (hv : v ∈ l) :
    Calls Try.prog 17 #[.slice A n c, .int .i64 most, .int .i64 v] w fun e w' => e = .returned (.tuple #[.slice A n c, .int .i64 5]) ∧ w = w' := by
  have hF := at_any A n c l v w hr hn
  rw [atI_in hv] at hF
  have HF := hide hF
  clear hF hr hv
  generalize pos l v = p at *
  go_enter Try.func17, Try.ntmps17
  go_wp2_with (go_at_call 15; have hF := HF.out; refine hF.mono ?_; rintro e w1 ⟨rfl, rfl⟩; clear hF)
  go_ret2
  exact ⟨rfl, rfl⟩
set_option maxRecDepth 100000 in
set_option maxHeartbeats 1000000 in
theorem push_full (A : Option Addr) (n c : Nat) (l : List Int) (most v : Int) (w : World) (hr : Row w A n c l) (hn : n ≤ 65536) (hv : ¬ v ∈ l) (hm : most ≤ n) :
    Calls Try.prog 17 #[.slice A n c, .int .i64 most, .int .i64 v] w fun e w' => e = .returned (.tuple #[.slice A n c, .int .i64 4]) ∧ w = w' := by
  have hF := at_any A n c l v w hr hn
  rw [atI_out hv] at hF
  have HF := hide hF
  clear hF hr hv
  go_enter Try.func17, Try.ntmps17
  go_wp2_with (go_at_call 15; have hF := HF.out; refine hF.mono ?_; rintro e w1 ⟨rfl, rfl⟩; clear hF)
  go_ret2
  exact ⟨rfl, rfl⟩
set_option maxRecDepth 100000 in
set_option maxHeartbeats 1000000 in
theorem push_ok (A : Option Addr) (n c : Nat) (l : List Int) (most v : Int) (w : World) (hr : Row w A n c l) (hn : n ≤ 65536) (hv : ¬ v ∈ l) (hm : (n : Int) < most) :
    Calls Try.prog 17 #[.slice A n c, .int .i64 most, .int .i64 v] w fun e w' => ∃ A' c', e = .returned (.tuple #[.slice A' (n + 1) c', .int .i64 0]) ∧ Row w' A' (n + 1) c' (l ++ [v]) ∧ Same w w' ∧ From w none A' := by
  have hF := at_any A n c l v w hr hn
  rw [atI_out hv] at hF
  have HF := hide hF
  have Hr := hide hr
  have Hl := hide hr.2.1
  clear hF hr hv
  go_enter Try.func17, Try.ntmps17
  go_wp2_with (first
    | (go_at_call 15; have hF := HF.out; refine hF.mono ?_; rintro e w1 ⟨rfl, rfl⟩; clear hF)
    | (at_builtin; refine wpList_appS rfl (.tmp 18) (.tmp 19) _ rfl slI rfl (own_lit w w.heap.size _ 1 #[] 0 (Nat.le_refl _) (by decide) rfl) rfl (by have := Hl.out; simp; omega) (Hr.out.1.alloc _) (one_is _) (by omega) (by omega) (by simp) ?_
       intro A5 c5 w5 hown5 hchg5 hat5
       rw [Nat.zero_add] at hown5
       have Hown5 := hide hown5
       have Hchg5 := hide hchg5
       have Hsz5 := hide hchg5.size
       clear hown5 hchg5 hat5)
    | (at_builtin; refine wpList_appS rfl (.tmp 20) (.tmp 22) _ rfl slI rfl (Hown5.out.alloc _) rfl rfl (rd_new w5 _ _) (one_is [v]) (by omega) (by omega) (by have := Hsz5.out; simp at this ⊢; omega) ?_
       intro A6 c6 w6 hown6 hchg6 hat6
       have Hown6 := hide hown6
       have Hchg6 := hide hchg6
       clear hown6 hchg6 hat6))
  go_ret2
  have hs5 : Same w w5 := ((Chg.refl _ w).alloc _).trans Hchg5.out (by intro k hk h; simp [blkOf] at h; omega)
  have hs6 : Same w w6 := (hs5.app Hown5.out (Nat.le_refl _) (((Chg.refl _ w5).alloc _).trans Hchg6.out fun _ _ h => h))
  have h6 := Hown6.out
  refine ⟨A6, c6, rfl, ?_, hs6, fun b hb => .inr ((h6.lt b (by rw [ownBlock_slice]; exact hb)).1)⟩
  exact Row.own (l := l ++ [v]) (by rw [is_append]; exact h6) (by simp [Hl.out]) rfl

set_option maxRecDepth 100000 in
set_option maxHeartbeats 1000000 in
theorem rdrop_no (A : Option Addr) (n c : Nat) (l : List Int) (v : Int) (w : World) (hr : Row w A n c l) (hn : n ≤ 65536) (hv : ¬ v ∈ l) :
    Calls Try.prog 16 #[.slice A n c, .int .i64 v] w fun e w' => e = .returned (.slice A n c) ∧ w = w' := by
  have hF := at_any A n c l v w hr hn
  rw [atI_out hv] at hF
  have HF := hide hF
  clear hF hr hv
  go_enter Try.func16, Try.ntmps16
  go_wp2_with (go_at_call 15; have hF := HF.out; refine hF.mono ?_; rintro e w1 ⟨rfl, rfl⟩; clear hF)
  go_ret
  exact ⟨rfl, rfl⟩
section
attribute [local go_sem ↓] Go.wp_at_zero Go.wp_at_succ
set_option maxRecDepth 100000 in
set_option maxHeartbeats 1000000 in
theorem rdrop_yes (A : Option Addr) (n c : Nat) (l : List Int) (v : Int) (w : World) (hr : Row w A n c l) (hn : n ≤ 65536) (hv : v ∈ l) :
    Calls Try.prog 16 #[.slice A n c, .int .i64 v] w fun e w' => ∃ A' c', e = .returned (.slice A' (n - 1) c') ∧ Row w' A' (n - 1) c' (l.eraseIdx (pos l v)) ∧ Same w w' ∧ From w none A' := by
  have hF := at_any A n c l v w hr hn
  rw [atI_in hv] at hF
  have HF := hide hF
  have Hr := hide hr
  have hpl := pos_lt hv
  have hln := hr.2.1
  have hc1 := hr.2.2.1
  have hc2 := hr.2.2.2.1
  clear hF hr hv
  generalize pos l v = p at *
  have hpn : p < n := by omega
  have Hln := hide hln
  have Hc2 := hide hc2
  clear hpl hln hc2
  have H1 := cut_hi slI A n c .i64 (p : Int) p rfl (by omega)
  obtain ⟨A2, H2, hrd2, hbk2⟩ := cut_lo slI Hr.out.1 (by simp [Hln.out]) hc1 .i64 ((p : Int) + 1) (p + 1) (by omega) (by omega)
  have Hrd1 : Hid (Rd w A (is (l.take p))) := hide (by have := Hr.out.1.take p; rw [is_take] at this; exact this)
  have Hrd2 : Hid (Rd w A2 (is (l.drop (p + 1)))) := hide (by rw [Nat.mul_one, is_drop] at hrd2; exact hrd2)
  clear hrd2 hbk2
  have b1 : (0 + p) * 8 ≤ 140737488355328 := by omega
  have b2 : 0 + p ≤ 140737488355328 := by omega
  have b3 : (0 + p + (n - (p + 1))) * 8 ≤ 140737488355328 := by omega
  have b4 : 0 + p + (n - (p + 1)) ≤ 140737488355328 := by omega
  have b5 : (is (l.take p)).length = p * 1 := by have := Hln.out; simp; omega
  have b6 : (is (l.drop (p + 1))).length = (n - (p + 1)) * 1 := by have := Hln.out; simp; omega
  have B := hide (And.intro b1 (And.intro b2 (And.intro b3 (And.intro b4 (And.intro b5 b6)))))
  clear b1 b2 b3 b4 b5 b6
  have hwr : IntKind.i64.wrap ((p : Int) + 1) = (p : Int) + 1 := IntWalk.i64_in _ (by omega)
  go_enter Try.func16, Try.ntmps16
  go_wp2_with (go_at_call 15; have hF := HF.out; refine hF.mono ?_; rintro e w1 ⟨rfl, rfl⟩; clear hF)
  go_region_held3 (fun _ => True) (first | go_keep | trivial)
    (first
     | (refine step_appS (by rfl) (.tmp 12) (.tmp 15) _ (by rfl) slI (by rfl) (base := w.heap.size) (by exact own_lit _ w.heap.size _ 1 #[] 0 (Nat.le_refl _) (by decide) rfl) (by rfl) B.out.2.2.2.2.1 (by exact Hrd1.out.alloc _) (one_is _) B.out.1 B.out.2.1 (by simp) ?_
        intro A5 c5 w5 hown5 hchg5 hat5
        have hcz : Same w w5 := ((((Chg.refl _ w).alloc _).drewN _).trans hchg5 (by intro k hk h; simp [blkOf] at h; omega))
        have Hown5 := hide hown5
        have Hcz := hide hcz
        clear hown5 hchg5 hat5 hcz)
     | (refine step_appS (by rfl) (.tmp 16) (.tmp 20) _ (by rfl) slI (by rfl) (base := w.heap.size) (by exact Hown5.out) (by rfl) B.out.2.2.2.2.2 (by exact Hrd2.out.same Hcz.out) (one_is _) B.out.2.2.1 B.out.2.2.2.1 (by exact Hcz.out.size) ?_
        intro A6 c6 w6 hown6 hchg6 hat6
        have Hown6 := hide hown6
        have Hchg6 := hide hchg6
        clear hown6 hchg6 hat6))
  go_wp2_with fail
  go_ret
  have h6 := Hown6.out
  have e1 : 0 + p + (n - (p + 1)) = n - 1 := by omega
  have e2 : p + (n - (p + 1)) = n - 1 := by omega
  refine ⟨A6, c6, by rw [← e2]; rfl, ?_, Hcz.out.app Hown5.out (Nat.le_refl _) Hchg6.out, fun b hb => .inr ((h6.lt b (by rw [ownBlock_slice]; exact hb)).1)⟩
  rw [← e1]
  exact Row.own (l := l.eraseIdx p) (by rw [List.eraseIdx_eq_take_drop_succ, is_append]; exact h6) (by rw [List.length_eraseIdx, if_pos (by have := Hln.out; omega)]; have := Hln.out; omega) rfl
end

theorem row_drop {A : Option Addr} {n c : Nat} {l : List Int} (v : Int) {w : World} (hr : Row w A n c l) (hn : n ≤ 65536) :
    Calls Try.prog 16 #[.slice A n c, .int .i64 v] w fun e w' => ∃ A' c', e = .returned (.slice A' (dropQ l v).length c') ∧ Row w' A' (dropQ l v).length c' (dropQ l v) ∧ Same w w' ∧ From w A A' := by
  by_cases hv : v ∈ l
  · refine (rdrop_yes A n c l v w hr hn hv).mono ?_
    rintro e w' ⟨A', c', rfl, h1, h2, h3⟩
    have e1 : n - 1 = (dropQ l v).length := by rw [dropQ, if_pos hv]; exact h1.2.1.symm
    rw [e1] at h1 ⊢
    refine ⟨A', c', rfl, ?_, h2, fun b hb => (h3 b hb).elim (fun h => by cases h) .inr⟩
    rw [dropQ, if_pos hv] at h1 ⊢
    exact h1
  · refine (rdrop_no A n c l v w hr hn hv).mono ?_
    rintro e w' ⟨rfl, rfl⟩
    rw [dropQ, if_neg hv, hr.2.1]
    exact ⟨A, c, rfl, hr, Chg.refl _ _, fun b hb => .inl hb⟩
theorem row_push {A : Option Addr} {n c : Nat} {l : List Int} (most : Nat) (v : Int) {w : World} (hr : Row w A n c l) (hn : n ≤ 65536) :
    Calls Try.prog 17 #[.slice A n c, .int .i64 most, .int .i64 v] w fun e w' => ∃ A' c', e = .returned (.tuple #[.slice A' (pushQ l most v).length c', .int .i64 (pushE l most v)]) ∧ Row w' A' (pushQ l most v).length c' (pushQ l most v) ∧ Same w w' ∧ From w A A' := by
  have hl := hr.2.1
  by_cases hv : v ∈ l
  · refine (push_dup A n c l most v w hr hn hv).mono ?_
    rintro e w' ⟨rfl, rfl⟩
    rw [pushQ, pushE, if_pos hv, if_pos hv, hl]
    exact ⟨A, c, rfl, hr, Chg.refl _ _, fun b hb => .inl hb⟩
  · by_cases hm : most ≤ l.length
    · refine (push_full A n c l most v w hr hn hv (by omega)).mono ?_
      rintro e w' ⟨rfl, rfl⟩
      rw [pushQ, pushE, if_neg hv, if_neg hv, if_pos hm, if_pos hm, hl]
      exact ⟨A, c, rfl, hr, Chg.refl _ _, fun b hb => .inl hb⟩
    · refine (push_ok A n c l most v w hr hn hv (by omega)).mono ?_
      rintro e w' ⟨A', c', rfl, h1, h2, h3⟩
      have e1 : n + 1 = (l ++ [v]).length := by simp [hl]
      rw [pushQ, pushE, if_neg hv, if_neg hv, if_neg hm, if_neg hm]
      rw [e1] at h1 ⊢
      exact ⟨A', c', rfl, h1, h2, fun b hb => (h3 b hb).elim (fun h => by cases h) .inr⟩
end Go.Proofs.Ytkakhpbeglkbnaa
