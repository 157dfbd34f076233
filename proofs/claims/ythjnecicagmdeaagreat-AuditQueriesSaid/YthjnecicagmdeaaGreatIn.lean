/-
  Go's library at lists of integers: slices.Index, Contains, Equal, Clone, each in the words of this seat. Condition: lengths that a machine holds.
-/
import Derived.Test.YthjnecicagmdeaaGreatChecked
import Derived.Test.YthjnecicagmdeaaGreatLib
namespace Go.Proofs.YthjnecicagmdeaaGreat
open Go.RowKit Go.Al
set_option linter.unusedVariables false

/-- is a number among these? -/
def hasI (xs : List Int) (v : Int) : Bool := xs.any fun x => v == x
def eqI (xs ys : List Int) : Bool := decide (xs = ys)
theorem hasI_iff {xs : List Int} {v : Int} : hasI xs v = true ↔ v ∈ xs := by
  unfold hasI; simp [List.any_eq_true, beq_iff_eq]
theorem slI : SlTy Tryz.prog 52 3 1 8 := SlTy.of Tryz.underlying52 (by kernel_rfl : (Tryz.prog.info? 3).map (fun i => (i.zero, i.size, i.bytes)) = some (some (.int .i64 0), 1, 8)) rfl (by decide)

set_option maxRecDepth 100000 in
set_option maxHeartbeats 1000000 in
theorem index_any {A : Option Addr} {c : Nat} (xs : List Int) (v : Int) (w : World) (h : Rd w A (is xs)) (hl : xs.length ≤ maxLen) :
    Calls Tryz.prog 194 #[.slice A xs.length c, .int .i64 v] w fun e w' => (∃ k : Int, e = .returned (.int .i64 k) ∧ decide (0 ≤ k) = hasI xs v) ∧ w = w' := by
  unfold maxLen at hl
  have H := hide h
  obtain ⟨n, hn⟩ : ∃ n, xs.length = n := ⟨_, rfl⟩
  rw [hn] at hl ⊢
  have Hn := hide hn
  clear h hn
  go_enter Tryz.func194, Tryz.ntmps194
  go_wp2_with fail
  go_loopg [5, 8] n (fun k u vi wr => ∃ i : Nat, i ≤ n ∧ k = n - i ∧ vi = .int .i64 i ∧ w = wr ∧ ∀ x ∈ xs.take i, ¬ v = x)
  case atStart => exact ⟨0, Nat.zero_le _, rfl, rfl, rfl, by simp⟩
  case round =>
    obtain ⟨i, hi, hk, rfl, rfl, hall⟩ := hrel
    have Hk := hide hk
    have Hall := hide hall
    clear hk hall
    by_cases hlt : i < n
    · have hil : i < xs.length := by rw [Hn.out]; exact hlt
      obtain ⟨b, off, rfl, hc⟩ := H.out.at_ (i := i) (by simpa using hil)
      simp only [is, List.getElem_map] at hc
      obtain ⟨x, hx⟩ : ∃ x, xs[i] = x := ⟨_, rfl⟩
      rw [hx] at hc
      have Hx := hide hx
      clear hx
      by_cases hg : v = x
      · go_wp2_with fail
        go_ret
        refine ⟨⟨i, rfl, ?_⟩, rfl⟩
        have : hasI xs v = true := hasI_iff.2 (by rw [hg, ← Hx.out]; exact List.getElem_mem hil)
        rw [this]; simp
      · go_wp2_with fail
        go_roundg (n - (i + 1))
        case measure => have := Hk.out; omega
        case rel =>
          refine ⟨i + 1, by omega, rfl, by go_num, rfl, ?_⟩
          intro y hy
          rw [List.take_succ_eq_append_getElem hil, List.mem_append] at hy
          rcases hy with hy | hy
          · exact Hall.out y hy
          · simp at hy; rw [hy, Hx.out]; exact hg
    · go_wp2_with fail
      go_ret
      refine ⟨⟨-1, rfl, ?_⟩, rfl⟩
      have : hasI xs v = false := by
        cases hh : hasI xs v
        · rfl
        · exact absurd rfl (Hall.out v (by rw [List.take_of_length_le (by rw [Hn.out]; omega)]; exact hasI_iff.1 hh))
      rw [this]; simp
set_option maxHeartbeats 400000 in
theorem contains_any {A : Option Addr} {c : Nat} (xs : List Int) (v : Int) (w : World) (h : Rd w A (is xs)) (hl : xs.length ≤ maxLen) :
    Calls Tryz.prog 142 #[.slice A xs.length c, .int .i64 v] w fun e w' => e = .returned (.bool (hasI xs v)) ∧ w = w' := by
  have HI := hide (index_any (c := c) xs v w h hl)
  obtain ⟨n, hn⟩ : ∃ n, xs.length = n := ⟨_, rfl⟩
  rw [hn] at HI ⊢
  clear hl h hn
  go_enter Tryz.func142, Tryz.ntmps142
  go_wp2_with (go_at_call 194; have hF := HI.out; refine hF.mono ?_; rintro e w' ⟨⟨k, rfl, hk⟩, rfl⟩; have Hk := hide hk; clear hk hF)
  go_ret
  exact ⟨by rw [← Hk.out]; rfl, rfl⟩

set_option maxRecDepth 100000 in
set_option maxHeartbeats 2000000 in
theorem equal_any {A B : Option Addr} {c d : Nat} (xs ys : List Int) (w : World) (hx : Rd w A (is xs)) (hy : Rd w B (is ys)) (hl : xs.length ≤ maxLen) (hm : ys.length ≤ maxLen) :
    Calls Tryz.prog 68 #[.slice A xs.length c, .slice B ys.length d] w fun e w' => e = .returned (.bool (eqI xs ys)) ∧ Same w w' := by
  unfold maxLen at hl hm
  have HX := hide hx
  have HY := hide hy
  obtain ⟨n, hn⟩ : ∃ n, xs.length = n := ⟨_, rfl⟩
  obtain ⟨m, hm2⟩ : ∃ m, ys.length = m := ⟨_, rfl⟩
  rw [hn] at hl ⊢
  rw [hm2] at hm ⊢
  have Hn := hide hn
  have Hm := hide hm2
  clear hx hy hn hm2
  by_cases hnm : n = m
  · subst hnm
    go_enter Tryz.func68, Tryz.ntmps68
    go_wp2_with fail
    go_loopg [5, 13] n (fun k u vi wr => ∃ i : Nat, i ≤ n ∧ k = n - i ∧ vi = .int .i64 i ∧ Same w wr ∧ xs.take i = ys.take i)
    case atStart => exact ⟨0, Nat.zero_le _, rfl, rfl, Chg.refl _ _, by simp⟩
    case round =>
      obtain ⟨i, hi, hk, rfl, hsm, hall⟩ := hrel
      have Hk := hide hk
      have Hall := hide hall
      have Hsm := hide hsm
      clear hk hall hsm
      by_cases hlt : i < n
      · have hil : i < xs.length := by rw [Hn.out]; exact hlt
        have hjl : i < ys.length := by rw [Hm.out]; exact hlt
        obtain ⟨b, off, rfl, hc⟩ := (HX.out.same Hsm.out).at_ (i := i) (by simpa using hil)
        obtain ⟨b2, off2, rfl, hd⟩ := (HY.out.same Hsm.out).at_ (i := i) (by simpa using hjl)
        simp only [is, List.getElem_map] at hc hd
        obtain ⟨x, hx⟩ : ∃ x, xs[i] = x := ⟨_, rfl⟩
        obtain ⟨y, hy⟩ : ∃ y, ys[i] = y := ⟨_, rfl⟩
        rw [hx] at hc
        rw [hy] at hd
        have Hx := hide hx
        have Hy := hide hy
        clear hx hy
        by_cases hg : x = y
        · subst hg
          go_wp2_with fail
          go_quiet (fail)
          go_wp2_with fail
          go_roundg (n - (i + 1))
          case measure => have := Hk.out; omega
          case rel =>
            refine ⟨i + 1, by omega, rfl, by go_num, Hsm.out.trans (Same.of_drewN _ _), ?_⟩
            rw [List.take_succ_eq_append_getElem hil, List.take_succ_eq_append_getElem hjl, Hall.out, Hx.out, Hy.out]
        · go_wp2_with fail
          go_quiet (fail)
          go_wp2_with fail
          go_ret
          refine ⟨?_, Hsm.out.trans (Same.of_drewN _ _)⟩
          have : eqI xs ys = false := by
            unfold eqI
            refine decide_eq_false fun e => hg ?_
            have h1 := Hx.out
            have h2 := Hy.out
            subst e
            rw [← h1, ← h2]
          rw [this]; rfl
      · go_wp2_with fail
        go_ret
        refine ⟨?_, Hsm.out⟩
        have : eqI xs ys = true := by
          unfold eqI
          have h1 := Hall.out
          rw [List.take_of_length_le (by rw [Hn.out]; omega), List.take_of_length_le (by rw [Hm.out]; omega)] at h1
          exact decide_eq_true h1
        rw [this]; rfl
  · have hf : eqI xs ys = false := by
      unfold eqI
      refine decide_eq_false fun e => hnm ?_
      rw [← Hn.out, ← Hm.out, e]
    rw [hf]
    go_enter Tryz.func68, Tryz.ntmps68
    go_wp2_with fail
    go_ret
    exact ⟨rfl, Chg.refl _ _⟩

set_option maxRecDepth 100000 in
set_option maxHeartbeats 1000000 in
theorem cloneI_any {A : Option Addr} {c : Nat} (xs : List Int) (w : World) (h : Rd w A (is xs)) (hl : xs.length ≤ 1048576) :
    Calls Tryz.prog 209 #[.slice A xs.length c] w fun e w' => ∃ A' c', e = .returned (.slice A' xs.length c') ∧ Rd w' A' (is xs) ∧ xs.length ≤ c' ∧ c' ≤ maxLen ∧ Same w w' ∧ (∀ b, blkOf A' = some b → w.heap.size ≤ b) := by
  have H := hide h
  obtain ⟨n, hn⟩ : ∃ n, xs.length = n := ⟨_, rfl⟩
  rw [hn] at hl ⊢
  have Hn := hide hn
  clear h hn
  have hnil := fun (w : World) (a : Option Addr) (k d : Nat) => Lib.run_eql_slice_nil (P := Tryz.prog) w 52 3 a k d 0 0 Tryz.underlying52
  cases A with
  | none =>
    have h0 : n = 0 := by
      have h1 := H.out
      cases xs with
      | nil => rw [← Hn.out]; rfl
      | cons x r => obtain ⟨b, off, e, _⟩ := h1 (by simp [is]); cases e
    subst h0
    obtain rfl : xs = [] := List.eq_nil_of_length_eq_zero Hn.out
    go_enter Tryz.func209, Tryz.ntmps209
    go_wp2_with fail
    go_ret
    exact ⟨none, 0, rfl, Rd.nil _ _, Nat.le_refl _, Nat.zero_le _, Chg.refl _ _, fun b hb => by simp [blkOf] at hb⟩
  | some a =>
    have Hl := hide hl
    have b1 : (0 + n) * 8 ≤ 140737488355328 := by omega
    have b2 : 0 + n ≤ 140737488355328 := by omega
    have B := hide (And.intro b1 b2)
    clear b1 b2
    go_enter Tryz.func209, Tryz.ntmps209
    go_wp2_with (at_builtin; refine wpList_appS (by rfl) (.tmp 5) (.tmp 6) _ (by rfl) slI (by rfl) (base := w.heap.size) (by exact own_lit w w.heap.size _ 1 #[] 0 (Nat.le_refl _) (by decide) rfl) (by rfl) (by simp [Hn.out]) (by exact H.out.alloc _) (one_is xs) B.out.1 B.out.2 (by simp) ?_; intro A' c' w5 hown hc hb; have Hown := hide hown; have Hc := hide hc; clear hown hc hb)
    go_ret
    obtain ⟨_, _, hv, h1, h2, _, h4, h5, h6⟩ := own_form Hown.out
    cases hv
    refine ⟨A', c', by simp, by simpa using h2, by simpa using h1, h5, ?_, fun b hb => h6 b hb⟩
    exact Chg.fresh (((Chg.refl (fun k => w.heap.size ≤ k) w).alloc _).trans Hc.out fun k _ hk => by simp [blkOf] at hk; omega) fun _ h => h
end Go.Proofs.YthjnecicagmdeaaGreat
