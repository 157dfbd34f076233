/-
  linear.all: the operations that may be the next ones, in order. Condition: at most 1048576 operations.
-/
import Derived.Test.YtenkdjfikppkdaaGreatLnD
namespace Go.Proofs.YtenkdjfikppkdaaGreat
open Go.RowKit Go.Al
set_option linter.unusedVariables false

def allUp (l : List Dd) (done : List Int) (i : Nat) : List Int := ((List.range i).filter (freeB l done)).map fun k : Nat => (k : Int)
theorem allUp_len (l : List Dd) (done : List Int) (i : Nat) : (allUp l done i).length ≤ i := by
  unfold allUp
  rw [List.length_map]
  exact Nat.le_trans (List.length_filter_le _ _) (by simp)
theorem allUp_yes {l : List Dd} {done : List Int} {i : Nat} (h : freeB l done i = true) : allUp l done (i + 1) = allUp l done i ++ [(i : Int)] := by
  unfold allUp
  rw [List.range_succ, List.filter_append]
  simp [h]
theorem allUp_no {l : List Dd} {done : List Int} {i : Nat} (h : freeB l done i = false) : allUp l done (i + 1) = allUp l done i := by
  unfold allUp
  rw [List.range_succ, List.filter_append]
  simp [h]
theorem allUp_all (l : List Dd) (done : List Int) : allUp l done l.length = allL l done := rfl

/-- how all ends -/
def AllEnd (w : World) (xs : List Int) (e : Ending) (w' : World) : Prop :=
  ∃ A c, e = .returned (.slice A xs.length c) ∧ Rd w' A (is xs) ∧ xs.length ≤ c ∧ c ≤ maxLen ∧ Same w w' ∧ ∀ b, blkOf A = some b → w.heap.size ≤ b

set_option maxRecDepth 100000 in
set_option maxHeartbeats 4000000 in
theorem allI_any {A B : Option Addr} {c c2 : Nat} {l : List Dd} {done : List Int} (w : World) (h : Dds w A l) (hd : Rd w B (is done)) (hl : l.length ≤ 1048576) (hdl : done.length ≤ maxLen) (hc : l.length ≤ c) :
    Calls Tryz.prog 44 #[.slice A l.length c, .slice B done.length c2] w (AllEnd w (allL l done)) := by
  rw [← allUp_all]
  have HF := hide (fun (i : Nat) (hi : i < l.length) (w' : World) (hs : Same w w') => free_any (c := c) (c2 := c2) (i := i) w' (h.same hs) (hd.same hs) hl hdl hi hc)
  obtain ⟨n, hn⟩ : ∃ n, l.length = n := ⟨_, rfl⟩
  obtain ⟨m, hm⟩ : ∃ m, done.length = m := ⟨_, rfl⟩
  rw [hn] at hl HF ⊢
  rw [hm] at HF ⊢
  clear h hd hdl hn hm hc
  go_enter Tryz.func44, Tryz.ntmps44
  go_wp2_with fail
  go_loopg [5, 6, 9] n (fun k out u vi wr => ∃ (i : Nat) (A0 : Option Addr) (c0 : Nat), i ≤ n ∧ k = n - i ∧ vi = .int .i64 i ∧ out = .slice A0 (allUp l done i).length c0 ∧ wr.ownsRow w.heap.size 3 1 (.slice A0 (allUp l done i).length c0) (allUp l done i).length (is (allUp l done i)) ∧ Same w wr)
  case atStart => exact ⟨0, none, 0, Nat.zero_le _, rfl, rfl, rfl, World.ownsRow_nil _ _ _ _, Chg.refl _ _⟩
  case round =>
    obtain ⟨i, A0, c0, hi, hk, rfl, rfl, hown, hsm⟩ := hrel
    have Hk := hide hk
    have Hsm := hide hsm
    have Hown := hide hown
    have Hlen := hide (allUp_len l done i)
    have Hyes := hide (fun hf => allUp_yes (l := l) (done := done) (i := i) hf)
    have Hno := hide (fun hf => allUp_no (l := l) (done := done) (i := i) hf)
    clear hk hsm hown
    by_cases hlt : i < n
    · have hin := HF.out i hlt wr Hsm.out
      obtain ⟨fr, hfr⟩ : ∃ fr, freeB l done i = fr := ⟨_, rfl⟩
      rw [hfr] at hin Hyes Hno
      have Hin := hide hin
      clear hin hfr
      obtain ⟨xs, hxs⟩ : ∃ xs, allUp l done i = xs := ⟨_, rfl⟩
      rw [hxs] at Hown Hlen Hyes Hno ⊢
      clear hxs
      cases fr
      · have HnoB := hide (Hno.out rfl)
        clear Hyes Hno
        go_wp2_with (go_at_call 20; have hF := Hin.out; refine hF.mono ?_; rintro e w2 ⟨rfl, hs⟩; have Hs2 : Hid (Same wr w2) := hide hs; clear hs hF)
        go_roundg (n - (i + 1))
        case measure => have := Hk.out; omega
        case rel => exact ⟨i + 1, A0, c0, by omega, rfl, by go_num, by rw [HnoB.out], by rw [HnoB.out]; exact own_chg Hown.out Hs2.out (fun _ _ h => h), Hsm.out.trans Hs2.out⟩
      · have HyesB := hide (Hyes.out rfl)
        clear Hyes Hno
        have bnd : (xs.length + 1) * 8 ≤ 140737488355328 ∧ xs.length + 1 ≤ 140737488355328 := by have := Hlen.out; omega
        have Bnd := hide bnd
        clear bnd
        go_wp2_with (first
          | (go_at_call 20; have hF := Hin.out; refine hF.mono ?_; rintro e w2 ⟨rfl, hs⟩; have Hs2 : Hid (Same wr w2) := hide hs; clear hs hF)
          | (at_builtin; refine wpList_appS (by rfl) (.tmp 16) (.tmp 18) _ (by rfl) slI (by rfl) (base := w.heap.size) (by exact own_chg Hown.out (Chg.alloc Hs2.out _) (fun _ _ h => h)) (by rfl) (by rfl) (by exact rd_new w2 _ _) (one_is [(i : Int)]) Bnd.out.1 Bnd.out.2 (by have := (Hsm.out.trans Hs2.out).size; simp; omega) ?_; intro A' c' w7 hown hc hb; have Hown7 := hide hown; have Hc7 := hide hc; clear hown hc hb))
        go_roundg (n - (i + 1))
        case measure => have := Hk.out; omega
        case rel =>
          have hs7 : Same w w7 := (Hsm.out.trans Hs2.out).app1 (own_chg Hown.out Hs2.out (fun _ _ h => h)) (Nat.le_refl _) Hc7.out
          refine ⟨i + 1, A', c', by omega, rfl, by go_num, by rw [HyesB.out, List.length_append]; rfl, ?_, hs7⟩
          rw [HyesB.out, List.length_append, is_append]
          exact Hown7.out
    · have hie : n = i := by omega
      subst hie
      go_wp2_with fail
      go_ret
      obtain ⟨_, _, hv, h1, h2, _, h4, h5, h6⟩ := own_form Hown.out
      cases hv
      exact ⟨A0, c0, rfl, h2, h1, h5, Hsm.out, fun b hb => h6 b hb⟩
end Go.Proofs.YtenkdjfikppkdaaGreat
