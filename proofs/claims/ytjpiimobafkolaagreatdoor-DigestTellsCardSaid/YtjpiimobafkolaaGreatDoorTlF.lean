/-
  The law's own cuts: at most 20 points, or 30 intervals, in memory of their own. Condition: lengths that a slice may have.
-/
import Derived.Test.YtjpiimobafkolaaGreatDoorTlC
namespace Go.Proofs.YtjpiimobafkolaaGreatDoor
open Go.RowKit Go.Al
set_option linter.unusedVariables false

theorem slB : SlTy Tryz.prog 22 5 1 1 := SlTy.of (z := .int .u8 0) Tryz.underlying22 (by kernel_rfl) rfl (by decide)
theorem slP : SlTy Tryz.prog 23 37 3 24 := .of (z := agg3 (0, 0, 0)) Tryz.underlying23 (by kernel_rfl) rfl (by decide)
theorem slS : SlTy Tryz.prog 24 44 3 24 := .of (z := agg3 (0, 0, 0)) Tryz.underlying24 (by kernel_rfl) rfl (by decide)
/-- how Few ends -/
def FewEnd (w : World) (t : TypeId) (l : List P3) (e : Ending) (w' : World) : Prop :=
  ∃ A c, e = .returned (.slice A l.length c) ∧ w'.ownsRow w.heap.size t 3 (.slice A l.length c) l.length (is3 l) ∧ Same w w'
set_option maxRecDepth 100000 in
set_option maxHeartbeats 4000000 in
theorem fewP_any {A : Option Addr} {n c : Nat} (l : List P3) (w : World) (h : Row3 w A n c l) :
    Calls Tryz.prog 4 #[.slice A n c, .int .i64 20] w (FewEnd w 37 (l.take 20)) := by
  have hnl := h.2.1
  have hnc := h.2.2.1
  have hcm := h.2.2.2.1
  unfold maxLen at hcm
  by_cases hb : 20 < n
  · have hbI : (20 : Int) < (n : Int) := by omega
    have hcut := cut_hi (P := Tryz.prog) slP A n c .i64 20 20 rfl (by omega)
    have Hrd : Hid (Rd w A (is3 (l.take 20))) := hide (by have := h.1.take 60; rw [show (60 : Nat) = 20 * 3 from rfl, is3_take] at this; exact this)
    have hlen : (l.take 20).length = 20 := by rw [List.length_take]; omega
    have Hbl : Hid ((is3 (l.take 20)).length = 20 * 3) := hide (by rw [is3_len, hlen])
    have HE : Hid (∀ A' c' w', w'.ownsRow w.heap.size 37 3 (.slice A' 20 c') 20 (is3 (l.take 20)) → Same w w' → FewEnd w 37 (l.take 20) (.returned (.slice A' 20 c')) w') := hide fun A' c' w' ho hs => ⟨A', c', by rw [hlen], by rw [hlen]; exact ho, hs⟩
    clear h hnl hcm hlen
    have HO2 := hide (show (w.alloc (.cells #[] 37)).ownsRow w.heap.size 37 3 (.slice (some ⟨w.heap.size, 0, none⟩) 0 0) 0 [] from own_lit w w.heap.size 37 3 #[] 0 (Nat.le_refl _) (by decide) rfl)
    go_enter Tryz.func4, Tryz.ntmps4
    go_wp2_with (first
      | (at_builtin; refine wpList_appS (by rfl) (.tmp 12) (.tmp 13) _ (by rfl) slP (by rfl) (base := w.heap.size) (by exact HO2.out) (by rfl) (by exact Hbl.out) (by exact Hrd.out.alloc _) (one_is3 _) (by omega) (by omega) (by simp) ?_; intro A3 c3 w5 hown hc hb; have HE3 := hide (HE.out A3 c3 w5 (by simpa using hown) (Chg.fresh (S := fun k => w.heap.size ≤ k) (Chg.trans ((Chg.refl _ w).alloc _) hc fun k _ e => by have : k = w.heap.size := (by simpa [blkOf] using e.symm); omega) fun _ h => h)); clear hown hc hb)
      | fail)
    go_ret
    exact HE3.out
  · have hbI : ¬ (20 : Int) < (n : Int) := by omega
    have htk : l.take 20 = l := List.take_of_length_le (by omega)
    rw [htk]
    have Hrd := hide h.1
    have Hbl : Hid ((is3 l).length = n * 3) := hide (by rw [is3_len, hnl])
    have HE : Hid (∀ A' c' w', w'.ownsRow w.heap.size 37 3 (.slice A' n c') n (is3 l) → Same w w' → FewEnd w 37 l (.returned (.slice A' n c')) w') := hide fun A' c' w' ho hs => ⟨A', c', by rw [hnl], by rw [hnl]; exact ho, hs⟩
    have hn30 : n ≤ 20 := by omega
    clear h hnl hcm htk
    have HO2 := hide (show (w.alloc (.cells #[] 37)).ownsRow w.heap.size 37 3 (.slice (some ⟨w.heap.size, 0, none⟩) 0 0) 0 [] from own_lit w w.heap.size 37 3 #[] 0 (Nat.le_refl _) (by decide) rfl)
    go_enter Tryz.func4, Tryz.ntmps4
    go_wp2_with (first
      | (at_builtin; refine wpList_appS (by rfl) (.tmp 12) (.tmp 13) _ (by rfl) slP (by rfl) (base := w.heap.size) (by exact HO2.out) (by rfl) (by exact Hbl.out) (by exact Hrd.out.alloc _) (one_is3 _) (by omega) (by omega) (by simp) ?_; intro A3 c3 w5 hown hc hb; have HE3 := hide (HE.out A3 c3 w5 (by simpa using hown) (Chg.fresh (S := fun k => w.heap.size ≤ k) (Chg.trans ((Chg.refl _ w).alloc _) hc fun k _ e => by have : k = w.heap.size := (by simpa [blkOf] using e.symm); omega) fun _ h => h)); clear hown hc hb)
      | fail)
    go_ret
    exact HE3.out
set_option maxRecDepth 100000 in
set_option maxHeartbeats 4000000 in
theorem fewS_any {A : Option Addr} {n c : Nat} (l : List P3) (w : World) (h : Row3 w A n c l) :
    Calls Tryz.prog 5 #[.slice A n c] w (FewEnd w 44 (l.take 30)) := by
  have hnl := h.2.1
  have hnc := h.2.2.1
  have hcm := h.2.2.2.1
  unfold maxLen at hcm
  by_cases hb : 30 < n
  · have hbI : (30 : Int) < (n : Int) := by omega
    have hcut := cut_hi (P := Tryz.prog) slS A n c .i64 30 30 rfl (by omega)
    have Hrd : Hid (Rd w A (is3 (l.take 30))) := hide (by have := h.1.take 90; rw [show (90 : Nat) = 30 * 3 from rfl, is3_take] at this; exact this)
    have hlen : (l.take 30).length = 30 := by rw [List.length_take]; omega
    have Hbl : Hid ((is3 (l.take 30)).length = 30 * 3) := hide (by rw [is3_len, hlen])
    have HE : Hid (∀ A' c' w', w'.ownsRow w.heap.size 44 3 (.slice A' 30 c') 30 (is3 (l.take 30)) → Same w w' → FewEnd w 44 (l.take 30) (.returned (.slice A' 30 c')) w') := hide fun A' c' w' ho hs => ⟨A', c', by rw [hlen], by rw [hlen]; exact ho, hs⟩
    clear h hnl hcm hlen
    have HO2 := hide (show (w.alloc (.cells #[] 44)).ownsRow w.heap.size 44 3 (.slice (some ⟨w.heap.size, 0, none⟩) 0 0) 0 [] from own_lit w w.heap.size 44 3 #[] 0 (Nat.le_refl _) (by decide) rfl)
    go_enter Tryz.func5, Tryz.ntmps5
    go_wp2_with (first
      | (at_builtin; refine wpList_appS (by rfl) (.tmp 8) (.tmp 9) _ (by rfl) slS (by rfl) (base := w.heap.size) (by exact HO2.out) (by rfl) (by exact Hbl.out) (by exact Hrd.out.alloc _) (one_is3 _) (by omega) (by omega) (by simp) ?_; intro A3 c3 w5 hown hc hb; have HE3 := hide (HE.out A3 c3 w5 (by simpa using hown) (Chg.fresh (S := fun k => w.heap.size ≤ k) (Chg.trans ((Chg.refl _ w).alloc _) hc fun k _ e => by have : k = w.heap.size := (by simpa [blkOf] using e.symm); omega) fun _ h => h)); clear hown hc hb)
      | fail)
    go_ret
    exact HE3.out
  · have hbI : ¬ (30 : Int) < (n : Int) := by omega
    have htk : l.take 30 = l := List.take_of_length_le (by omega)
    rw [htk]
    have Hrd := hide h.1
    have Hbl : Hid ((is3 l).length = n * 3) := hide (by rw [is3_len, hnl])
    have HE : Hid (∀ A' c' w', w'.ownsRow w.heap.size 44 3 (.slice A' n c') n (is3 l) → Same w w' → FewEnd w 44 l (.returned (.slice A' n c')) w') := hide fun A' c' w' ho hs => ⟨A', c', by rw [hnl], by rw [hnl]; exact ho, hs⟩
    have hn30 : n ≤ 30 := by omega
    clear h hnl hcm htk
    have HO2 := hide (show (w.alloc (.cells #[] 44)).ownsRow w.heap.size 44 3 (.slice (some ⟨w.heap.size, 0, none⟩) 0 0) 0 [] from own_lit w w.heap.size 44 3 #[] 0 (Nat.le_refl _) (by decide) rfl)
    go_enter Tryz.func5, Tryz.ntmps5
    go_wp2_with (first
      | (at_builtin; refine wpList_appS (by rfl) (.tmp 8) (.tmp 9) _ (by rfl) slS (by rfl) (base := w.heap.size) (by exact HO2.out) (by rfl) (by exact Hbl.out) (by exact Hrd.out.alloc _) (one_is3 _) (by omega) (by omega) (by simp) ?_; intro A3 c3 w5 hown hc hb; have HE3 := hide (HE.out A3 c3 w5 (by simpa using hown) (Chg.fresh (S := fun k => w.heap.size ≤ k) (Chg.trans ((Chg.refl _ w).alloc _) hc fun k _ e => by have : k = w.heap.size := (by simpa [blkOf] using e.symm); omega) fun _ h => h)); clear hown hc hb)
      | fail)
    go_ret
    exact HE3.out
end Go.Proofs.YtjpiimobafkolaaGreatDoor
