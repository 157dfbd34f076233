/-
  The document's own queue: Want. Condition: at most 65536 wait.
-/
import Derived.Test.YtkakhpbeglkbnaaRqJ
namespace Go.Proofs.Ytkakhpbeglkbnaa
open Go.RowKit Go.Al Go.Al.Rg
set_option linter.unusedVariables false

set_option maxHeartbeats 400000 in
theorem refq_want_dup {w : World} {g : Nat} {A : Option Addr} {n c : Nat} {l : List Int} {held : Bool} {most turns : Int} (v : Int) (h : RefQ w g A n c l held most turns) (hn : n ≤ 65536) (hin : v ∈ l) :
    Calls Try.prog 42 #[.pointer (some ⟨g, 0, none⟩), .int .i64 v] w fun e w' => e = .returned (.int .i64 5) ∧ w = w' := by
  have hG := at_any A n c l v w h.2.1 hn
  rw [atI_in hin] at hG
  have HG := hide hG
  have hk := h.1.cell
  generalize pos l v = p at *
  clear hG h hin
  go_enter Try.func42, Try.ntmps42
  go_wp2_with (go_at_call 15; have hF := HG.out; refine hF.mono ?_; rintro e w1 ⟨rfl, rfl⟩; clear hF)
  go_ret
  exact ⟨rfl, rfl⟩
set_option maxHeartbeats 400000 in
theorem refq_want_full {w : World} {g : Nat} {A : Option Addr} {n c : Nat} {l : List Int} {held : Bool} {turns : Int} {most : Nat} (v : Int) (h : RefQ w g A n c l held most turns) (hn : n ≤ 65536) (hin : ¬ v ∈ l) (hm : most ≤ (waitL l held).length) :
    Calls Try.prog 42 #[.pointer (some ⟨g, 0, none⟩), .int .i64 v] w fun e w' => e = .returned (.int .i64 4) ∧ Same w w' := by
  have hG := at_any A n c l v w h.2.1 hn
  rw [atI_out hin] at hG
  have HG := hide hG
  have hk := h.1.cell
  obtain ⟨A', c', hrow, hw⟩ := wait_any h
  have HW := hide hw
  generalize (waitL l held).length = m at *
  clear hG h hin hrow hw
  go_enter Try.func42, Try.ntmps42
  go_wp2_with (go_at_call 15; have hF := HG.out; refine hF.mono ?_; rintro e w1 ⟨rfl, rfl⟩; clear hF)
  go_quiet ((go_at_call 32; exact quiet_left (HW.out _)))
  go_wp2_with fail
  go_ret
  exact ⟨rfl, Same.of_drewN _ _⟩

set_option maxRecDepth 100000 in
set_option maxHeartbeats 1000000 in
theorem refq_want {w : World} {g : Nat} {A : Option Addr} {n c : Nat} {l : List Int} {held : Bool} {turns : Int} {most : Nat} (v : Int) (h : RefQ w g A n c l held most turns) (hn : n ≤ 65536) (hin : ¬ v ∈ l) (hm : (waitL l held).length < most) :
    Calls Try.prog 42 #[.pointer (some ⟨g, 0, none⟩), .int .i64 v] w fun e w' => e = .returned (.int .i64 0) ∧ ∃ A' c', RefQ w' g A' (n + 1) c' (l ++ [v]) held most turns ∧ RefStp w g A w' A' := by
  have hG := at_any A n c l v w h.2.1 hn
  rw [atI_out hin] at hG
  have HG := hide hG
  have hk := h.1.cell
  obtain ⟨A', c', hrow, hw⟩ := wait_any h
  have HW := hide hw
  have Hb := hide h.1
  have Hgl := hide h.1.lt
  have Hr := hide h.2.1
  have Hl := hide h.2.1.2.1
  generalize (waitL l held).length = m at *
  clear hG h hin hrow hw
  go_enter Try.func42, Try.ntmps42
  go_wp2_with (go_at_call 15; have hF := HG.out; refine hF.mono ?_; rintro e w1 ⟨rfl, rfl⟩; clear hF)
  go_quiet ((go_at_call 32; exact quiet_left (HW.out _)))
  have hs1 : Same w (w.drewN nq) := Same.of_drewN w nq
  generalize w.drewN nq = w1 at *
  have Hs1 := hide hs1
  have hb1 := Hb.out.same hs1
  have hk1 := hb1.cell
  have bg : g < w1.heap.size := hb1.lt
  have Hb1 := hide hb1
  have Hr1 := hide (Hr.out.same hs1)
  clear hk hs1 hb1
  go_wp2_with (first
    | (at_builtin; refine wpList_appS rfl (.tmp 21) (.tmp 25) _ rfl slI rfl (own_lit w1 w1.heap.size _ 1 #[] 0 (Nat.le_refl _) (by decide) rfl) rfl (by have := Hl.out; simp; omega) (Hr1.out.1.alloc _) (one_is _) (by omega) (by omega) (by simp) ?_
       intro A5 c5 w5 hown5 hchg5 hat5
       rw [Nat.zero_add] at hown5
       have Hown5 := hide hown5
       have Hchg5 := hide hchg5
       have Hsz5 := hide hchg5.size
       clear hown5 hchg5 hat5)
    | (at_builtin; refine wpList_appS rfl (.tmp 26) (.tmp 28) _ rfl slI rfl (Hown5.out.alloc _) rfl rfl (rd_new w5 _ _) (one_is [v]) (by omega) (by omega) (by have := Hsz5.out; simp at this ⊢; omega) ?_
       intro A6 c6 w6 hown6 hchg6 hat6
       have hs5 : Same w1 w5 := ((Chg.refl _ w1).alloc _).trans Hchg5.out (by intro k hk h; simp [blkOf] at h; omega)
       have hs6 : Same w1 w6 := (hs5.app Hown5.out (Nat.le_refl _) (((Chg.refl _ w5).alloc _).trans hchg6 fun _ _ h => h))
       have hb6 := Hb1.out.same hs6
       have hk6 := hb6.cell
       have hz6 := hb6.frozen
       have Hb6 := hide hb6
       have Hs6 := hide hs6
       have Hown6 := hide hown6
       clear hown6 hchg6 hat6 hs5 hs6 hb6))
  go_ret
  have h6 := Hown6.out
  have hfr : ∀ b, blkOf A6 = some b → w1.heap.size ≤ b := fun b hb => (h6.lt b (by rw [ownBlock_slice]; exact hb)).1
  have hrow6 : Row w6 A6 (n + 1) c6 (l ++ [v]) := Row.own (l := l ++ [v]) (by rw [is_append]; exact h6) (by simp [Hl.out]) rfl
  have hA6 : blkOf A6 ≠ some g := fun e => by have := hfr g e; have := Hgl.out; have := Hs1.out.size; omega
  have hch : Chg (fun k => k = g) w6 (w6.setCell ⟨g, 0, none⟩ (.slice A6 (n + 1) c6)) := (Chg.refl _ w6).set1 0 _
  refine ⟨rfl, A6, ⟨c6, ?_, RefQ.far hrow6 hA6 hch, hA6, fun _ => Nat.succ_pos n⟩, Chg.of_same (Hs1.out.trans Hs6.out) hch, fun b hb => .inr (by have := hfr b hb; have := Hs1.out.size; omega)⟩
  have := Hb6.out.set_ 0 (.slice A6 (n + 1) c6)
  simpa using this
end Go.Proofs.Ytkakhpbeglkbnaa
