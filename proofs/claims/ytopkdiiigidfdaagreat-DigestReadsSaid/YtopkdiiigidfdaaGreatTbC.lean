/-
  The table's judgement of a change: may, May; Len, Most, Point, Span. Condition: ids that an int holds.
-/
import Derived.Test.YtopkdiiigidfdaaGreatTbB
namespace Go.Proofs.YtopkdiiigidfdaaGreat
open Go.RowKit Go.Al
set_option linter.unusedVariables false

/-- what is wrong of a change -/
def mayE (p s : List P3) (most : Int) (c : Cg) : Int :=
  if judgeE c = 0 then (if addsC c then (if isC p s c then 5 else if most ≤ (p.length : Int) + (s.length : Int) then 4 else 0) else (if isC p s c then 0 else 6)) else judgeE c

def bx (c : Cg) : Array Value := #[.int .i64 c.k, .int .i64 c.p.1, .int .i64 c.p.2.1, .int .i64 c.p.2.2, .int .i64 c.s.1, .int .i64 c.s.2.1, .int .i64 c.s.2.2]
set_option maxRecDepth 100000 in
set_option maxHeartbeats 4000000 in
theorem may_any {g pm sm : Nat} {most : Int} {p s : List P3} (c : Cg) (w : World) (h : Tab w g pm sm most p s) (hw : WfC c) :
    Calls Tryz.prog 58 #[.pointer (some ⟨g, 0, none⟩), cgV c] w fun e w' => e = .returned (.int .i64 (mayE p s most c)) ∧ Same w w' := by
  have HJ := hide (judge_any c)
  have HI := hide (fun w' (hs : Same w w') => is_any c w' (h.same hs) hw)
  have HA := hide (adds_any c)
  have HS := hide (fun w' (hs : Same w w') => size_any w' (h.same hs))
  have hkt := fun w' (hs : Same w w') => (h.same hs).blk.cell
  have Hkt := hide hkt
  have bg := h.blk.lt
  unfold mayE
  generalize judgeE c = j at *
  generalize addsC c = ad at *
  generalize isC p s c = b at *
  generalize (p.length : Int) + (s.length : Int) = n at *
  clear hw hkt h
  have hs : Same w (w.alloc (.cells (bx c) 27)) := (Chg.refl _ w).alloc _
  have hb := Blk.new w 27 (bx c)
  have Hs := hide hs
  have Hb := hide hb
  obtain ⟨k, ⟨pi, px, py⟩, ⟨si, lo, hi⟩⟩ := c
  unfold cgV bx at *
  have HK : Hid (∀ w', Same (w.alloc (.cells #[.int .i64 k, .int .i64 pi, .int .i64 px, .int .i64 py, .int .i64 si, .int .i64 lo, .int .i64 hi] 27)) w' →
    w'.cell? ⟨w.heap.size, 0, none⟩ = some (.int .i64 k) ∧ w'.cell? ⟨w.heap.size, 1, none⟩ = some (.int .i64 pi) ∧ w'.cell? ⟨w.heap.size, 2, none⟩ = some (.int .i64 px) ∧ w'.cell? ⟨w.heap.size, 3, none⟩ = some (.int .i64 py) ∧ w'.cell? ⟨w.heap.size, 4, none⟩ = some (.int .i64 si) ∧ w'.cell? ⟨w.heap.size, 5, none⟩ = some (.int .i64 lo) ∧ w'.cell? ⟨w.heap.size, 6, none⟩ = some (.int .i64 hi) ∧ w'.cell? ⟨g, 2, none⟩ = some (.int .i64 most)) :=
    hide fun w' hs => have hk := (hb.same hs).cell; ⟨hk 0, hk 1, hk 2, hk 3, hk 4, hk 5, hk 6, Hkt.out _ (Hs.out.trans hs) 2⟩
  clear hs hb
  by_cases hj : j = 0
  · subst hj
    simp only [if_true]
    cases ad
    · cases b
      · go_enter Tryz.func58, Tryz.ntmps58
        go_wp2_with fail
        go_region_held3 (fun w' => w'.cell? ⟨w.heap.size, 0, none⟩ = some (.int .i64 k) ∧ w'.cell? ⟨w.heap.size, 1, none⟩ = some (.int .i64 pi) ∧ w'.cell? ⟨w.heap.size, 2, none⟩ = some (.int .i64 px) ∧ w'.cell? ⟨w.heap.size, 3, none⟩ = some (.int .i64 py) ∧ w'.cell? ⟨w.heap.size, 4, none⟩ = some (.int .i64 si) ∧ w'.cell? ⟨w.heap.size, 5, none⟩ = some (.int .i64 lo) ∧ w'.cell? ⟨w.heap.size, 6, none⟩ = some (.int .i64 hi) ∧ w'.cell? ⟨g, 2, none⟩ = some (.int .i64 most)) (first | exact HK.out _ (Chg.drew (Chg.refl _ _)) | exact HK.out _ Hs1.out | exact HK.out _ Hs2.out)
          (first
            | (go_at_call 99; refine (HJ.out _).mono ?_; rintro e w1 ⟨rfl, hs1⟩; have Hs1 : Hid (Same _ w1) := hide (Chg.undrew hs1); clear hs1)
            | (go_at_call 100; refine (HI.out _ (Hs.out.trans Hs1.out)).mono ?_; rintro e w2 ⟨rfl, hs2⟩; have hs3 := Same.trans Hs1.out hs2; have hk2 := (Hb.out.same hs3).cell; have Hs2 := hide hs3; clear hs2 hs3))
        go_wp2_with (go_at_call 101; refine (HA.out _).mono ?_; rintro e w3 ⟨rfl, hs3⟩; have hs4 := Same.trans Hs2.out hs3; have hk3 := (Hb.out.same hs4).cell; have Hs3 := hide hs4; clear hs3 hs4)
        first
          | go_region_with (go_at_call 101; refine (HA.out _).mono ?_; rintro e w4 ⟨rfl, hs4⟩; have hs5 := Same.trans Hs3.out (Chg.undrew hs4); have hk4 := (Hb.out.same hs5).cell; have Hs4 := hide hs5; clear hs4 hs5)
          | fail
        all_goals (
          go_wp2_with (go_at_call 101; refine (HA.out _).mono ?_; rintro e w6 ⟨rfl, hs6⟩; have Hs6 := hide (Same.trans Hs4.out hs6); clear hs6)
          go_ret
          exact ⟨rfl, Hs.out.trans Hs6.out⟩)
      · go_enter Tryz.func58, Tryz.ntmps58
        go_wp2_with fail
        go_region_held3 (fun w' => w'.cell? ⟨w.heap.size, 0, none⟩ = some (.int .i64 k) ∧ w'.cell? ⟨w.heap.size, 1, none⟩ = some (.int .i64 pi) ∧ w'.cell? ⟨w.heap.size, 2, none⟩ = some (.int .i64 px) ∧ w'.cell? ⟨w.heap.size, 3, none⟩ = some (.int .i64 py) ∧ w'.cell? ⟨w.heap.size, 4, none⟩ = some (.int .i64 si) ∧ w'.cell? ⟨w.heap.size, 5, none⟩ = some (.int .i64 lo) ∧ w'.cell? ⟨w.heap.size, 6, none⟩ = some (.int .i64 hi) ∧ w'.cell? ⟨g, 2, none⟩ = some (.int .i64 most)) (first | exact HK.out _ (Chg.drew (Chg.refl _ _)) | exact HK.out _ Hs1.out | exact HK.out _ Hs2.out)
          (first
            | (go_at_call 99; refine (HJ.out _).mono ?_; rintro e w1 ⟨rfl, hs1⟩; have Hs1 : Hid (Same _ w1) := hide (Chg.undrew hs1); clear hs1)
            | (go_at_call 100; refine (HI.out _ (Hs.out.trans Hs1.out)).mono ?_; rintro e w2 ⟨rfl, hs2⟩; have hs3 := Same.trans Hs1.out hs2; have hk2 := (Hb.out.same hs3).cell; have Hs2 := hide hs3; clear hs2 hs3))
        go_wp2_with (go_at_call 101; refine (HA.out _).mono ?_; rintro e w3 ⟨rfl, hs3⟩; have hs4 := Same.trans Hs2.out hs3; have hk3 := (Hb.out.same hs4).cell; have Hs3 := hide hs4; clear hs3 hs4)
        first
          | go_region_with (go_at_call 101; refine (HA.out _).mono ?_; rintro e w4 ⟨rfl, hs4⟩; have hs5 := Same.trans Hs3.out (Chg.undrew hs4); have hk4 := (Hb.out.same hs5).cell; have Hs4 := hide hs5; clear hs4 hs5)
          | fail
        all_goals (
          go_wp2_with (go_at_call 101; refine (HA.out _).mono ?_; rintro e w6 ⟨rfl, hs6⟩; have Hs6 := hide (Same.trans Hs4.out hs6); clear hs6)
          go_ret
          exact ⟨rfl, Hs.out.trans Hs6.out⟩)
    · cases b
      · simp only [if_true]
        by_cases hn : most ≤ n
        · rw [if_neg (by simp)]
          rw [if_pos hn]
          go_enter Tryz.func58, Tryz.ntmps58
          go_wp2_with fail
          go_region_held3 (fun w' => w'.cell? ⟨w.heap.size, 0, none⟩ = some (.int .i64 k) ∧ w'.cell? ⟨w.heap.size, 1, none⟩ = some (.int .i64 pi) ∧ w'.cell? ⟨w.heap.size, 2, none⟩ = some (.int .i64 px) ∧ w'.cell? ⟨w.heap.size, 3, none⟩ = some (.int .i64 py) ∧ w'.cell? ⟨w.heap.size, 4, none⟩ = some (.int .i64 si) ∧ w'.cell? ⟨w.heap.size, 5, none⟩ = some (.int .i64 lo) ∧ w'.cell? ⟨w.heap.size, 6, none⟩ = some (.int .i64 hi) ∧ w'.cell? ⟨g, 2, none⟩ = some (.int .i64 most)) (first | exact HK.out _ (Chg.drew (Chg.refl _ _)) | exact HK.out _ Hs1.out | exact HK.out _ Hs2.out)
            (first
              | (go_at_call 99; refine (HJ.out _).mono ?_; rintro e w1 ⟨rfl, hs1⟩; have Hs1 : Hid (Same _ w1) := hide (Chg.undrew hs1); clear hs1)
              | (go_at_call 100; refine (HI.out _ (Hs.out.trans Hs1.out)).mono ?_; rintro e w2 ⟨rfl, hs2⟩; have hs3 := Same.trans Hs1.out hs2; have hk2 := (Hb.out.same hs3).cell; have Hs2 := hide hs3; clear hs2 hs3))
          go_wp2_with (go_at_call 101; refine (HA.out _).mono ?_; rintro e w3 ⟨rfl, hs3⟩; have hs4 := Same.trans Hs2.out hs3; have hk3 := (Hb.out.same hs4).cell; have Hs3 := hide hs4; clear hs3 hs4)
          go_region_held3 (fun w' => w'.cell? ⟨w.heap.size, 0, none⟩ = some (.int .i64 k) ∧ w'.cell? ⟨w.heap.size, 1, none⟩ = some (.int .i64 pi) ∧ w'.cell? ⟨w.heap.size, 2, none⟩ = some (.int .i64 px) ∧ w'.cell? ⟨w.heap.size, 3, none⟩ = some (.int .i64 py) ∧ w'.cell? ⟨w.heap.size, 4, none⟩ = some (.int .i64 si) ∧ w'.cell? ⟨w.heap.size, 5, none⟩ = some (.int .i64 lo) ∧ w'.cell? ⟨w.heap.size, 6, none⟩ = some (.int .i64 hi) ∧ w'.cell? ⟨g, 2, none⟩ = some (.int .i64 most)) (first | exact HK.out _ (Chg.drew Hs3.out) | exact HK.out _ Hs4.out | exact HK.out _ Hs5.out)
            (first
              | (go_at_call 101; refine (HA.out _).mono ?_; rintro e w4 ⟨rfl, hs4⟩; have hs5 := Same.trans Hs3.out (Chg.undrew hs4); have hk4 := (Hb.out.same hs5).cell; have Hs4 := hide hs5; clear hs4 hs5)
              | (go_at_call 77; refine (HS.out _ (Hs.out.trans Hs4.out)).mono ?_; rintro e w5 ⟨rfl, hs5⟩; have hs6 := Same.trans Hs4.out hs5; have hk5 := (Hb.out.same hs6).cell; have Hs5 := hide hs6; clear hs5 hs6))
          go_wp2_with fail
          go_ret
          exact ⟨rfl, Hs.out.trans Hs5.out⟩
        · rw [if_neg (by simp)]
          rw [if_neg hn]
          go_enter Tryz.func58, Tryz.ntmps58
          go_wp2_with fail
          go_region_held3 (fun w' => w'.cell? ⟨w.heap.size, 0, none⟩ = some (.int .i64 k) ∧ w'.cell? ⟨w.heap.size, 1, none⟩ = some (.int .i64 pi) ∧ w'.cell? ⟨w.heap.size, 2, none⟩ = some (.int .i64 px) ∧ w'.cell? ⟨w.heap.size, 3, none⟩ = some (.int .i64 py) ∧ w'.cell? ⟨w.heap.size, 4, none⟩ = some (.int .i64 si) ∧ w'.cell? ⟨w.heap.size, 5, none⟩ = some (.int .i64 lo) ∧ w'.cell? ⟨w.heap.size, 6, none⟩ = some (.int .i64 hi) ∧ w'.cell? ⟨g, 2, none⟩ = some (.int .i64 most)) (first | exact HK.out _ (Chg.drew (Chg.refl _ _)) | exact HK.out _ Hs1.out | exact HK.out _ Hs2.out)
            (first
              | (go_at_call 99; refine (HJ.out _).mono ?_; rintro e w1 ⟨rfl, hs1⟩; have Hs1 : Hid (Same _ w1) := hide (Chg.undrew hs1); clear hs1)
              | (go_at_call 100; refine (HI.out _ (Hs.out.trans Hs1.out)).mono ?_; rintro e w2 ⟨rfl, hs2⟩; have hs3 := Same.trans Hs1.out hs2; have hk2 := (Hb.out.same hs3).cell; have Hs2 := hide hs3; clear hs2 hs3))
          go_wp2_with (go_at_call 101; refine (HA.out _).mono ?_; rintro e w3 ⟨rfl, hs3⟩; have hs4 := Same.trans Hs2.out hs3; have hk3 := (Hb.out.same hs4).cell; have Hs3 := hide hs4; clear hs3 hs4)
          go_region_held3 (fun w' => w'.cell? ⟨w.heap.size, 0, none⟩ = some (.int .i64 k) ∧ w'.cell? ⟨w.heap.size, 1, none⟩ = some (.int .i64 pi) ∧ w'.cell? ⟨w.heap.size, 2, none⟩ = some (.int .i64 px) ∧ w'.cell? ⟨w.heap.size, 3, none⟩ = some (.int .i64 py) ∧ w'.cell? ⟨w.heap.size, 4, none⟩ = some (.int .i64 si) ∧ w'.cell? ⟨w.heap.size, 5, none⟩ = some (.int .i64 lo) ∧ w'.cell? ⟨w.heap.size, 6, none⟩ = some (.int .i64 hi) ∧ w'.cell? ⟨g, 2, none⟩ = some (.int .i64 most)) (first | exact HK.out _ (Chg.drew Hs3.out) | exact HK.out _ Hs4.out | exact HK.out _ Hs5.out)
            (first
              | (go_at_call 101; refine (HA.out _).mono ?_; rintro e w4 ⟨rfl, hs4⟩; have hs5 := Same.trans Hs3.out (Chg.undrew hs4); have hk4 := (Hb.out.same hs5).cell; have Hs4 := hide hs5; clear hs4 hs5)
              | (go_at_call 77; refine (HS.out _ (Hs.out.trans Hs4.out)).mono ?_; rintro e w5 ⟨rfl, hs5⟩; have hs6 := Same.trans Hs4.out hs5; have hk5 := (Hb.out.same hs6).cell; have Hs5 := hide hs6; clear hs5 hs6))
          go_wp2_with (go_at_call 101; refine (HA.out _).mono ?_; rintro e w6 ⟨rfl, hs6⟩; have Hs6 := hide (Same.trans Hs5.out hs6); clear hs6)
          go_ret
          exact ⟨rfl, Hs.out.trans Hs6.out⟩
      · go_enter Tryz.func58, Tryz.ntmps58
        go_wp2_with fail
        go_region_held3 (fun w' => w'.cell? ⟨w.heap.size, 0, none⟩ = some (.int .i64 k) ∧ w'.cell? ⟨w.heap.size, 1, none⟩ = some (.int .i64 pi) ∧ w'.cell? ⟨w.heap.size, 2, none⟩ = some (.int .i64 px) ∧ w'.cell? ⟨w.heap.size, 3, none⟩ = some (.int .i64 py) ∧ w'.cell? ⟨w.heap.size, 4, none⟩ = some (.int .i64 si) ∧ w'.cell? ⟨w.heap.size, 5, none⟩ = some (.int .i64 lo) ∧ w'.cell? ⟨w.heap.size, 6, none⟩ = some (.int .i64 hi) ∧ w'.cell? ⟨g, 2, none⟩ = some (.int .i64 most)) (first | exact HK.out _ (Chg.drew (Chg.refl _ _)) | exact HK.out _ Hs1.out | exact HK.out _ Hs2.out)
          (first
            | (go_at_call 99; refine (HJ.out _).mono ?_; rintro e w1 ⟨rfl, hs1⟩; have Hs1 : Hid (Same _ w1) := hide (Chg.undrew hs1); clear hs1)
            | (go_at_call 100; refine (HI.out _ (Hs.out.trans Hs1.out)).mono ?_; rintro e w2 ⟨rfl, hs2⟩; have hs3 := Same.trans Hs1.out hs2; have hk2 := (Hb.out.same hs3).cell; have Hs2 := hide hs3; clear hs2 hs3))
        go_wp2_with (go_at_call 101; refine (HA.out _).mono ?_; rintro e w3 ⟨rfl, hs3⟩; have hs4 := Same.trans Hs2.out hs3; have hk3 := (Hb.out.same hs4).cell; have Hs3 := hide hs4; clear hs3 hs4)
        go_ret
        exact ⟨rfl, Hs.out.trans Hs3.out⟩
  · rw [if_neg hj]
    go_enter Tryz.func58, Tryz.ntmps58
    go_wp2_with fail
    go_region_held3 (fun w' => w'.cell? ⟨w.heap.size, 0, none⟩ = some (.int .i64 k) ∧ w'.cell? ⟨w.heap.size, 1, none⟩ = some (.int .i64 pi) ∧ w'.cell? ⟨w.heap.size, 2, none⟩ = some (.int .i64 px) ∧ w'.cell? ⟨w.heap.size, 3, none⟩ = some (.int .i64 py) ∧ w'.cell? ⟨w.heap.size, 4, none⟩ = some (.int .i64 si) ∧ w'.cell? ⟨w.heap.size, 5, none⟩ = some (.int .i64 lo) ∧ w'.cell? ⟨w.heap.size, 6, none⟩ = some (.int .i64 hi) ∧ w'.cell? ⟨g, 2, none⟩ = some (.int .i64 most)) (first | exact HK.out _ (Chg.drew (Chg.refl _ _)) | exact HK.out _ Hs1.out | exact HK.out _ Hs2.out)
      (first
        | (go_at_call 99; refine (HJ.out _).mono ?_; rintro e w1 ⟨rfl, hs1⟩; have Hs1 : Hid (Same _ w1) := hide (Chg.undrew hs1); clear hs1)
        | (go_at_call 100; refine (HI.out _ (Hs.out.trans Hs1.out)).mono ?_; rintro e w2 ⟨rfl, hs2⟩; have hs3 := Same.trans Hs1.out hs2; have hk2 := (Hb.out.same hs3).cell; have Hs2 := hide hs3; clear hs2 hs3))
    go_wp2_with fail
    go_ret
    exact ⟨rfl, Hs.out.trans Hs2.out⟩
end Go.Proofs.YtopkdiiigidfdaaGreat
