/-
  The ring's Pop, Drop and All: out of the contracts of Head, cut, seek and place. Conditions: the ring's cells are known, at most 65536 wait.
-/
import Derived.Test.YtkakhpbeglkbnaaRgC
namespace Go.Proofs.Ytkakhpbeglkbnaa
open Go.RowKit Go.Al Go.Al.Rg
set_option linter.unusedVariables false
attribute [local go_sem ↓] Go.wp_at_zero Go.wp_at_succ

/-- what a cut leaves -/
def Left (w : World) (g most : Nat) (q : List Int) (A : Option Addr) (w' : World) : Prop :=
  ∃ P' a', Rgm w' g most q A P' a' ∧ Chg (fun k => k = g ∨ blkOf A = some k) w w'

theorem cut_any (g most a i : Nat) (q P : List Int) (A : Option Addr) (w : World) (hr : Rgm w g most q A P a) (hm : most ≤ 65536) (hi : i < q.length) :
    Calls Try.prog 37 #[.pointer (some ⟨g, 0, none⟩), .int .i64 i] w fun e w' => e = .returned (.tuple #[]) ∧ Left w g most (q.eraseIdx i) A w' := by
  by_cases h0 : i = 0
  · subst h0
    cases q with
    | nil => simp at hi
    | cons x r => exact cut_first g most a x r P A w hr hm
  · exact cut_later g most a i q P A w hr hm (by omega) hi

set_option maxHeartbeats 400000 in
theorem Pop_nil (w : World) :
    Calls Try.prog 11 #[.pointer none] w fun e w' => e = .returned (.tuple #[.int .i64 0, .bool false]) ∧ w = w' := by
  go_enter Try.func11, Try.ntmps11
  go_wp2_with (go_at_call 18; refine (Head_nil _).mono ?_; rintro e w' ⟨rfl, rfl⟩)
  go_ret2
  exact ⟨rfl, rfl⟩
set_option maxHeartbeats 400000 in
theorem Pop_empty (g most a : Nat) (P : List Int) (A : Option Addr) (w : World) (hr : Rgm w g most [] A P a) :
    Calls Try.prog 11 #[.pointer (some ⟨g, 0, none⟩)] w fun e w' => e = .returned (.tuple #[.int .i64 0, .bool false]) ∧ w = w' := by
  have H := hide (Head_empty g most a P A w hr)
  clear hr
  go_enter Try.func11, Try.ntmps11
  go_wp2_with (go_at_call 18; refine H.out.mono ?_; rintro e w' ⟨rfl, rfl⟩)
  go_ret2
  exact ⟨rfl, rfl⟩
set_option maxHeartbeats 400000 in
theorem Pop_any (g most a : Nat) (x : Int) (q P : List Int) (A : Option Addr) (w : World) (hr : Rgm w g most (x :: q) A P a) (hm : most ≤ 65536) :
    Calls Try.prog 11 #[.pointer (some ⟨g, 0, none⟩)] w fun e w' => e = .returned (.tuple #[.int .i64 x, .bool true]) ∧ Left w g most q A w' := by
  have H := hide (Head_any g most a x q P A w hr hm)
  have Hr := hide hr
  clear hr
  go_enter Try.func11, Try.ntmps11
  go_wp2_with (first
    | (go_at_call 18; refine H.out.mono ?_; rintro e w1 ⟨rfl, hs1⟩; have Hs1 := hide hs1; clear hs1)
    | (go_at_call 37; refine (cut_first g most a x q P A _ (Hr.out.same Hs1.out) hm).mono ?_; rintro e w2 ⟨rfl, hl⟩; have Hl := hide hl; clear hl))
  go_ret2
  obtain ⟨P', a', h1, h2⟩ := Hl.out
  exact ⟨rfl, P', a', h1, Chg.of_same Hs1.out h2⟩

set_option maxHeartbeats 400000 in
theorem Drop_nil (v : Int) (w : World) :
    Calls Try.prog 13 #[.pointer none, .int .i64 v] w fun e w' => e = .returned (.bool false) ∧ w = w' := by
  go_enter Try.func13, Try.ntmps13
  go_wp2_with (go_at_call 34; refine (seek_nil _ _).mono ?_; rintro e w' ⟨rfl, rfl⟩)
  go_ret
  exact ⟨rfl, rfl⟩
set_option maxHeartbeats 400000 in
theorem Drop_no (g most a : Nat) (q P : List Int) (A : Option Addr) (v : Int) (w : World) (hr : Rgm w g most q A P a) (hm : most ≤ 65536) (hv : ¬ v ∈ q) :
    Calls Try.prog 13 #[.pointer (some ⟨g, 0, none⟩), .int .i64 v] w fun e w' => e = .returned (.bool false) ∧ Same w w' := by
  have hF := seek_any g most a q P A v w hr hm
  rw [seekV, if_neg hv] at hF
  have HF := hide hF
  clear hF hr hv
  go_enter Try.func13, Try.ntmps13
  go_wp2_with (go_at_call 34; refine HF.out.mono ?_; rintro e w1 ⟨rfl, hs1⟩; have Hs1 := hide hs1; clear hs1)
  go_ret
  exact ⟨rfl, Hs1.out⟩
set_option maxHeartbeats 400000 in
theorem Drop_yes (g most a : Nat) (q P : List Int) (A : Option Addr) (v : Int) (w : World) (hr : Rgm w g most q A P a) (hm : most ≤ 65536) (hv : v ∈ q) :
    Calls Try.prog 13 #[.pointer (some ⟨g, 0, none⟩), .int .i64 v] w fun e w' => e = .returned (.bool true) ∧ Left w g most (q.eraseIdx (pos q v)) A w' := by
  have hF := seek_any g most a q P A v w hr hm
  rw [seekV, if_pos hv] at hF
  have HF := hide hF
  have Hr := hide hr
  have hpl := pos_lt hv
  clear hF hr hv
  generalize pos q v = p at *
  go_enter Try.func13, Try.ntmps13
  go_wp2_with (first
    | (go_at_call 34; refine HF.out.mono ?_; rintro e w1 ⟨rfl, hs1⟩; have Hs1 := hide hs1; clear hs1)
    | (go_at_call 37; refine (cut_any g most a p q P A _ (Hr.out.same Hs1.out) hm hpl).mono ?_; rintro e w2 ⟨rfl, hl⟩; have Hl := hide hl; clear hl))
  go_ret
  obtain ⟨P', a', h1, h2⟩ := Hl.out
  exact ⟨rfl, P', a', h1, Chg.of_same Hs1.out h2⟩

/-- what All tells -/
def AllTold (w : World) (q : List Int) (e : Ending) (w' : World) : Prop :=
  ∃ A c, e = .returned (.slice A q.length c) ∧ w'.ownsRow w.heap.size 3 1 (.slice A q.length c) q.length (is q) ∧ Same w w'
set_option maxHeartbeats 400000 in
theorem All_nil (w : World) :
    Calls Try.prog 20 #[.pointer none] w fun e w' => e = .returned (.slice none 0 0) ∧ w = w' := by
  go_enter Try.func20, Try.ntmps20
  go_wp2_with fail
  go_ret
  exact ⟨rfl, rfl⟩
set_option maxRecDepth 100000 in
set_option maxHeartbeats 2000000 in
theorem All_any (g most a : Nat) (q P : List Int) (A : Option Addr) (w : World) (hr : Rgm w g most q A P a) (hm : most ≤ 65536) :
    Calls Try.prog 20 #[.pointer (some ⟨g, 0, none⟩)] w (AllTold w q) := by
  have hk := hr.1.cell
  have hqm : q.length ≤ most := hr.2.2.2.2.2.1
  have hPl : P.length ≤ 2 * most + 1 := hr.2.2.2.2.2.2
  have Hr := hide hr
  clear hr
  go_enter Try.func20, Try.ntmps20
  go_wp2_with fail
  clear hk
  go_loopg [3, 11] q.length (fun k out vi wr => ∃ (i : Nat) (A0 : Option Addr) (c0 : Nat), i ≤ q.length ∧ k = q.length - i ∧ vi = .int .i64 i ∧ out = .slice A0 i c0 ∧ wr.ownsRow w.heap.size 3 1 (.slice A0 i c0) i (is (q.take i)) ∧ Same w wr)
  case atStart => exact ⟨0, none, 0, Nat.zero_le _, rfl, rfl, rfl, World.ownsRow_nil _ _ _ _, Chg.refl _ _⟩
  case round =>
    obtain ⟨i, A0, c0, hi, hkk, rfl, rfl, hown, hsame⟩ := hrel
    have Hk := hide hkk
    have Hown := hide hown
    have Hsame := hide hsame
    have hr := Hr.out.same hsame
    have hsz := hsame.size
    clear hkk hown hsame
    by_cases hlt : i < q.length
    · have hP : P ≠ [] := fun h => by have := hr.2.2.2.1; rw [h] at this; simp at this; rw [this] at hlt; simp at hlt
      obtain ⟨ga, rfl, hb, ha⟩ := hr.2.1 hP
      have hp : (a + i) % P.length < P.length := mod_lt' ha
      have hpm := pmod a i P.length
      have hcell : wr.cell? ⟨ga, (a + i) % P.length, none⟩ = some (.int .i64 q[i]) := by
        rw [hb.cell]
        have := hr.2.2.2.2.1 i hlt
        simp [is, this, hlt]
      have htk : q.take (i + 1) = q.take i ++ [q[i]] := List.take_succ_eq_append_getElem hlt
      have Htk := hide htk
      have Hpm := hide hpm
      have Hrw := hide hr
      have hbg := (Hr.out.blk ga rfl).1
      have hgl := Hr.out.1.lt
      have hk0 := hr.1.cell 0
      have hk1 := hr.1.cell 1
      have Hk0 := hide hk0
      have Hk1 := hide hk1
      have Hcell := hide hcell
      clear hr hb hpm htk
      generalize (a + i) % P.length = p at *
      generalize q[i] = x at *
      have i0 : (0 : Int) ≤ (p : Int) := by omega
      have i1 : (p : Int) < (P.length : Int) := by omega
      have o1 : P.length ≤ 1048576 := by omega
      have o2 : (0 : Int) ≤ (i : Int) := by omega
      have o3 : (i : Int) ≤ 1048576 := by omega
      have bg : g < wr.heap.size := by omega
      have bga : ga < wr.heap.size := by omega
      go_wp2_with fail
      go_region_held3 (fun w' => w'.cell? ⟨g, 0, none⟩ = some (.slice (some ⟨ga, 0, none⟩) P.length P.length) ∧ w'.cell? ⟨g, 1, none⟩ = some (.int .i64 a) ∧ w'.cell? ⟨ga, p, none⟩ = some (.int .i64 x)) (first | go_keep | exact hS5)
        (first
         | (go_at_call 36; refine (place_any g P.length P.length a i p _ _ (by assumption) (by assumption) ha o1 o2 o3 Hpm.out).mono ?_; rintro e w' ⟨rfl, k, rfl⟩)
         | (refine step_appS (by rfl) (.tmp 14) (.tmp 24) _ (by rfl) slI (by rfl) (base := w.heap.size) (by exact (Hown.out.alloc _)) (by rfl) (by rfl) (by exact rd_new wr _ _) (one_is [x]) (by omega) (by omega) (by simp; omega) ?_
            intro A5 c5 w5 hown5 hchg5 hat5
            have hcz : Chg (fun k => blkOf A0 = some k) wr w5 := by exact ((((Chg.refl _ wr).alloc _).drewN _).trans hchg5 fun _ _ h => h)
            have hne : ∀ k, k < w.heap.size → ¬ blkOf A0 = some k := fun k hk h => by have := (Hown.out.lt k (by rw [ownBlock_slice]; exact h)).1; omega
            have hS5 : w5.cell? ⟨g, 0, none⟩ = some (.slice (some ⟨ga, 0, none⟩) P.length P.length) ∧ w5.cell? ⟨g, 1, none⟩ = some (.int .i64 a) ∧ w5.cell? ⟨ga, p, none⟩ = some (.int .i64 x) :=
              ⟨(hcz.cell (p := ⟨g, 0, none⟩) bg (hne g hgl)).trans Hk0.out, (hcz.cell (p := ⟨g, 1, none⟩) bg (hne g hgl)).trans Hk1.out, (hcz.cell (p := ⟨ga, p, none⟩) bga (hne ga hbg)).trans Hcell.out⟩
            have Hown5 := hide hown5
            have Hcz := hide hcz
            clear hown5 hchg5 hat5 hcz hne))
      go_wp2_with fail
      go_roundg (q.length - (i + 1))
      case measure => have := Hk.out; omega
      case rel => exact ⟨i + 1, A5, c5, by omega, rfl, by go_num, rfl, by rw [Htk.out, is_append]; exact Hown5.out, Hsame.out.app Hown.out (Nat.le_refl _) Hcz.out⟩
    · clear hr
      go_wp2_with fail
      go_ret
      have e : i = q.length := by omega
      subst e
      have h := Hown.out
      rw [List.take_length] at h
      exact ⟨A0, c0, rfl, h, Hsame.out⟩
end Go.Proofs.Ytkakhpbeglkbnaa
