/-
  Plain law: an operation adds one entry at most, and keeps lists rising. No conditions.
  An event's line, by the code's Line; and that what the laws of histories show lives. Condition: the two tables of Go's library are as laid.
-/
import Derived.Test.YtlimpepdelpogaaGreatDoorTbE
import Derived.Test.YtlimpepdelpogaaGreatDoorQyF
import Derived.Test.YtlimpepdelpogaaGreatDoorStC
import Derived.Test.YtlimpepdelpogaaGreatDoorHsD
/-! DoL -/
namespace Go.Proofs.YtlimpepdelpogaaGreatDoor
open Go.RowKit Go.Al
set_option linter.unusedVariables false
/-- an operation adds one entry at most, and keeps lists rising -/
theorem len_put (q : P3) (l : List P3) : (put3 q l).length ≤ l.length + 1 := by
  have h1 : (put3 q l).length = (del3 q.1 l).length + 1 := by
    unfold put3
    induction del3 q.1 l with
    | nil => rfl
    | cons x r ih =>
      unfold ins3
      split
      · rfl
      · simp only [List.length_cons, ih]
  have h2 : (del3 q.1 l).length ≤ l.length := List.length_filter_le _ _
  omega
theorem does_len (r : Rq) (p s : List P3) (most : Int) : (doesP r p s most).length ≤ p.length + 1 ∧ (doesS r p s most).length ≤ s.length + 1 := by
  unfold doesP doesS
  cases goodR r && decide (r.k = 1)
  · exact ⟨Nat.le_succ _, Nat.le_succ _⟩
  · rw [if_pos rfl, if_pos rfl]
    unfold doP' doS'
    by_cases hm : mayE p s most r.c = 0
    · rw [if_pos hm, if_pos hm]
      obtain ⟨hk, _⟩ := may_zero hm
      obtain ⟨rk, ⟨k, q, x⟩, rq⟩ := r
      simp only at hk
      rcases hk with rfl | rfl | rfl | rfl
      · exact ⟨len_put _ _, Nat.le_succ _⟩
      · exact ⟨Nat.le_succ_of_le (List.length_filter_le _ _), Nat.le_succ _⟩
      · exact ⟨Nat.le_succ _, len_put _ _⟩
      · exact ⟨Nat.le_succ _, Nat.le_succ_of_le (List.length_filter_le _ _)⟩
    · rw [if_neg hm, if_neg hm]
      exact ⟨Nat.le_succ _, Nat.le_succ _⟩
theorem does_srt (r : Rq) {p s : List P3} (most : Int) (sp : Srt p) (ss : Srt s) : Srt (doesP r p s most) ∧ Srt (doesS r p s most) := by
  unfold doesP doesS
  cases goodR r && decide (r.k = 1)
  · exact ⟨sp, ss⟩
  · rw [if_pos rfl, if_pos rfl]
    unfold doP' doS'
    by_cases hm : mayE p s most r.c = 0
    · rw [if_pos hm, if_pos hm]
      obtain ⟨hk, _⟩ := may_zero hm
      obtain ⟨rk, ⟨k, q, x⟩, rq⟩ := r
      simp only at hk
      rcases hk with rfl | rfl | rfl | rfl
      · exact ⟨sp.put _, ss⟩
      · exact ⟨sp.del _, ss⟩
      · exact ⟨sp, ss.put _⟩
      · exact ⟨sp, ss.del _⟩
    · rw [if_neg hm, if_neg hm]
      exact ⟨sp, ss⟩
end Go.Proofs.YtlimpepdelpogaaGreatDoor
/-! HyA -/
namespace Go.Proofs.YtlimpepdelpogaaGreatDoor
open Go.RowKit Go.Al
set_option linter.unusedVariables false
set_option maxHeartbeats 4000000
set_option maxRecDepth 100000
theorem infoEv : (Tryz.prog.info? 45).map (·.size) = some 27 := by kernel_rfl
theorem rangeAt_lit (w : World) (cs : List Value) (t : TypeId) : (w.alloc (.cells cs.toArray t)).rangeAt w.heap.size 0 cs := fun j v hv => by
  rw [(Blk.new w t cs.toArray).cell, Nat.zero_add]
  simpa using hv
theorem Line_any (e : Ev) (w : World) (hl : Laid w) (hw : WfEv e) :
    Calls Tryz.prog 15 #[evV e] w fun f w' => f = .returned (strV (lineB e)) ∧ Same w w' := by
  have HL := hide (fun w' (hs : Same w w') => line_any e w' (hl.same hs) hw)
  have hs1 := (Chg.refl (fun _ => False) w)
  have Hlen := hide (evL_length e)
  clear hl hw
  generalize lineB e = S at *
  unfold evV at HL ⊢
  generalize evL e = L at *
  go_enter Tryz.func15, Tryz.ntmps15
  go_wp2_with (first
    | (refine wpList_ld (by rfl) 45 _ rfl w.heap.size 0 rfl L _ (rangeAt_lit w L 45) Tryz.underlying45 rfl (by rw [Hlen.out]; exact infoEv) ?_)
    | (go_at_call 31; (with_reducible refine (HL.out _ ((Chg.refl _ w).alloc _)).mono ?_); rintro f w' ⟨rfl, hs⟩; have Hs := hide (Same.trans ((Chg.refl (fun _ => False) w).alloc _) hs); clear hs)
    | fail)
  go_ret
  exact ⟨rfl, Hs.out⟩
def req0 : Rq := ⟨1, ⟨1, (1, 0, 0), (0, 0, 0)⟩, ⟨0, 0, 0, 0, 0, 0, 0, 0, 0, 0⟩⟩
def ev0 : Ev := ⟨1, 3, 1, 7, ⟨0, ⟨0, (0, 0, 0), (0, 0, 0)⟩, ⟨0, 0, 0, 0, 0, 0, 0, 0, 0, 0⟩⟩, ⟨0, false, false, 0, none, 0, []⟩⟩
theorem ev0_wf : WfEv ev0 := ⟨by unfold inI ev0; decide, by unfold inI ev0; decide, by unfold inI ev0; decide, by unfold inI ev0; decide, by unfold inI ev0; decide⟩
theorem ev0_line : lineB ev0 = [51, 32, 115, 49, 32, 105, 110, 118, 111, 107, 101, 100, 32, 35, 55] := by decide +kernel
theorem req0_does : doesA req0 [] [] 3 = code 0 ∧ doesE req0 = 0 ∧ doesP req0 [] [] 3 = [(1, 0, 0)] ∧ doesS req0 [] [] 3 = [] := ⟨by kernel_rfl, by kernel_rfl, by kernel_rfl, by kernel_rfl⟩
theorem lives_hist (w : World) (hl : Laid w) :
    Calls Tryz.prog 5 #[] w fun e w' => e = .returned (.bool true) ∧ Same w w' := by
  have HD : Hid (∀ w' g pm sm, Tab w' g pm sm 3 [] [] → Calls Tryz.prog 13 #[.pointer (some ⟨g, 0, none⟩), .agg #[.int .i64 1, .int .i64 1, .int .i64 1, .int .i64 0, .int .i64 0, .int .i64 0, .int .i64 0, .int .i64 0, .int .i64 0, .int .i64 0, .int .i64 0, .int .i64 0, .int .i64 0, .int .i64 0, .int .i64 0, .int .i64 0, .int .i64 0, .int .i64 0]] w' (DoesEnd w' g pm sm 3 [] [] req0)) := hide fun w' g pm sm h => Does_any req0 w' h ⟨by show (Lit.int .i64 (1 : Int)).wf = true; decide, by show (Lit.int .i64 (0 : Int)).wf = true; decide⟩
  have HL : Hid (∀ w', Same w w' → Calls Tryz.prog 15 #[.agg #[.int .i64 1, .int .i64 3, .int .i64 1, .int .i64 7, .int .i64 0, .int .i64 0, .int .i64 0, .int .i64 0, .int .i64 0, .int .i64 0, .int .i64 0, .int .i64 0, .int .i64 0, .int .i64 0, .int .i64 0, .int .i64 0, .int .i64 0, .int .i64 0, .int .i64 0, .int .i64 0, .int .i64 0, .int .i64 0, .int .i64 0, .bool false, .bool false, .int .i64 0, .slice none 0 0]] w' fun f w'' => f = .returned (.string ⟨#[51, 32, 115, 49, 32, 105, 110, 118, 111, 107, 101, 100, 32, 35, 55]⟩) ∧ Same w' w'') := hide fun w' hs => by
    have := Line_any ev0 w' (hl.same hs) ev0_wf
    rw [ev0_line] at this
    exact this
  obtain ⟨d1, d2, d3, d4⟩ := req0_does
  unfold DoesEnd at HD
  rw [d1, d2, d3, d4] at HD
  simp only [show ∀ A c, rpV ((code 0).at_ A c) = .agg #[.int .i64 0, .bool false, .bool false, .int .i64 0, .slice A 0 c] from fun _ _ => rfl] at HD
  clear d1 d2 d3 d4 hl
  go_enter Tryz.func5, Tryz.ntmps5
  go_wp2_with (first
    | (go_at_call 12; refine (tnew_any 3 _ (by decide) (by decide)).mono ?_; rintro e w1 ⟨g, pm, sm, rfl, hs, ht, z1, z2, z3⟩; have Hs1 : Hid (Same w w1) := hide hs; have HT1 := hide ht; have Hz1 := hide (And.intro z1 (And.intro z2 z3)); clear hs ht z1 z2 z3)
    | (go_at_call 13; have hF := HD.out _ _ _ _ HT1.out; (with_reducible refine hF.mono ?_); rintro e w2 ⟨A, c, rfl, hrp, ht, hc, hfr⟩; have HT2 := hide ht; have Hs2 : Hid (Same w w2) := hide (Chg.fresh (S := fun k => w.heap.size ≤ k) (Chg.trans (Hs1.out.to) hc fun k _ e => by rcases e with e | e <;> (subst e; first | exact Hz1.out.2.1 | exact Hz1.out.2.2)) fun _ h => h); clear hrp ht hc hfr hF)
    | (go_at_call 14; refine (len_any _ (HT2.out.same ((Chg.refl _ w2).alloc _))).mono ?_; rintro e w3 ⟨rfl, hs⟩; have Hs3 := hide (Same.trans (Hs2.out.alloc _) hs); clear hs)
    | (go_at_call 15; (with_reducible refine (HL.out _ Hs3.out).mono ?_); rintro f w4 ⟨rfl, hs⟩; have Hs4 := hide (Same.trans Hs3.out hs); clear hs)
    | fail)
  go_ret
  exact ⟨rfl, Hs4.out⟩
end Go.Proofs.YtlimpepdelpogaaGreatDoor
