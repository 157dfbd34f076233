/-
  The document's own Plain: what a query asks for, of points and of intervals. Conditions: at most 1048576 of each, each list rising by its ids.
-/
import Derived.Test.YtenkdjfikppkdaaGreatDoorRfC
import Derived.Test.YtenkdjfikppkdaaGreatDoorQyE
import Derived.Test.YtenkdjfikppkdaaGreatDoorMx
namespace Go.Proofs.YtenkdjfikppkdaaGreatDoor
open Go.RowKit Go.Al
set_option linter.unusedVariables false

/-- how Plain ends -/
def PlainREnd (w : World) (N : Nat) (l : List Int) (e : Ending) (w' : World) : Prop :=
  ∃ A c, e = .returned (.agg #[.int .i64 N, .slice A l.length c]) ∧ Rd w' A (is l) ∧ l.length ≤ c ∧ c ≤ maxLen ∧ Same w w' ∧ ∀ b, blkOf A = some b → w.heap.size ≤ b
theorem relNo {w2 wr wq : World} {A0 : Option Addr} {c0 n1 : Nat} {p : List P3} {f : P3 → Bool} {y : P3} {ids : List Int} (i : Nat) (hlt : i < n1) (hno : f y = false → gather f p (i + 1) = ids) (hv : f y = false)
    (hown : wr.ownsRow w2.heap.size 3 1 (.slice A0 ids.length c0) ids.length (is ids)) (hsm : Same w2 wr) (hs : Same wr wq) (vi : Value) (hvi : vi = .int .i64 ((i + 1 : Nat) : Int)) :
    ∃ (i' : Nat) (A' : Option Addr) (c' : Nat), i' ≤ n1 ∧ n1 - (i + 1) = n1 - i' ∧ vi = .int .i64 i' ∧ Value.slice A0 ids.length c0 = .slice A' (gather f p i').length c' ∧ wq.ownsRow w2.heap.size 3 1 (.slice A' (gather f p i').length c') (gather f p i').length (is (gather f p i')) ∧ Same w2 wq := by
  subst hvi
  have hn := hno hv
  exact ⟨i + 1, A0, c0, hlt, rfl, rfl, by rw [hn], by rw [hn]; exact own_chg hown hs (fun _ _ h => h), Same.trans hsm hs⟩
theorem relYes {w2 wr wq w7 : World} {ob : Obj} {A0 A' : Option Addr} {c0 c' n1 : Nat} {p : List P3} {f : P3 → Bool} {y : P3} {z : Int} {ids : List Int} (i : Nat) (hlt : i < n1) (hyes : f y = true → gather f p (i + 1) = ids ++ [z]) (hv : f y = true)
    (hown : wr.ownsRow w2.heap.size 3 1 (.slice A0 ids.length c0) ids.length (is ids)) (hown7 : w7.ownsRow w2.heap.size 3 1 (.slice A' (ids.length + 1) c') (ids.length + 1) (is ids ++ is [z])) (hsm : Same w2 wr) (hs : Same wr wq) (hc7 : Chg (fun k => blkOf A0 = some k) (wq.alloc ob) w7) (vi : Value) (hvi : vi = .int .i64 ((i + 1 : Nat) : Int)) :
    ∃ (i' : Nat) (A3 : Option Addr) (c3 : Nat), i' ≤ n1 ∧ n1 - (i + 1) = n1 - i' ∧ vi = .int .i64 i' ∧ Value.slice A' (ids.length + 1) c' = .slice A3 (gather f p i').length c3 ∧ w7.ownsRow w2.heap.size 3 1 (.slice A3 (gather f p i').length c3) (gather f p i').length (is (gather f p i')) ∧ Same w2 w7 := by
  subst hvi
  have hn := hyes hv
  refine ⟨i + 1, A', c', hlt, rfl, rfl, by rw [hn, List.length_append]; rfl, ?_, (Same.trans hsm hs).app1 (own_chg hown hs (fun _ _ h => h)) (Nat.le_refl _) hc7⟩
  rw [hn, List.length_append, is_append]
  exact hown7
theorem check_span {q : Qy} (hc : checkE q = 0) (hp : pointsB q = false) : q.k = 5 ∨ q.k = 6 ∨ q.k = 7 := by
  unfold checkE at hc
  unfold pointsB at hp
  split at hc
  · rename_i h; rcases h with h | h <;> (rw [h] at hp; simp at hp)
  · split at hc
    · rename_i h; rcases h with h | h <;> (rw [h] at hp; simp at hp)
    · split at hc
      · rename_i h; exact .inl h
      · split at hc
        · rename_i h; exact .inr h
        · cases hc
theorem over_one (s : P3) (x : Int) : overB s (0, x, x) = withinB x s.2.1 s.2.2 := by
  rw [Bool.eq_iff_iff]
  unfold overB withinB
  simp
  omega
set_option maxRecDepth 100000 in
set_option maxHeartbeats 2000000 in
theorem plainRf_bad {A1 A2 : Option Addr} {n1 n2 c1 c2 : Nat} (q : Qy) (w : World) (hc : ¬ checkE q = 0) :
    Calls Tryz.prog 33 #[qV q, .slice A1 n1 c1, .slice A2 n2 c2] w (PlainREnd w 0 []) := by
  have HC := hide (checkRf_any q)
  obtain ⟨v, hv⟩ : ∃ v, checkE q = v := ⟨_, rfl⟩
  rw [hv] at HC hc
  clear hv
  have hvb : (v != 0) = true := by simp [hc]
  have hs1 := ((Chg.refl (fun _ => False) w).alloc (.cells (qL q).toArray 36)).alloc (.cells #[.int .i64 0, .slice none 0 0] 42)
  have hb1 := Blk.new (w.alloc (.cells (qL q).toArray 36)) 42 #[.int .i64 0, .slice none 0 0]
  simp only [World.size_alloc] at hb1
  have Hs1 := hide hs1
  have Hb1 := hide hb1
  clear hs1 hb1
  obtain ⟨k, a, b, c, d, e, f, g, x, h⟩ := q
  unfold qV at HC ⊢
  simp only [qL] at HC Hs1 Hb1 ⊢
  go_enter Tryz.func33, Tryz.ntmps33
  go_wp2_with (go_at_call 31; have hF := HC.out; refine (hF _).mono ?_; rintro e w2 ⟨rfl, hs⟩; have Hs2 := hide hs; have HA := hide (Hb1.out.same hs); have hka := (Hb1.out.same hs).cell; have hkf := (Hb1.out.same hs).frozen; clear hs hF)
  have hb3 := (HA.out.set_ 0 (.int .i64 0)).set_ 1 (.slice none 0 0)
  refine bodyPost_ret (results_cell_row rfl _ _ _ _ _ _ _ rfl hb3 Tryz.underlying42 rfl (by kernel_rfl)) rfl ⟨none, 0, by simp, Rd.nil _ _, Nat.le_refl _, Nat.zero_le _, ?_, fun b hb => (by simp [blkOf] at hb)⟩
  exact ((Hs1.out.same Hs2.out).setCell (p := ⟨w.heap.size + 1, 0, none⟩) (.inr (by simp)) _).setCell (p := ⟨w.heap.size + 1, 1, none⟩) (.inr (by simp)) _
end Go.Proofs.YtenkdjfikppkdaaGreatDoor
