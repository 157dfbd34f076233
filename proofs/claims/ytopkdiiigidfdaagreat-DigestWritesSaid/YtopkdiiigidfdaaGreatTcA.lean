/-
  The document's set of points and intervals: where one stands, and what is wrong of a change. Condition: at most 65536 of each.
-/
import Derived.Test.YtopkdiiigidfdaaGreatTbC
import Derived.Test.YtopkdiiigidfdaaGreatTcP
namespace Go.Proofs.YtopkdiiigidfdaaGreat
open Go.RowKit Go.Al
set_option linter.unusedVariables false

/-- the document's set -/
structure SetR (w : World) (g : Nat) (AP : Option Addr) (cp : Nat) (AS : Option Addr) (cs : Nat) (most : Int) (p s : List P3) : Prop where
  blk : Blk w g 66 #[.slice AP p.length cp, .slice AS s.length cs, .int .i64 most]
  rp : Row3 w AP p.length cp p
  rs : Row3 w AS s.length cs s
  np : blkOf AP ≠ some g
  ns : blkOf AS ≠ some g
theorem SetR.chg {S : Nat → Prop} {w w' : World} {g cp cs : Nat} {AP AS : Option Addr} {most : Int} {p s : List P3} (h : SetR w g AP cp AS cs most p s) (hc : Chg S w w') (h1 : ¬ S g) (h2 : ∀ b, blkOf AP = some b → ¬ S b) (h3 : ∀ b, blkOf AS = some b → ¬ S b) : SetR w' g AP cp AS cs most p s :=
  ⟨h.blk.chg hc h1, h.rp.chg hc h2, h.rs.chg hc h3, h.np, h.ns⟩
theorem SetR.same {w w' : World} {g cp cs : Nat} {AP AS : Option Addr} {most : Int} {p s : List P3} (h : SetR w g AP cp AS cs most p s) (hc : Same w w') : SetR w' g AP cp AS cs most p s :=
  h.chg hc (fun h => h) (fun _ _ h => h) fun _ _ h => h

/-! what is wrong of a change by itself -/
def idOk (x : Int) : Bool := decide (1 ≤ x) && decide (x ≤ 2147483647)
set_option maxHeartbeats 400000 in
theorem coord_any (x : Int) (w : World) : Calls Tryz.prog 88 #[.int .i64 x] w fun e w' => e = .returned (.bool (good x)) ∧ w = w' := by
  unfold good
  by_cases h : -1099511627776 ≤ x
  · go_enter Tryz.func88, Tryz.ntmps88
    go_wp2_with fail
    go_ret
    exact ⟨by simp [h], rfl⟩
  · rw [decide_eq_false h]
    go_enter Tryz.func88, Tryz.ntmps88
    go_wp2_with fail
    go_ret
    exact ⟨by simp, rfl⟩
theorem coord_is (x : Int) (w : World) (v : Bool) (h : good x = v) : Calls Tryz.prog 88 #[.int .i64 x] w fun e w' => e = .returned (.bool v) ∧ w = w' := h ▸ coord_any x w
set_option maxHeartbeats 400000 in
theorem idok_any (x : Int) (w : World) : Calls Tryz.prog 86 #[.int .i64 x] w fun e w' => e = .returned (.bool (idOk x)) ∧ w = w' := by
  unfold idOk
  by_cases h : 1 ≤ x
  · go_enter Tryz.func86, Tryz.ntmps86
    go_wp2_with fail
    go_ret
    exact ⟨by simp [h], rfl⟩
  · rw [decide_eq_false h]
    go_enter Tryz.func86, Tryz.ntmps86
    go_wp2_with fail
    go_ret
    exact ⟨by simp, rfl⟩
theorem idok_is (x : Int) (w : World) (v : Bool) (h : idOk x = v) : Calls Tryz.prog 86 #[.int .i64 x] w fun e w' => e = .returned (.bool v) ∧ w = w' := h ▸ idok_any x w
set_option maxHeartbeats 400000 in
theorem lies_is (i x y : Int) (w : World) (v : Bool) (h : (good x && good y) = v) :
    Calls Tryz.prog 87 #[.agg #[.int .i64 i, .int .i64 x, .int .i64 y]] w fun e w' => e = .returned (.bool v) ∧ Same w w' := by
  subst h
  have HG := hide coord_is
  have Hs : Hid (Same w (w.alloc (.cells #[.int .i64 i, .int .i64 x, .int .i64 y] 23))) := hide ((Chg.refl _ w).alloc _)
  cases hx : good x
  · go_enter Tryz.func87, Tryz.ntmps87
    go_wp2_with (go_at_call 88; refine (HG.out x _ _ hx).mono ?_; rintro e w1 ⟨rfl, hww⟩; subst hww)
    go_ret
    exact ⟨rfl, Hs.out⟩
  · cases hy : good y
    · go_enter Tryz.func87, Tryz.ntmps87
      go_wp2_with (first
        | (go_at_call_of 88 (Value.int IntKind.i64 x); refine (HG.out x _ _ hx).mono ?_; rintro e w1 ⟨rfl, hww⟩; subst hww)
        | (go_at_call_of 88 (Value.int IntKind.i64 y); refine (HG.out y _ _ hy).mono ?_; rintro e w1 ⟨rfl, hww⟩; subst hww))
      go_ret
      exact ⟨rfl, Hs.out⟩
    · go_enter Tryz.func87, Tryz.ntmps87
      go_wp2_with (first
        | (go_at_call_of 88 (Value.int IntKind.i64 x); refine (HG.out x _ _ hx).mono ?_; rintro e w1 ⟨rfl, hww⟩; subst hww)
        | (go_at_call_of 88 (Value.int IntKind.i64 y); refine (HG.out y _ _ hy).mono ?_; rintro e w1 ⟨rfl, hww⟩; subst hww))
      go_ret
      exact ⟨rfl, Hs.out⟩

theorem judge_bad {c : Cg} (h : ¬ (c.k = 1 ∨ c.k = 2 ∨ c.k = 3 ∨ c.k = 4)) : judgeE c = 1 := by
  unfold judgeE kindC
  rw [if_pos (.inl (by simpa using h))]
theorem judge_id {c : Cg} (hk : c.k = 1 ∨ c.k = 2 ∨ c.k = 3 ∨ c.k = 4) (h : idOk (idC c) = false) : judgeE c = 1 := by
  unfold judgeE
  rw [if_pos]
  unfold idOk at h
  simp at h
  by_cases h1 : 1 ≤ idC c
  · exact .inr (.inr (h h1))
  · exact .inr (.inl (by omega))
theorem judge_place {c : Cg} (hk : c.k = 1 ∨ c.k = 2 ∨ c.k = 3 ∨ c.k = 4) (h : idOk (idC c) = true) : judgeE c = placeE c := by
  unfold judgeE
  unfold idOk at h
  simp at h
  rw [if_neg]
  rintro (h1 | h1 | h1)
  · simp [kindC, hk] at h1
  · omega
  · omega

end Go.Proofs.YtopkdiiigidfdaaGreat
