/-
  The queue and the document's own queue side by side: each act in one contract. Condition: at most 60 acts.
-/
import Derived.Test.YtkakhpbeglkbnaaRqK
namespace Go.Proofs.Ytkakhpbeglkbnaa
open Go.RowKit Go.Al Go.Al.Rg
set_option linter.unusedVariables false

/-- the document's list: the holder first -/
def lst (q : List Int) (id : Int) (held : Bool) : List Int := if held then id :: q else q
theorem lst_free (q : List Int) (id : Int) : lst q id false = q := rfl
theorem lst_held (q : List Int) (id : Int) : lst q id true = id :: q := rfl
theorem waitL_lst (q : List Int) (id : Int) (held : Bool) : waitL (lst q id held) held = q := by cases held <;> rfl

/-- what neither does to the other -/
def Fra (F : Nat → Prop) (w0 w : World) (g' : Nat) (A : Option Addr) : Prop := ¬ F g' ∧ Off F A ∧ Same w0 w ∧ (∀ k, F k → w0.heap.size ≤ k) ∧ w0.heap.size ≤ g'
theorem RefQ.chg {S : Nat → Prop} {w w' : World} {g n c : Nat} {A : Option Addr} {l : List Int} {held : Bool} {most turns : Int} (h : RefQ w g A n c l held most turns) (hc : Chg S w w') (hg : ¬ S g) (hA : ∀ b, blkOf A = some b → ¬ S b) : RefQ w' g A n c l held most turns :=
  ⟨h.1.chg hc hg, h.2.1.chg hc hA, h.2.2⟩
theorem RefQ.same {w w' : World} {g n c : Nat} {A : Option Addr} {l : List Int} {held : Bool} {most turns : Int} (h : RefQ w g A n c l held most turns) (hs : Same w w') : RefQ w' g A n c l held most turns :=
  h.chg hs (fun h => h) fun _ _ h => h
theorem Fra.que {F F' : Nat → Prop} {w0 w w1 : World} {g' n c : Nat} {A : Option Addr} {l : List Int} {held : Bool} {most turns : Int} (h : Fra F w0 w g' A) (hr : RefQ w g' A n c l held most turns) (hs : Stp F w F' w1) :
    Fra F' w0 w1 g' A ∧ RefQ w1 g' A n c l held most turns := by
  obtain ⟨h1, h2, h3, h4, h5⟩ := h
  have h6 := Stp.fresh h3 h4 hs
  exact ⟨⟨hs.out hr.1.lt h1, (h2.stp hr.2.1 hs).2, h6.1, h6.2, h5⟩, hr.chg hs.chg h1 h2⟩
theorem Fra.ref {F : Nat → Prop} {w0 w w1 : World} {g g' m : Nat} {A A' : Option Addr} {q : List Int} {id turns : Int} {held : Bool} (h : Fra F w0 w g' A) (hq : Que F w g m q id held turns) (hs : RefStp w g' A w1 A') :
    Fra F w0 w1 g' A' ∧ Que F w1 g m q id held turns := by
  obtain ⟨h1, h2, h3, h4, h5⟩ := h
  exact ⟨⟨h1, h2.from_ hs.2 hq.lt, Chg.trans h3 hs.1 (fun k hk e => by have e : k = g' := e; omega), h4, h5⟩, hq.chg hs.1 fun k hk e => h1 (e ▸ hk)⟩

/-- the queue and the document's, behind the same acts: at most b -/
def Pair (w0 w : World) (g g' m b : Nat) (q : List Int) (id : Int) (held : Bool) (t : Nat) : Prop :=
  ∃ F A c, Que F w g m q id held t ∧ RefQ w g' A (lst q id held).length c (lst q id held) held m t ∧ Fra F w0 w g' A ∧ (held = false → id = 0) ∧ (lst q id held).length ≤ b ∧ t ≤ b
def PairX (w0 w : World) (g g' m b : Nat) : Prop := ∃ q id held t, Pair w0 w g g' m b q id held t
theorem Pair.same {w0 w w1 : World} {g g' m b : Nat} {q : List Int} {id : Int} {held : Bool} {t : Nat} (h : Pair w0 w g g' m b q id held t) (hs : Same w w1) : Pair w0 w1 g g' m b q id held t := by
  obtain ⟨F, A, c, h1, h2, h3, h4⟩ := h
  exact ⟨F, A, c, h1.same hs, h2.same hs, ⟨h3.1, h3.2.1, h3.2.2.1.trans hs, h3.2.2.2⟩, h4⟩
theorem Pair.all {w0 w : World} {g g' m b : Nat} {q : List Int} {id : Int} {held : Bool} {t : Nat} (h : Pair w0 w g g' m b q id held t) : Same w0 w := by
  obtain ⟨F, A, c, h1, h2, h3, h4⟩ := h
  exact h3.2.2.1
theorem Pair.up {w0 w : World} {g g' m b : Nat} {q : List Int} {id : Int} {held : Bool} {t : Nat} (h : Pair w0 w g g' m b q id held t) : PairX w0 w g g' m (b + 1) := by
  obtain ⟨F, A, c, h1, h2, h3, h4, h5, h6⟩ := h
  exact ⟨q, id, held, t, F, A, c, h1, h2, h3, h4, by omega, by omega⟩

theorem held_iff (q : List Int) (id v : Int) (held : Bool) : (held && headI (lst q id held) == v) = (held && id == v) := by cases held <;> rfl
theorem held_yes {id v : Int} {held : Bool} (h : held = true ∧ id = v) : (held && id == v) = true := by rw [h.1, h.2]; simp

theorem pair_release {w0 w : World} {g g' m b : Nat} {q : List Int} {id : Int} {held : Bool} {t : Nat} (v : Int) (h : Pair w0 w g g' m b q id held t) :
    ∃ E, Calls Try.prog 27 #[.pointer (some ⟨g, 0, none⟩), .int .i64 v] w fun e w1 => e = .returned (.int .i64 E) ∧
      Calls Try.prog 40 #[.pointer (some ⟨g', 0, none⟩), .int .i64 v] w1 fun e w2 => e = .returned (.int .i64 E) ∧ PairX w0 w2 g g' m (b + 1) := by
  have H := h
  obtain ⟨F, A, c, h1, h2, h3, h4, h5, h6⟩ := h
  by_cases hv : held = true ∧ id = v
  · obtain ⟨rfl, rfl⟩ := hv
    refine ⟨0, (que_release_yes h1).mono fun e w1 ⟨he, F1, hq1, hs1⟩ => ⟨he, ?_⟩⟩
    obtain ⟨f1, r1⟩ := h3.que h2 hs1
    refine (refq_release r1).mono fun e w2 ⟨he, A2, hr2, hs2⟩ => ⟨he, ?_⟩
    obtain ⟨f2, q2⟩ := f1.ref hq1 hs2
    have h7 : q.length + 1 ≤ b := h5
    exact ⟨q, 0, false, t, F1, A2, _, q2, hr2, f2, fun _ => rfl, (by rw [lst_free]; omega), by omega⟩
  · refine ⟨10, (que_release_no v h1 hv).mono fun e w1 ⟨he, hw⟩ => ⟨he, ?_⟩⟩
    subst hw
    exact (refq_release_no v h2 (by rw [held_iff]; exact has_no hv)).mono fun e w2 ⟨he, hw⟩ => ⟨he, hw ▸ H.up⟩

theorem lst_mem {q : List Int} {id v : Int} {held : Bool} (hv : ¬ (held = true ∧ id = v)) : v ∈ lst q id held ↔ v ∈ q := by
  cases held
  · rfl
  · have : ¬ v = id := fun e => hv ⟨rfl, e.symm⟩
    rw [lst_held, List.mem_cons]; simp [this]
theorem lst_drop {q : List Int} {id v : Int} {held : Bool} (hv : ¬ (held = true ∧ id = v)) : dropQ (lst q id held) v = lst (dropQ q v) id held := by
  cases held
  · rfl
  · have hn : ¬ id = v := fun e => hv ⟨rfl, e⟩
    have hn' : ¬ v = id := fun e => hn e.symm
    rw [lst_held, lst_held]
    unfold dropQ
    by_cases hin : v ∈ q
    · simp [hin, pos, hn]
    · simp [hin, hn']
theorem lst_push (q : List Int) (id v : Int) (held : Bool) : lst q id held ++ [v] = lst (q ++ [v]) id held := by cases held <;> rfl
theorem lst_len (q : List Int) (id : Int) (held : Bool) : q.length ≤ (lst q id held).length := by cases held <;> simp [lst]

theorem pair_leave {w0 w : World} {g g' m b : Nat} {q : List Int} {id : Int} {held : Bool} {t : Nat} (v : Int) (h : Pair w0 w g g' m b q id held t) (hm : m ≤ 65536) (hb : b ≤ 60) :
    ∃ E, Calls Try.prog 24 #[.pointer (some ⟨g, 0, none⟩), .int .i64 v] w fun e w1 => e = .returned (.int .i64 E) ∧
      Calls Try.prog 41 #[.pointer (some ⟨g', 0, none⟩), .int .i64 v] w1 fun e w2 => e = .returned (.int .i64 E) ∧ PairX w0 w2 g g' m (b + 1) := by
  obtain ⟨F, A, c, h1, h2, h3, h4, h5, h6⟩ := h
  refine ⟨_, (que_leave v h1 hm).mono fun e w1 ⟨he, F1, hq1, hs1⟩ => ⟨he, ?_⟩⟩
  obtain ⟨f1, r1⟩ := h3.que h2 hs1
  by_cases hv : held = true ∧ id = v
  · rw [leaveE, if_pos hv]
    rw [leaveQ, if_pos hv] at hq1
    exact (refq_leave_has v r1 (by rw [held_iff]; exact held_yes hv)).mono fun e w2 ⟨he, hw⟩ => ⟨he, hw ▸ ⟨q, id, held, t, F1, A, c, hq1, r1, f1, h4, by omega, by omega⟩⟩
  · rw [leaveE, if_neg hv]
    rw [leaveQ, if_neg hv] at hq1
    by_cases hin : v ∈ q
    · rw [if_pos hin]
      refine (refq_leave v r1 (by omega) (by rw [held_iff]; exact has_no hv) ((lst_mem hv).2 hin) (by intro e; subst e; rw [lst_drop hv]; simp [lst_held])).mono fun e w2 ⟨he, A2, c2, hr2, hs2⟩ => ⟨he, ?_⟩
      obtain ⟨f2, q2⟩ := f1.ref hq1 hs2
      rw [lst_drop hv] at hr2
      refine ⟨_, id, held, t, F1, A2, c2, q2, hr2, f2, h4, ?_, by omega⟩
      have := dropQ_len (lst q id held) v
      rw [lst_drop hv] at this
      omega
    · rw [if_neg hin]
      rw [dropQ, if_neg hin] at hq1
      exact (refq_leave_none v r1 (by omega) (by rw [held_iff]; exact has_no hv) (fun h => hin ((lst_mem hv).1 h))).mono fun e w2 ⟨he, hw⟩ => ⟨he, hw ▸ ⟨q, id, held, t, F1, A, c, hq1, r1, f1, h4, by omega, by omega⟩⟩

theorem pair_want {w0 w : World} {g g' m b : Nat} {q : List Int} {id : Int} {held : Bool} {t : Nat} (v : Int) (h : Pair w0 w g g' m b q id held t) (hm : m ≤ 65536) (hb : b ≤ 60) :
    ∃ E, Calls Try.prog 23 #[.pointer (some ⟨g, 0, none⟩), .int .i64 v] w fun e w1 => e = .returned (.int .i64 E) ∧
      Calls Try.prog 42 #[.pointer (some ⟨g', 0, none⟩), .int .i64 v] w1 fun e w2 => e = .returned (.int .i64 E) ∧ PairX w0 w2 g g' m (b + 1) := by
  obtain ⟨F, A, c, h1, h2, h3, h4, h5, h6⟩ := h
  refine ⟨_, (que_want v h1 hm).mono fun e w1 ⟨he, F1, hq1, hs1⟩ => ⟨he, ?_⟩⟩
  obtain ⟨f1, r1⟩ := h3.que h2 hs1
  by_cases hv : held = true ∧ id = v
  · rw [wantE, if_pos hv]
    rw [wantQ, if_pos hv] at hq1
    exact (refq_want_dup v r1 (by omega) (by obtain ⟨rfl, rfl⟩ := hv; simp [lst_held])).mono fun e w2 ⟨he, hw⟩ => ⟨he, hw ▸ ⟨q, id, held, t, F1, A, c, hq1, r1, f1, h4, by omega, by omega⟩⟩
  · rw [wantE, if_neg hv, pushE]
    rw [wantQ, if_neg hv, pushQ] at hq1
    by_cases hin : v ∈ q
    · rw [if_pos hin] at hq1 ⊢
      exact (refq_want_dup v r1 (by omega) ((lst_mem hv).2 hin)).mono fun e w2 ⟨he, hw⟩ => ⟨he, hw ▸ ⟨q, id, held, t, F1, A, c, hq1, r1, f1, h4, by omega, by omega⟩⟩
    · rw [if_neg hin] at hq1 ⊢
      by_cases hl : m ≤ q.length
      · rw [if_pos hl] at hq1 ⊢
        exact (refq_want_full v r1 (by omega) (fun h => hin ((lst_mem hv).1 h)) (by rw [waitL_lst]; exact hl)).mono fun e w2 ⟨he, hs⟩ => ⟨he, (Pair.same (show Pair w0 w1 g g' m b q id held t from ⟨F1, A, c, hq1, r1, f1, h4, h5, h6⟩) hs).up⟩
      · rw [if_neg hl] at hq1 ⊢
        refine (refq_want v r1 (by omega) (fun h => hin ((lst_mem hv).1 h)) (by rw [waitL_lst]; omega)).mono fun e w2 ⟨he, A2, c2, hr2, hs2⟩ => ⟨he, ?_⟩
        obtain ⟨f2, q2⟩ := f1.ref hq1 hs2
        have hll : (lst (q ++ [v]) id held).length = (lst q id held).length + 1 := by rw [← lst_push]; simp
        rw [lst_push, ← hll] at hr2
        exact ⟨_, id, held, t, F1, A2, c2, q2, hr2, f2, h4, by omega, by omega⟩

theorem pair_grant {w0 w : World} {g g' m b : Nat} {q : List Int} {id : Int} {held : Bool} {t : Nat} (h : Pair w0 w g g' m b q id held t) (hm : m ≤ 65536) (hb : b ≤ 60) :
    ∃ X B, Calls Try.prog 25 #[.pointer (some ⟨g, 0, none⟩)] w fun e w1 => e = .returned (.tuple #[.int .i64 X, .bool B]) ∧
      Calls Try.prog 39 #[.pointer (some ⟨g', 0, none⟩)] w1 fun e w2 => e = .returned (.tuple #[.int .i64 X, .bool B]) ∧ PairX w0 w2 g g' m (b + 1) := by
  have H := h
  obtain ⟨F, A, c, h1, h2, h3, h4, h5, h6⟩ := h
  cases held
  · cases q with
    | nil =>
      refine ⟨0, false, (que_grant_none h1 hm).mono fun e w1 ⟨he, F1, hq1, hs1⟩ => ⟨he, ?_⟩⟩
      obtain ⟨f1, r1⟩ := h3.que h2 hs1
      exact (refq_grant_no r1 (.inr rfl)).mono fun e w2 ⟨he, hw⟩ => ⟨he, hw ▸ ⟨[], id, false, t, F1, A, c, hq1, r1, f1, h4, by omega, by omega⟩⟩
    | cons x r =>
      refine ⟨x, true, (que_grant h1 hm (by omega)).mono fun e w1 ⟨he, F1, hq1, hs1⟩ => ⟨he, ?_⟩⟩
      obtain ⟨f1, r1⟩ := h3.que h2 hs1
      refine (refq_grant r1 (by simp [lst]) (by omega) (by omega)).mono fun e w2 ⟨he, hr2, hs2⟩ => ⟨he, ?_⟩
      obtain ⟨f2, q2⟩ := f1.ref hq1 hs2
      exact ⟨r, x, true, t + 1, F1, A, c, q2, hr2, f2, (fun h => by cases h), (by have := h5; simp [lst] at this ⊢; omega), by omega⟩
  · refine ⟨0, false, (que_grant_held h1).mono fun e w1 ⟨he, hw⟩ => ⟨he, ?_⟩⟩
    subst hw
    exact (refq_grant_no h2 (.inl rfl)).mono fun e w2 ⟨he, hw⟩ => ⟨he, hw ▸ H.up⟩
end Go.Proofs.Ytkakhpbeglkbnaa
