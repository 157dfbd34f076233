/-
  The evaluator: slice expressions; all operations that touch no memory, in one. No program is named here. No conditions.
-/
import Derived.Test.YtopkdiiigidfdaaGreatEvC
namespace Go.Ev
open Go.RowKit Go.Al
set_option linter.unusedVariables false

/-- a bound that is no more than y -/
def bndS (x : SV) (y : Nat) : Option Nat := ixS x (y + 1)
section
variable {P : Program} {A : Nat → Prop} {I : In}
theorem bndS_run {x : SV} {y i z : Nat} (h : bndS x y = some i) (hz : y ≤ z) (code : BoundsCode) (w : World) : (Instr.sliceBound (x.den I) z code).run P w = .ok i w ∧ i ≤ y := by
  obtain ⟨k, rfl, hlt⟩ := ixS_spec h
  have h2 : i ≤ z := by omega
  exact ⟨by simp [Instr.sliceBound, asIntOf, SV.den, h2], by omega⟩
end
/-- the bounds of a slice whose capacity is a number -/
def bndsL (n c : Nat) (lo hi mx : Option SV) : Option (Nat × Nat × Nat) :=
  match (match mx with
    | some v => bndS v c
    | none => some c) with
  | none => none
  | some m => match (match hi, mx with
      | some v, _ => bndS v m
      | none, none => some n
      | none, some _ => none) with
    | none => none
    | some h => match (match lo with
        | some v => bndS v h
        | none => some 0) with
      | none => none
      | some l => some (l, h, m)
section
variable {P : Program} {A : Nat → Prop} {I : In}
theorem bndsL_run {n c l h m : Nat} {lo hi mx : Option SV} {b : Bool} (he : bndsL n c lo hi mx = some (l, h, m)) (hn : n ≤ c) (w : World) :
    (Instr.sliceBounds b n c (lo.map (SV.den I)) (hi.map (SV.den I)) (mx.map (SV.den I))).run P w = .ok (l, h, m) w ∧ l ≤ h ∧ h ≤ m ∧ m ≤ c := by
  unfold bndsL at he
  split at he
  · cases he
  rename_i m' hm
  split at he
  · cases he
  rename_i h' hh
  split at he
  · cases he
  rename_i l' hl
  cases he
  have r := fun (x : SV) (y i : Nat) (e : bndS x y = some i) (code : BoundsCode) (w : World) => bndS_run (P := P) (I := I) e (Nat.le_refl y) code w
  cases mx with
  | none =>
    simp only [Option.some.injEq] at hm
    subst hm
    cases hi with
    | none =>
      simp only [Option.some.injEq] at hh
      subst hh
      cases lo with
      | none =>
        simp only [Option.some.injEq] at hl
        subst hl
        exact ⟨by simp [Instr.sliceBounds], by omega, hn, Nat.le_refl _⟩
      | some x =>
        have a := r x _ _ hl
        refine ⟨?_, (a .sliceB w).2, hn, Nat.le_refl _⟩
        simp [Instr.sliceBounds, (a _ _).1]
    | some y =>
      have a := r y _ _ hh
      cases lo with
      | none =>
        simp only [Option.some.injEq] at hl
        subst hl
        refine ⟨?_, by omega, (a .sliceB w).2, Nat.le_refl _⟩
        simp [Instr.sliceBounds, (a _ _).1]
      | some x =>
        have a2 := r x _ _ hl
        refine ⟨?_, (a2 .sliceB w).2, (a .sliceB w).2, Nat.le_refl _⟩
        simp [Instr.sliceBounds, (a _ _).1, (a2 _ _).1]
  | some z =>
    have a0 := r z _ _ hm
    cases hi with
    | none => cases hh
    | some y =>
      have a := r y _ _ hh
      cases lo with
      | none =>
        simp only [Option.some.injEq] at hl
        subst hl
        refine ⟨?_, by omega, (a .sliceB w).2, (a0 .sliceB w).2⟩
        simp [Instr.sliceBounds, (a0 _ _).1, (a _ _).1]
      | some x =>
        have a2 := r x _ _ hl
        refine ⟨?_, (a2 .sliceB w).2, (a .sliceB w).2, (a0 .sliceB w).2⟩
        simp [Instr.sliceBounds, (a0 _ _).1, (a _ _).1, (a2 _ _).1]
/-- the same, whatever the capacity, no less than the length: bounds no greater than that -/
theorem bndsL_run' {n c l h m : Nat} {lo hi mx : Option SV} {b : Bool} (he : bndsL n n lo hi mx = some (l, h, m)) (hn : n ≤ c) (w : World) :
    (Instr.sliceBounds b n c (lo.map (SV.den I)) (hi.map (SV.den I)) (mx.map (SV.den I))).run P w = .ok (l, h, match mx with | some _ => m | none => c) w ∧ l ≤ h ∧ h ≤ m ∧ m ≤ n := by
  unfold bndsL at he
  split at he
  · cases he
  rename_i m' hm
  split at he
  · cases he
  rename_i h' hh
  split at he
  · cases he
  rename_i l' hl
  cases he
  have r := fun (x : SV) (y z i : Nat) (e : bndS x y = some i) (hz : y ≤ z) (code : BoundsCode) (w : World) => bndS_run (P := P) (I := I) e hz code w
  cases mx with
  | none =>
    simp only [Option.some.injEq] at hm
    subst hm
    cases hi with
    | none =>
      simp only [Option.some.injEq] at hh
      subst hh
      cases lo with
      | none =>
        simp only [Option.some.injEq] at hl
        subst hl
        exact ⟨by simp [Instr.sliceBounds], by omega, Nat.le_refl _, Nat.le_refl _⟩
      | some x =>
        have a := r x _ _ _ hl (Nat.le_refl _)
        refine ⟨?_, (a .sliceB w).2, Nat.le_refl _, Nat.le_refl _⟩
        simp [Instr.sliceBounds, (a _ _).1]
    | some y =>
      have a := r y _ _ _ hh hn
      cases lo with
      | none =>
        simp only [Option.some.injEq] at hl
        subst hl
        refine ⟨?_, by omega, (a .sliceB w).2, Nat.le_refl _⟩
        simp [Instr.sliceBounds, (a _ _).1]
      | some x =>
        have a2 := r x _ _ _ hl (Nat.le_refl _)
        refine ⟨?_, (a2 .sliceB w).2, (a .sliceB w).2, Nat.le_refl _⟩
        simp [Instr.sliceBounds, (a _ _).1, (a2 _ _).1]
  | some z =>
    have a0 := r z _ _ _ hm hn
    cases hi with
    | none => cases hh
    | some y =>
      have a := r y _ _ _ hh (Nat.le_refl _)
      cases lo with
      | none =>
        simp only [Option.some.injEq] at hl
        subst hl
        refine ⟨?_, by omega, (a .sliceB w).2, (a0 .sliceB w).2⟩
        simp [Instr.sliceBounds, (a0 _ _).1, (a _ _).1]
      | some x =>
        have a2 := r x _ _ _ hl (Nat.le_refl _)
        refine ⟨?_, (a2 .sliceB w).2, (a .sliceB w).2, (a0 .sliceB w).2⟩
        simp [Instr.sliceBounds, (a0 _ _).1, (a _ _).1, (a2 _ _).1]
end
def addP (p : Option (Nat × Nat)) (k : Nat) : Option (Nat × Nat) := match p with
  | some (id, off) => some (id, off + k)
  | none => none
/-- a slice expression; what can't be said without a new letter is not answered -/
def sliceS (P : Program) (t : TypeId) (x : SV) (lo hi mx : Option SV) : Option SV :=
  match P.underlying t, x with
  | some (.slice e), .slice p n (.lit c) => match bndsL n c lo hi mx, szOf P e with
    | some (l, h, m), some sz => cond (Nat.ble n c) (some (.slice (cond (Nat.beq m l) p (addP p (l * sz))) (h - l) (.lit (m - l)))) none
    | _, _ => none
  | some (.slice e), .slice p n (.sym j k) => match bndsL n n lo hi mx, szOf P e with
    | some (l, h, m), some sz => match mx with
      | some _ => some (.slice (cond (Nat.beq m l) p (addP p (l * sz))) (h - l) (.lit (m - l)))
      | none => cond (Nat.beq l 0) (some (.slice p h (.sym j k))) (cond (Nat.blt l n) (some (.slice (addP p (l * sz)) (h - l) (.sym j (k + l)))) none)
    | _, _ => none
  | some (.slice e), .esl j => match bndsL 0 0 lo hi none, mx, szOf P e with
    | some _, none, some _ => some (.esl j)
    | _, _, _ => none
  | some (.array n e), .ptr (some (id, off)) => match bndsL n n lo hi mx, szOf P e with
    | some (l, h, m), some sz => some (.slice (some (cond (Nat.beq m l) (id, off) (id, off + l * sz))) (h - l) (.lit (m - l)))
    | _, _ => none
  | _, _ => none
section
variable {P : Program} {A : Nat → Prop} {I : In}
theorem addP_den (p : Option (Nat × Nat)) (k : Nat) : (addP p k).map (padr I) = (p.map (padr I)).map (·.add k) := by
  cases p with
  | none => rfl
  | some q => obtain ⟨id, off⟩ := q; simp [addP, padr, add_lit]
theorem addP_ok {p : Option (Nat × Nat)} {k : Nat} (h : ∀ q, p = some q → A q.1) : ∀ q, addP p k = some q → A q.1 := by
  cases p with
  | none => intro q hq; cases hq
  | some p => obtain ⟨id, off⟩ := p; intro q hq; cases hq; exact h (id, off) rfl
theorem beq_cond {α : Type} (m l : Nat) (a b : α) : cond (Nat.beq m l) a b = if m = l then a else b := by
  by_cases h : m = l
  · rw [if_pos h, beq_t h]; rfl
  · rw [if_neg h, beq_f h]; rfl
theorem sliceS_run {t : TypeId} {x s : SV} {lo hi mx : Option SV} (h : sliceS P t x lo hi mx = some s) (hx : x.ok A I) (w : World) :
    (Instr.sliceAt t (x.den I) (lo.map (SV.den I)) (hi.map (SV.den I)) (mx.map (SV.den I))).run P w = .ok (s.den I) w ∧ s.ok A I := by
  unfold sliceS at h
  split at h
  · rename_i e p n c hu
    split at h
    · rename_i l h' m sz hb hz
      cases hle : Nat.ble n c
      · rw [hle] at h; cases h
      · rw [hle] at h
        cases h
        have hn := Nat.le_of_ble_eq_true hle
        obtain ⟨hr, h1, h2, h3⟩ := bndsL_run (P := P) (I := I) (b := true) hb hn w
        rw [beq_cond]
        refine ⟨?_, ?_⟩
        · simp only [Instr.sliceAt, Instr.slice, Sem.run_bind, run_underlying hu, Result.andThen_ok, SV.den, Cap.den, hr, szOf_run hz, Sem.run_pure]
          split <;> simp [addP_den]
        · refine ⟨?_, by show h' - l ≤ m - l; omega⟩
          split
          · exact hx.1
          · exact addP_ok hx.1
    · cases h
  · rename_i e p n j k hu
    obtain ⟨hx1, hA, hcap⟩ := hx
    have hn : n ≤ I.cap j - k := by omega
    split at h
    · rename_i l h' m sz hb hz
      obtain ⟨hr, h1, h2, h3⟩ := bndsL_run' (P := P) (I := I) (b := true) hb hn w
      split at h
      · cases h
        rw [beq_cond]
        refine ⟨?_, ?_⟩
        · simp only [Instr.sliceAt, Instr.slice, Sem.run_bind, run_underlying hu, Result.andThen_ok, SV.den, Cap.den, hr, szOf_run hz, Sem.run_pure]
          split <;> simp [addP_den]
        · refine ⟨?_, by show h' - l ≤ m - l; omega⟩
          split
          · exact hx1
          · exact addP_ok hx1
      · rw [beq_cond] at h
        split at h
        · rename_i h0
          subst h0
          cases h
          refine ⟨?_, hx1, hA, by omega⟩
          simp only [Instr.sliceAt, Instr.slice, Sem.run_bind, run_underlying hu, Result.andThen_ok, SV.den, Cap.den, hr, szOf_run hz, Sem.run_pure, Nat.zero_mul, Nat.sub_zero]
          split
          · rfl
          · cases p <;> simp [padr, add_lit]
        · rename_i h0
          cases hlt : Nat.blt l n
          · rw [hlt] at h; cases h
          · rw [hlt] at h
            cases h
            have hln : l < n := Nat.le_of_ble_eq_true hlt
            refine ⟨?_, addP_ok hx1, hA, by omega⟩
            simp only [Instr.sliceAt, Instr.slice, Sem.run_bind, run_underlying hu, Result.andThen_ok, SV.den, Cap.den, hr, szOf_run hz, Sem.run_pure]
            rw [if_neg (by omega), addP_den, Nat.sub_sub]
    · cases h
  · rename_i e j hu
    split at h
    · rename_i r sz hb hz
      cases h
      obtain ⟨l, h', m⟩ := r
      obtain ⟨hr, h1, h2, h3⟩ := bndsL_run' (P := P) (I := I) (b := true) (c := (I.esl j).2) hb (Nat.zero_le _) w
      have hl0 : l = 0 := by omega
      have hh0 : h' = 0 := by omega
      subst hl0 hh0
      refine ⟨?_, hx⟩
      simp only [Instr.sliceAt, Instr.slice, Sem.run_bind, run_underlying hu, Result.andThen_ok, SV.den, Option.map_none, szOf_run hz, Sem.run_pure] at hr ⊢
      rw [hr]
      simp only [Result.andThen_ok]
      split
      · rfl
      · cases (I.esl j).1 with
        | none => rfl
        | some a => simp [Addr.add]
    · cases h
  · rename_i n e id off hu
    split at h
    · rename_i l h' m sz hb hz
      cases h
      obtain ⟨hr, h1, h2, h3⟩ := bndsL_run (P := P) (I := I) (b := false) hb (Nat.le_refl _) w
      rw [beq_cond]
      refine ⟨?_, ?_⟩
      · simp only [Instr.sliceAt, Sem.run_bind, run_underlying hu, Result.andThen_ok, SV.den, Cap.den, hr, szOf_run hz, Sem.run_pure, Instr.sureAddr, Option.map_some, padr]
        split <;> simp [add_lit]
      · refine ⟨?_, by show h' - l ≤ m - l; omega⟩
        intro q hq
        cases hq
        split <;> exact hx (id, off) rfl
    · cases h
  · cases h
end
end Go.Ev
