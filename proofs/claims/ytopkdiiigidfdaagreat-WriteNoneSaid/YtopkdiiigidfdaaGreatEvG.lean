/-
  The evaluator: how a memory and a world go on together: a new block, one that is written, one that may have moved, a new letter. No program is named here. No conditions.
-/
import Derived.Test.YtopkdiiigidfdaaGreatEvF
namespace Go.Ev
open Go.RowKit Go.Al
set_option linter.unusedVariables false

/-- one name more -/
def In.put (I : In) (n a c : Nat) : In := ⟨fun i => if i = n then a else I.adr i, fun i => if i = n then c else I.cap i, I.esl, I.val⟩
def In.putE (I : In) (n : Nat) (x : Option Addr × Nat) : In := ⟨I.adr, I.cap, fun i => if i = n then x else I.esl i, I.val⟩
section
variable {P : Program} {A : Nat → Prop} {I : In} {st : St} {w w' : World}
theorem In.put_agr (hok : Ok P A I st w) (a c : Nat) : Agrees A I (I.put st.nx a c) :=
  ⟨fun i hi => by
    have := hok.lt i hi
    have : ¬ i = st.nx := by omega
    simp [In.put, this], rfl⟩
theorem In.putE_agr (hok : Ok P A I st w) (x : Option Addr × Nat) : Agrees A I (I.putE st.nx x) :=
  ⟨fun i hi => by
    have := hok.lt i hi
    have : ¬ i = st.nx := by omega
    simp [In.putE, this], rfl⟩
theorem In.put_ext (n a c : Nat) (i : Nat) (h : i < n ∨ n + 1 ≤ i) : (I.put n a c).adr i = I.adr i ∧ (I.put n a c).cap i = I.cap i ∧ (I.put n a c).esl i = I.esl i := by
  have : ¬ i = n := by omega
  simp [In.put, this]
theorem up_succ (n : Nat) : up A n (n + 1) n := .inr ⟨Nat.le_refl _, Nat.lt_succ_self _⟩
theorem up_of {n m i : Nat} (h : A i) : up A n m i := .inl h
theorem Ok.same (hok : Ok P A I st w) (h : Same w w') : Ok P A I st w' :=
  ⟨hok.lt, hok.key, fun id o ho => by
    obtain ⟨ob, h1, h2⟩ := hok.real id o ho
    exact ⟨ob, by rw [h.block _ (Array.getElem?_eq_some_iff.1 h1).1 (fun x => x)]; exact h1, h2⟩, hok.inj, hok.val⟩
/-- the world alone goes on: nothing that was there has changed -/
theorem Mv.same (hok : Ok P A I st w) (h : Same w w') : Mv P A I st w I st w' :=
  ⟨Nat.le_refl _, fun _ _ => ⟨rfl, rfl, rfl⟩, rfl, Same.to h, fun _ _ _ => rfl, fun _ h => h, fun id h1 h2 => absurd (hok.live_lt h2) (by omega), fun _ _ h => h, (hok.same h).congr fun i => ⟨.inl, fun h => h.elim id fun h => by omega⟩⟩
/-- a new block -/
theorem Mv.alloc (hok : Ok P A I st w) {so : SO} {ob : Obj} (c : Nat) {w0 : World} (hw0 : Same w w0) (hs : w0.heap.size = w.heap.size) (hso : so.ok (up A st.nx (st.nx + 1)) (I.put st.nx w.heap.size c)) (hr : Real P (I.put st.nx w.heap.size c) so ob) :
    Mv P A I st w (I.put st.nx w.heap.size c) ⟨ins st.H st.nx so, st.nx + 1, st.wr⟩ (w0.alloc ob) := by
  have hagr := In.put_agr hok w.heap.size c
  have hc : Same w (w0.alloc ob) := hw0.alloc ob
  have hn : look st.H st.nx = none := by
    cases h : look st.H st.nx with
    | none => rfl
    | some o => exact absurd (hok.lt _ (hok.key _ o h).1) (Nat.lt_irrefl _)
  have hlk : ∀ id, look (ins st.H st.nx so) id = if st.nx = id then some so else look st.H id := fun id => look_ins _ _ _ _
  have hlive : ∀ id, look st.H id ≠ none → ¬ st.nx = id := fun id h e => h (e ▸ hn)
  have hadr : ∀ id, look st.H id ≠ none → (I.put st.nx w.heap.size c).adr id = I.adr id := fun id h => (In.put_ext _ _ _ id (.inl (hok.live_lt h))).1
  refine ⟨Nat.le_succ _, fun i hi => In.put_ext _ _ _ i hi, rfl, Same.to hc, fun id hid _ => ?_, fun _ h => h, fun id hid hl => ?_, fun id hid h0 => ?_, ⟨fun i hi => ?_, fun id o ho => ?_, fun id o ho => ?_, fun id id' h1 h2 he => ?_, hok.val⟩⟩
  · show look (ins st.H st.nx so) id = _
    rw [hlk, if_neg (by omega)]
  · have hl : look (ins st.H st.nx so) id ≠ none := hl
    rw [hlk] at hl
    by_cases h : st.nx = id
    · subst h
      exact .inl (by simp [In.put])
    · rw [if_neg h] at hl
      exact absurd (hok.live_lt hl) (by omega)
  · show look (ins st.H st.nx so) id = _
    rw [hlk, if_neg (by omega)]
    exact h0
  · rcases hi with hi | hi
    · exact Nat.lt_succ_of_lt (hok.lt i hi)
    · exact hi.2
  · have ho : look (ins st.H st.nx so) id = some o := ho
    rw [hlk] at ho
    by_cases h : st.nx = id
    · rw [if_pos h] at ho
      cases ho
      exact ⟨h ▸ up_succ _, hso⟩
    · rw [if_neg h] at ho
      obtain ⟨h1, h2⟩ := hok.key id o ho
      exact ⟨.inl h1, SO.ok_mono (fun i hi => .inl hi) (SO.ok_agr hagr h2)⟩
  · have ho : look (ins st.H st.nx so) id = some o := ho
    rw [hlk] at ho
    by_cases h : st.nx = id
    · rw [if_pos h] at ho
      cases ho
      subst h
      refine ⟨ob, ?_, hr⟩
      simp only [In.put, if_true]
      rw [← hs]
      exact heap_alloc_new w0 ob
    · rw [if_neg h] at ho
      obtain ⟨ob', h1, h2⟩ := (hok.same hc).real id o ho
      exact ⟨ob', by rw [hadr id (by rw [ho]; simp)]; exact h1, Real.agr hagr (hok.key id o ho).2 h2⟩
  · have h1 : look (ins st.H st.nx so) id ≠ none := h1
    have h2 : look (ins st.H st.nx so) id' ≠ none := h2
    rw [hlk] at h1 h2
    by_cases e1 : st.nx = id
    · by_cases e2 : st.nx = id'
      · exact e1.symm.trans e2
      · rw [if_neg e2] at h2
        rw [hadr _ h2] at he
        subst e1
        simp only [In.put, if_true] at he
        exact absurd (hok.adr_lt h2) (by omega)
    · rw [if_neg e1] at h1
      rw [hadr _ h1] at he
      by_cases e2 : st.nx = id'
      · subst e2
        simp only [In.put, if_true] at he
        exact absurd (hok.adr_lt h1) (by omega)
      · rw [if_neg e2] at h2
        rw [hadr _ h2] at he
        exact hok.inj _ _ h1 h2 he
/-- a block is written -/
theorem Mv.upd (hok : Ok P A I st w) {id : Nat} {so so' : SO} {ob : Obj} (hl : look st.H id = some so) (hc : Chg (fun b => b = I.adr id) w w') (hb : w'.heap[I.adr id]? = some ob) (hso : so'.ok A I) (hr : Real P I so' ob) :
    Mv P A I st w I ⟨ins st.H id so', st.nx, id :: st.wr⟩ w' := by
  have hlk : ∀ k, look (ins st.H id so') k = if id = k then some so' else look st.H k := fun k => look_ins _ _ _ _
  have hlive : ∀ k, look (ins st.H id so') k ≠ none → look st.H k ≠ none := fun k h => by
    rw [hlk] at h
    by_cases e : id = k
    · subst e; rw [hl]; simp
    · rwa [if_neg e] at h
  refine ⟨Nat.le_refl _, fun _ _ => ⟨rfl, rfl, rfl⟩, rfl, hc.mono fun k _ e => ⟨id, by rw [hl]; simp, e.symm⟩, fun k hk hw => ?_, fun k hk => List.mem_cons_of_mem _ hk, fun k hk h => absurd (hok.live_lt (hlive k h)) (by omega), fun k hk h0 => ?_, ⟨fun i hi => ?_, fun k o ho => ?_, fun k o ho => ?_, fun k k' h1 h2 he => hok.inj _ _ (hlive _ h1) (hlive _ h2) he, hok.val⟩⟩
  · show look (ins st.H id so') k = _
    rw [hlk, if_neg (fun e => hw (by subst e; exact List.mem_cons_self ..))]
  · show look (ins st.H id so') k = _
    rw [hlk]
    split
    · rename_i e; subst e; rw [hl] at h0; cases h0
    · exact h0
  · exact hi.elim (hok.lt i) fun h => h.2
  · have ho : look (ins st.H id so') k = some o := ho
    rw [hlk] at ho
    by_cases e : id = k
    · rw [if_pos e] at ho
      cases ho
      exact ⟨.inl (e ▸ (hok.key id so hl).1), SO.ok_mono (fun i hi => .inl hi) hso⟩
    · rw [if_neg e] at ho
      exact ⟨.inl (hok.key k o ho).1, SO.ok_mono (fun i hi => .inl hi) (hok.key k o ho).2⟩
  · have ho : look (ins st.H id so') k = some o := ho
    rw [hlk] at ho
    by_cases e : id = k
    · rw [if_pos e] at ho
      cases ho
      subst e
      exact ⟨ob, hb, hr⟩
    · rw [if_neg e] at ho
      obtain ⟨ob', h1, h2⟩ := hok.real k o ho
      refine ⟨ob', ?_, h2⟩
      rw [hc.block _ (Array.getElem?_eq_some_iff.1 h1).1 (fun e2 => e (hok.inj _ _ (by rw [hl]; simp) (by rw [ho]; simp) e2.symm))]
      exact h1
/-- a block is written under a new name; the old one is no more -/
theorem Mv.merge (hok : Ok P A I st w) {id : Nat} {so so' : SO} {ob : Obj} (c : Nat) (hl : look st.H id = some so) (hc : Chg (fun b => b = I.adr id) w w') (hb : w'.heap[I.adr id]? = some ob) (hso : so'.ok (up A st.nx (st.nx + 1)) (I.put st.nx (I.adr id) c)) (hr : Real P (I.put st.nx (I.adr id) c) so' ob) :
    Mv P A I st w (I.put st.nx (I.adr id) c) ⟨ins (del st.H id) st.nx so', st.nx + 1, id :: st.wr⟩ w' := by
  have hagr := In.put_agr hok (I.adr id) c
  have hlk : ∀ k, look (ins (del st.H id) st.nx so') k = if st.nx = k then some so' else if id = k then none else look st.H k := fun k => by rw [look_ins, look_del]
  have hidn : id < st.nx := hok.live_lt (by rw [hl]; simp)
  have hadr : ∀ k, look st.H k ≠ none → (I.put st.nx (I.adr id) c).adr k = I.adr k := fun k h => (In.put_ext _ _ _ k (.inl (hok.live_lt h))).1
  refine ⟨Nat.le_succ _, fun i hi => In.put_ext _ _ _ i hi, rfl, hc.mono fun k _ e => ⟨id, by rw [hl]; simp, e.symm⟩, fun k hk hw => ?_, fun k hk => List.mem_cons_of_mem _ hk, fun k hk h => ?_, fun k hk h0 => ?_, ⟨fun i hi => ?_, fun k o ho => ?_, fun k o ho => ?_, fun k k' h1 h2 he => ?_, hok.val⟩⟩
  · show look (ins (del st.H id) st.nx so') k = _
    rw [hlk, if_neg (by omega), if_neg (fun e => hw (by subst e; exact List.mem_cons_self ..))]
  · have h : look (ins (del st.H id) st.nx so') k ≠ none := h
    rw [hlk] at h
    by_cases e : st.nx = k
    · subst e
      refine .inr ⟨id, by rw [hl]; simp, ?_, by simp [In.put]⟩
      show look (ins (del st.H id) st.nx so') id = none
      rw [hlk, if_neg (by omega), if_pos rfl]
    · rw [if_neg e] at h
      split at h
      · exact absurd rfl h
      · exact absurd (hok.live_lt h) (by omega)
  · show look (ins (del st.H id) st.nx so') k = _
    rw [hlk, if_neg (by omega), h0]
    simp
  · exact hi.elim (fun h => Nat.lt_succ_of_lt (hok.lt i h)) fun h => h.2
  · have ho : look (ins (del st.H id) st.nx so') k = some o := ho
    rw [hlk] at ho
    by_cases e : st.nx = k
    · rw [if_pos e] at ho
      cases ho
      exact ⟨e ▸ up_succ _, hso⟩
    · rw [if_neg e] at ho
      split at ho
      · cases ho
      · obtain ⟨h1, h2⟩ := hok.key k o ho
        exact ⟨.inl h1, SO.ok_mono (fun i hi => .inl hi) (SO.ok_agr hagr h2)⟩
  · have ho : look (ins (del st.H id) st.nx so') k = some o := ho
    rw [hlk] at ho
    by_cases e : st.nx = k
    · rw [if_pos e] at ho
      cases ho
      subst e
      exact ⟨ob, by simp only [In.put, if_true]; exact hb, hr⟩
    · rw [if_neg e] at ho
      split at ho
      · cases ho
      · rename_i e2
        obtain ⟨ob', h1, h2⟩ := hok.real k o ho
        refine ⟨ob', ?_, Real.agr hagr (hok.key k o ho).2 h2⟩
        rw [hadr k (by rw [ho]; simp), hc.block _ (Array.getElem?_eq_some_iff.1 h1).1 (fun e3 => e2 (hok.inj _ _ (by rw [hl]; simp) (by rw [ho]; simp) e3.symm))]
        exact h1
  · have h1 : look (ins (del st.H id) st.nx so') k ≠ none := h1
    have h2 : look (ins (del st.H id) st.nx so') k' ≠ none := h2
    have key : ∀ k, look (ins (del st.H id) st.nx so') k ≠ none → (k = st.nx ∧ (I.put st.nx (I.adr id) c).adr k = I.adr id) ∨ (k ≠ id ∧ look st.H k ≠ none ∧ (I.put st.nx (I.adr id) c).adr k = I.adr k) := fun k h => by
      rw [hlk] at h
      by_cases e : st.nx = k
      · subst e
        exact .inl ⟨rfl, by simp [In.put]⟩
      · rw [if_neg e] at h
        split at h
        · exact absurd rfl h
        · rename_i e2
          exact .inr ⟨fun e3 => e2 e3.symm, h, hadr k h⟩
    rcases key k h1 with ⟨a1, a2⟩ | ⟨a1, a2, a3⟩ <;> rcases key k' h2 with ⟨b1, b2⟩ | ⟨b1, b2, b3⟩
    · omega
    · rw [a2, b3] at he
      exact absurd (hok.inj _ _ (by rw [hl]; simp) b2 he).symm b1
    · rw [a3, b2] at he
      exact absurd (hok.inj _ _ a2 (by rw [hl]; simp) he) a1
    · rw [a3, b3] at he
      exact hok.inj _ _ a2 b2 he
/-- a new letter -/
theorem Mv.letter (hok : Ok P A I st w) (x : Option Addr × Nat) : Mv P A I st w (I.putE st.nx x) ⟨st.H, st.nx + 1, st.wr⟩ w := by
  have hagr := In.putE_agr hok x
  refine ⟨Nat.le_succ _, fun i hi => ?_, rfl, Chg.refl _ w, fun _ _ _ => rfl, fun _ h => h, fun id h1 h2 => absurd (hok.live_lt h2) (by omega), fun _ _ h => h, ⟨fun i hi => hi.elim (fun h => Nat.lt_succ_of_lt (hok.lt i h)) fun h => h.2, fun id o ho => ?_, fun id o ho => ?_, hok.inj, hok.val⟩⟩
  · have : ¬ i = st.nx := by have := hi; simp only at this; omega
    simp [In.putE, this]
  · obtain ⟨h1, h2⟩ := hok.key id o ho
    exact ⟨.inl h1, SO.ok_mono (fun i hi => .inl hi) (SO.ok_agr hagr h2)⟩
  · obtain ⟨ob, h1, h2⟩ := hok.real id o ho
    exact ⟨ob, h1, Real.agr hagr (hok.key id o ho).2 h2⟩
end
end Go.Ev
