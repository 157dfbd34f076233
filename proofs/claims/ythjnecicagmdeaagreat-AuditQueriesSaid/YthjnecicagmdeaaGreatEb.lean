/-
  The evaluator: how a memory and a world go on together: a new block, one that is written, one that may have moved, a new letter. No program is named here. No conditions.
-/
import Derived.Test.YthjnecicagmdeaaGreatEa
import Derived.Deep.AppendSrc
import Derived.Deep.Upon
import Derived.Maps.RangeRun
namespace Go.E2
open Go.RowKit Go.Al
set_option linter.unusedVariables false
set_option linter.unusedSectionVars false
variable [Th] [Facts]

/-- one name more -/
def EX.blk (a : Nat) : EX := ⟨(none, 0), fun b => b = a, ⟨.bool false, rfl⟩⟩
def EX.lit (x : Option Addr × Nat) : EX := ⟨x, fun _ => False, ⟨.bool false, rfl⟩⟩
def In.put (I : In) (n a c : Nat) : In := ⟨fun i => if i = n then a else I.adr i, fun i => if i = n then c else I.cap i, fun i => if i = n then EX.blk a else I.esl i, I.val⟩
def In.putE (I : In) (n : Nat) (x : EX) : In := ⟨I.adr, I.cap, fun i => if i = n then x else I.esl i, I.val⟩
section
variable {P : Program} {A : Nat → Prop} {I : In} {st : St} {w w' : World}
theorem In.put_agr (hok : Ok P A I st w) (a c : Nat) : Agrees A I (I.put st.nx a c) :=
  ⟨fun i hi => by
    have := hok.lt i hi
    have : ¬ i = st.nx := by omega
    simp [In.put, this], rfl⟩
theorem In.putE_agr (hok : Ok P A I st w) (x : EX) : Agrees A I (I.putE st.nx x) :=
  ⟨fun i hi => by
    have := hok.lt i hi
    have : ¬ i = st.nx := by omega
    simp [In.putE, this], rfl⟩
theorem In.put_ext (n a c : Nat) (i : Nat) (h : i < n ∨ n + 1 ≤ i) : (I.put n a c).adr i = I.adr i ∧ (I.put n a c).cap i = I.cap i ∧ (I.put n a c).esl i = I.esl i := by
  have : ¬ i = n := by omega
  simp [In.put, this]
theorem up_succ (n : Nat) : up A n (n + 1) n := .inr ⟨Nat.le_refl _, Nat.lt_succ_self _⟩
theorem up_of {n m i : Nat} (h : A i) : up A n m i := .inl h
theorem Ok.same (hok : Ok P A I st w) (h : Same w w') : Ok P A I st w' :=
  ⟨hok.lt, hok.key, fun id o ho => (hok.real id o ho).frame fun b hb => h.block _ ((hok.real id o ho).lt b hb) (fun x => x), hok.inj, hok.val⟩
/-- the world alone goes on: nothing that was there has changed -/
theorem Mv.same (hok : Ok P A I st w) (h : Same w w') : Mv P A I st w I st w' :=
  ⟨Nat.le_refl _, fun _ _ => ⟨rfl, rfl, rfl⟩, rfl, Same.to h, fun _ _ _ => rfl, fun _ h => h, fun id h1 h2 _ _ => absurd (hok.live_lt h2) (by omega), fun _ _ h => h, (hok.same h).congr fun i => ⟨.inl, fun h => h.elim id fun h => by omega⟩, fun b hb _ => h.block b hb fun x => x⟩
/-- a new block -/
theorem Mv.alloc (hok : Ok P A I st w) {so : SO} {ob : Obj} (c : Nat) {w0 : World} (hw0 : Same w w0) (hs : w0.heap.size = w.heap.size) (hso : so.ok (up A st.nx (st.nx + 1)) (I.put st.nx w.heap.size c)) (hr : Real P (I.put st.nx w.heap.size c) so ob) :
    Mv P A I st w (I.put st.nx w.heap.size c) ⟨ins st.H st.nx so, st.nx + 1, st.wr⟩ (w0.alloc ob) := by
  have hagr := In.put_agr hok w.heap.size c
  have hc : Same w (w0.alloc ob) := hw0.alloc ob
  have hn : look st.H st.nx = none := by
    cases h : look st.H st.nx with
    | none => rfl
    | some o => exact absurd (hok.lt _ (hok.key _ o h).1) (Nat.lt_irrefl _)
  have hlk : ∀ id, look (ins st.H st.nx so) id = if st.nx = id then some so else look st.H id := fun id => look_ins _ _ _ _
  have hlive : ∀ id, look st.H id ≠ none → ¬ st.nx = id := fun id h e => h (e ▸ hn)
  have hfp : ∀ id, look st.H id ≠ none → (I.put st.nx w.heap.size c).esl id = I.esl id := fun id h => (In.put_ext _ _ _ id (.inl (hok.live_lt h))).2.2
  have hself : (I.put st.nx w.heap.size c).esl st.nx = EX.blk w.heap.size := by simp [In.put]
  refine ⟨Nat.le_succ _, fun i hi => In.put_ext _ _ _ i hi, rfl, Same.to hc, fun id hid _ => ?_, fun _ h => h, fun id hid hl b hb => ?_, fun id hid h0 => ?_, ⟨fun i hi => ?_, fun id o ho => ?_, fun id o ho => ?_, fun id id' h1 h2 b hb hb' => ?_, hok.val⟩, fun b hb _ => hc.block b hb fun x => x⟩
  · show look (ins st.H st.nx so) id = _
    rw [hlk, if_neg (by omega)]
  · have hl : look (ins st.H st.nx so) id ≠ none := hl
    rw [hlk] at hl
    by_cases h : st.nx = id
    · subst h
      rw [hself] at hb
      exact .inl (Nat.le_of_eq (show b = w.heap.size from hb).symm)
    · rw [if_neg h] at hl
      exact absurd (hok.live_lt hl) (by omega)
  · show look (ins st.H st.nx so) id = _
    rw [hlk, if_neg (by omega)]
    exact h0
  · rcases hi with hi | hi
    · exact Nat.lt_succ_of_lt (hok.lt i hi)
    · exact hi.2
  · have ho : look (ins st.H st.nx so) id = some o := ho
    rw [hlk] at ho
    by_cases h : st.nx = id
    · rw [if_pos h] at ho
      cases ho
      exact ⟨h ▸ up_succ _, hso⟩
    · rw [if_neg h] at ho
      obtain ⟨h1, h2⟩ := hok.key id o ho
      exact ⟨.inl h1, SO.ok_mono (fun i hi => .inl hi) (SO.ok_agr hagr h2)⟩
  · have ho : look (ins st.H st.nx so) id = some o := ho
    rw [hlk] at ho
    by_cases h : st.nx = id
    · rw [if_pos h] at ho
      cases ho
      subst h
      have ha : (I.put st.nx w.heap.size c).adr st.nx = w.heap.size := by simp [In.put]
      refine RealW.of (ob := ob) (by rw [hself, ha]; rfl) ?_ hr
      rw [ha, ← hs]
      exact heap_alloc_new w0 ob
    · rw [if_neg h] at ho
      exact ((hok.same hc).real id o ho).agr hagr (hok.key id o ho).1 (hok.key id o ho).2
  · have h1 : look (ins st.H st.nx so) id ≠ none := h1
    have h2 : look (ins st.H st.nx so) id' ≠ none := h2
    rw [hlk] at h1 h2
    by_cases e1 : st.nx = id
    · by_cases e2 : st.nx = id'
      · exact e1.symm.trans e2
      · rw [if_neg e2] at h2
        rw [hfp _ h2] at hb'
        subst e1
        rw [hself] at hb
        have hb : b = w.heap.size := hb
        exact absurd (hok.fp_lt h2 hb') (by omega)
    · rw [if_neg e1] at h1
      rw [hfp _ h1] at hb
      by_cases e2 : st.nx = id'
      · subst e2
        rw [hself] at hb'
        have hb' : b = w.heap.size := hb'
        exact absurd (hok.fp_lt h1 hb) (by omega)
      · rw [if_neg e2] at h2
        rw [hfp _ h2] at hb'
        exact hok.inj _ _ h1 h2 b hb hb'
/-- a block is written -/
theorem Mv.upd (hok : Ok P A I st w) {id : Nat} {so so' : SO} {ob : Obj} (hl : look st.H id = some so) (hp : so.plain) (hc : Chg (fun b => b = I.adr id) w w') (hb : w'.heap[I.adr id]? = some ob) (hso : so'.ok A I) (hr : Real P I so' ob) :
    Mv P A I st w I ⟨ins st.H id so', st.nx, id :: st.wr⟩ w' := by
  have hlk : ∀ k, look (ins st.H id so') k = if id = k then some so' else look st.H k := fun k => look_ins _ _ _ _
  have hlive : ∀ k, look (ins st.H id so') k ≠ none → look st.H k ≠ none := fun k h => by
    rw [hlk] at h
    by_cases e : id = k
    · subst e; rw [hl]; simp
    · rwa [if_neg e] at h
  have hfp := (hok.real id so hl).fpOf hp
  refine ⟨Nat.le_refl _, fun _ _ => ⟨rfl, rfl, rfl⟩, rfl, hc.mono fun k _ e => ⟨id, by rw [hl]; simp, by rw [hfp]; exact e⟩, fun k hk hw => ?_, fun k hk => List.mem_cons_of_mem _ hk, fun k hk h _ _ => absurd (hok.live_lt (hlive k h)) (by omega), fun k hk h0 => ?_, ⟨fun i hi => ?_, fun k o ho => ?_, fun k o ho => ?_, fun k k' h1 h2 he => hok.inj _ _ (hlive _ h1) (hlive _ h2) he, hok.val⟩, fun b hb hn => hc.block b hb fun e => hn id (List.mem_cons_self ..) (by rw [hl]; simp) (by rw [hfp]; exact e)⟩
  · show look (ins st.H id so') k = _
    rw [hlk, if_neg (fun e => hw (by subst e; exact List.mem_cons_self ..))]
  · show look (ins st.H id so') k = _
    rw [hlk]
    split
    · rename_i e; subst e; rw [hl] at h0; cases h0
    · exact h0
  · exact hi.elim (hok.lt i) fun h => h.2
  · have ho : look (ins st.H id so') k = some o := ho
    rw [hlk] at ho
    by_cases e : id = k
    · rw [if_pos e] at ho
      cases ho
      exact ⟨.inl (e ▸ (hok.key id so hl).1), SO.ok_mono (fun i hi => .inl hi) hso⟩
    · rw [if_neg e] at ho
      exact ⟨.inl (hok.key k o ho).1, SO.ok_mono (fun i hi => .inl hi) (hok.key k o ho).2⟩
  · have ho : look (ins st.H id so') k = some o := ho
    rw [hlk] at ho
    by_cases e : id = k
    · rw [if_pos e] at ho
      cases ho
      subst e
      exact RealW.of hfp hb hr
    · rw [if_neg e] at ho
      exact (hok.real k o ho).frame fun b hb => hc.block _ ((hok.real k o ho).lt b hb) fun e2 => e (hok.inj _ _ (by rw [hl]; simp) (by rw [ho]; simp) b (by rw [hfp]; exact e2) hb)
/-- a block is written under a new name; the old one is no more -/
theorem Mv.merge (hok : Ok P A I st w) {id : Nat} {so so' : SO} {ob : Obj} (c : Nat) (hl : look st.H id = some so) (hp : so.plain) (hc : Chg (fun b => b = I.adr id) w w') (hb : w'.heap[I.adr id]? = some ob) (hso : so'.ok (up A st.nx (st.nx + 1)) (I.put st.nx (I.adr id) c)) (hr : Real P (I.put st.nx (I.adr id) c) so' ob) :
    Mv P A I st w (I.put st.nx (I.adr id) c) ⟨ins (del st.H id) st.nx so', st.nx + 1, id :: st.wr⟩ w' := by
  have hagr := In.put_agr hok (I.adr id) c
  have hlk : ∀ k, look (ins (del st.H id) st.nx so') k = if st.nx = k then some so' else if id = k then none else look st.H k := fun k => by rw [look_ins, look_del]
  have hidn : id < st.nx := hok.live_lt (by rw [hl]; simp)
  have hfp0 := (hok.real id so hl).fpOf hp
  have hfp : ∀ k, look st.H k ≠ none → (I.put st.nx (I.adr id) c).esl k = I.esl k := fun k h => (In.put_ext _ _ _ k (.inl (hok.live_lt h))).2.2
  have hself : (I.put st.nx (I.adr id) c).esl st.nx = EX.blk (I.adr id) := by simp [In.put]
  refine ⟨Nat.le_succ _, fun i hi => In.put_ext _ _ _ i hi, rfl, hc.mono fun k _ e => ⟨id, by rw [hl]; simp, by rw [hfp0]; exact e⟩, fun k hk hw => ?_, fun k hk => List.mem_cons_of_mem _ hk, fun k hk h b hbb => ?_, fun k hk h0 => ?_, ⟨fun i hi => ?_, fun k o ho => ?_, fun k o ho => ?_, fun k k' h1 h2 b hb1 hb2 => ?_, hok.val⟩, fun b hb hn => hc.block b hb fun e => hn id (List.mem_cons_self ..) (by rw [hl]; simp) (by rw [hfp0]; exact e)⟩
  · show look (ins (del st.H id) st.nx so') k = _
    rw [hlk, if_neg (by omega), if_neg (fun e => hw (by subst e; exact List.mem_cons_self ..))]
  · have h : look (ins (del st.H id) st.nx so') k ≠ none := h
    rw [hlk] at h
    by_cases e : st.nx = k
    · subst e
      rw [hself] at hbb
      refine .inr ⟨id, by rw [hl]; simp, ?_, by rw [hfp0]; exact hbb⟩
      show look (ins (del st.H id) st.nx so') id = none
      rw [hlk, if_neg (by omega), if_pos rfl]
    · rw [if_neg e] at h
      split at h
      · exact absurd rfl h
      · exact absurd (hok.live_lt h) (by omega)
  · show look (ins (del st.H id) st.nx so') k = _
    rw [hlk, if_neg (by omega), h0]
    simp
  · exact hi.elim (fun h => Nat.lt_succ_of_lt (hok.lt i h)) fun h => h.2
  · have ho : look (ins (del st.H id) st.nx so') k = some o := ho
    rw [hlk] at ho
    by_cases e : st.nx = k
    · rw [if_pos e] at ho
      cases ho
      exact ⟨e ▸ up_succ _, hso⟩
    · rw [if_neg e] at ho
      split at ho
      · cases ho
      · obtain ⟨h1, h2⟩ := hok.key k o ho
        exact ⟨.inl h1, SO.ok_mono (fun i hi => .inl hi) (SO.ok_agr hagr h2)⟩
  · have ho : look (ins (del st.H id) st.nx so') k = some o := ho
    rw [hlk] at ho
    by_cases e : st.nx = k
    · rw [if_pos e] at ho
      cases ho
      subst e
      have ha : (I.put st.nx (I.adr id) c).adr st.nx = I.adr id := by simp [In.put]
      exact RealW.of (by rw [hself, ha]; rfl) (by rw [ha]; exact hb) hr
    · rw [if_neg e] at ho
      split at ho
      · cases ho
      · rename_i e2
        refine RealW.agr hagr (hok.key k o ho).1 (hok.key k o ho).2 ((hok.real k o ho).frame fun b hbb => hc.block _ ((hok.real k o ho).lt b hbb) fun e3 => e2 (hok.inj _ _ (by rw [hl]; simp) (by rw [ho]; simp) b (by rw [hfp0]; exact e3) hbb))
  · have h1 : look (ins (del st.H id) st.nx so') k ≠ none := h1
    have h2 : look (ins (del st.H id) st.nx so') k' ≠ none := h2
    have key : ∀ k, look (ins (del st.H id) st.nx so') k ≠ none → (k = st.nx ∧ (I.put st.nx (I.adr id) c).esl k = EX.blk (I.adr id)) ∨ (k ≠ id ∧ look st.H k ≠ none ∧ (I.put st.nx (I.adr id) c).esl k = I.esl k) := fun k h => by
      rw [hlk] at h
      by_cases e : st.nx = k
      · subst e
        exact .inl ⟨rfl, hself⟩
      · rw [if_neg e] at h
        split at h
        · exact absurd rfl h
        · rename_i e2
          exact .inr ⟨fun e3 => e2 e3.symm, h, hfp k h⟩
    have hid : look st.H id ≠ none := by rw [hl]; simp
    rcases key k h1 with ⟨a1, a2⟩ | ⟨a1, a2, a3⟩ <;> rcases key k' h2 with ⟨b1, b2⟩ | ⟨b1, b2, b3⟩
    · omega
    · rw [a2] at hb1
      rw [b3] at hb2
      exact absurd (hok.inj _ _ hid b2 b (by rw [hfp0]; exact hb1) hb2).symm b1
    · rw [a3] at hb1
      rw [b2] at hb2
      exact absurd (hok.inj _ _ a2 hid b hb1 (by rw [hfp0]; exact hb2)) a1
    · rw [a3] at hb1
      rw [b3] at hb2
      exact hok.inj _ _ a2 b2 b hb1 hb2
/-- a new letter -/
theorem Mv.letter (hok : Ok P A I st w) (x : EX) : Mv P A I st w (I.putE st.nx x) ⟨st.H, st.nx + 1, st.wr⟩ w := by
  have hagr := In.putE_agr hok x
  refine ⟨Nat.le_succ _, fun i hi => ?_, rfl, Chg.refl _ w, fun _ _ _ => rfl, fun _ h => h, fun id h1 h2 _ _ => absurd (hok.live_lt h2) (by omega), fun _ _ h => h, ⟨fun i hi => hi.elim (fun h => Nat.lt_succ_of_lt (hok.lt i h)) fun h => h.2, fun id o ho => ?_, fun id o ho => (hok.real id o ho).agr hagr (hok.key id o ho).1 (hok.key id o ho).2, fun id id' h1 h2 b hb hb' => ?_, hok.val⟩, fun _ _ _ => rfl⟩
  · have : ¬ i = st.nx := by have := hi; simp only at this; omega
    simp [In.putE, this]
  · obtain ⟨h1, h2⟩ := hok.key id o ho
    exact ⟨.inl h1, SO.ok_mono (fun i hi => .inl hi) (SO.ok_agr hagr h2)⟩
  · rw [(hagr.at_ id (by obtain ⟨o, ho⟩ := Option.ne_none_iff_exists'.1 h1; exact (hok.key id o ho).1)).2.2] at hb
    rw [(hagr.at_ id' (by obtain ⟨o, ho⟩ := Option.ne_none_iff_exists'.1 h2; exact (hok.key id' o ho).1)).2.2] at hb'
    exact hok.inj _ _ h1 h2 b hb hb'
end
end Go.E2
/-
  The evaluator: loads, stores, new blocks, pointers compared. No program is named here. No conditions.
-/
namespace Go.E2
open Go.RowKit Go.Al
set_option linter.unusedVariables false
set_option linter.unusedSectionVars false
variable [Th] [Facts]

section
variable {P : Program} {A : Nat → Prop} {I : In} {st : St} {w w' : World}
theorem Ok.cells (hok : Ok P A I st w) {id : Nat} {e : TypeId} {cs : List SV} {ext : Option Nat} (h : look st.H id = some (.cells e cs ext)) :
    ∃ tail : List Value, w.heap[I.adr id]? = some (.cells (denL I cs ++ tail).toArray e (0, 0)) ∧ (ext = none → tail = []) ∧ ∀ j, ext = some j → ∃ i, P.info? e = some i ∧ (denL I cs ++ tail).length = I.cap j * i.size := by
  obtain ⟨_, ob, h1, h2⟩ := hok.real id _ h
  cases ext with
  | none =>
    simp only [Real] at h2
    subst h2
    exact ⟨[], by simpa using h1, fun _ => rfl, fun j hj => by cases hj⟩
  | some j =>
    simp only [Real] at h2
    obtain ⟨tail, rfl, hi⟩ := h2
    exact ⟨tail, h1, fun hj => (by cases hj), fun k hk => by cases hk; exact hi⟩
theorem Real.of {e : TypeId} {cs : List SV} {ext : Option Nat} {tail : List Value} (h1 : ext = none → tail = []) (h2 : ∀ j, ext = some j → ∃ i, P.info? e = some i ∧ (denL I cs ++ tail).length = I.cap j * i.size) :
    Real P I (.cells e cs ext) (.cells (denL I cs ++ tail).toArray e) := by
  cases ext with
  | none => simp [Real, h1 rfl]
  | some j => exact ⟨tail, rfl, h2 j rfl⟩
theorem Ok.cell (hok : Ok P A I st w) {id off : Nat} {e : TypeId} {cs : List SV} {ext : Option Nat} (h : look st.H id = some (.cells e cs ext)) (hlt : off < cs.length) : w.cell? ⟨I.adr id, off, none⟩ = some ((cs[off]).den I) := by
  obtain ⟨tail, h1, _⟩ := hok.cells h
  have : (denL I cs ++ tail)[off]? = some ((cs[off]).den I) := by
    rw [List.getElem?_append_left (by simpa using hlt), denL_get, List.getElem?_eq_getElem hlt]
    rfl
  simp [World.cell?, h1, this]
theorem Ok.range (hok : Ok P A I st w) {id off n : Nat} {e : TypeId} {cs : List SV} {ext : Option Nat} (h : look st.H id = some (.cells e cs ext)) (hle : off + n ≤ cs.length) :
    ∀ j u, (denL I ((cs.drop off).take n))[j]? = some u → w.cell? ((⟨I.adr id, off, none⟩ : Addr).add j) = some u := fun j u hu => by
  rw [add_lit]
  have hj : j < n := by
    have := (List.getElem?_eq_some_iff.1 hu).1
    simp at this
    omega
  rw [hok.cell h (by omega)]
  rw [denL_get, List.getElem?_take_of_lt hj, List.getElem?_drop] at hu
  have : cs[off + j]? = some (cs[off + j]'(by omega)) := List.getElem?_eq_getElem _
  rw [this] at hu
  exact hu
theorem Ok.loadC (hok : Ok P A I st w) {id off n : Nat} {e : TypeId} {cs : List SV} {ext : Option Nat} (h : look st.H id = some (.cells e cs ext)) (hle : off + n ≤ cs.length) :
    (loadCells ⟨I.adr id, off, none⟩ n).run P w = .ok (denL I ((cs.drop off).take n)).toArray w := by
  have := run_loadCells_list (P := P) w ⟨I.adr id, off, none⟩ (denL I ((cs.drop off).take n)) (hok.range h hle)
  rwa [denL_length, List.length_take, List.length_drop, Nat.min_eq_left (by omega)] at this
end
def loadS (P : Program) (st : St) (t : TypeId) (x : SV) : Option SV :=
  match x, P.underlying t with
  | .ptr (some (id, off)), some _ => match look st.H id with
    | some (.cells e cs ext) => cond (isAggB P t) (match szOf P t with
        | some n => cond (Nat.ble (off + n) cs.length) (some (.agg ((cs.drop off).take n))) none
        | none => none) cs[off]?
    | _ => none
  | _, _ => none
def storeS (P : Program) (st : St) (t : TypeId) (x v : SV) : Option St :=
  match x with
  | .ptr (some (id, off)) => match look st.H id, cellsS v, szOf P t with
    | some (.cells e cs ext), some vs, some n => cond (Nat.beq vs.length n && Nat.ble (off + n) cs.length && vs.all oneB) (some ⟨ins st.H id (.cells e (setR cs off vs) ext), st.nx, id :: st.wr⟩) none
    | _, _, _ => none
  | _ => none
/-- cells of one block, written -/
def newS (st : St) (e : TypeId) (cs : List SV) : SV × St := (.ptr (some (st.nx, 0)), ⟨ins st.H st.nx (.cells e cs none), st.nx + 1, st.wr⟩)
section
variable {P : Program} {A : Nat → Prop} {I : In} {st : St} {w w' : World}
theorem loadS_run (hok : Ok P A I st w) {t : TypeId} {x v : SV} (h : loadS P st t x = some v) : (Instr.loadAt t (x.den I)).run P w = .ok (v.den I) w ∧ v.ok A I := by
  unfold loadS at h
  split at h
  · rename_i id off d hu
    split at h
    · rename_i e cs ext hl
      have hcs := (hok.key id _ hl).2.1
      cases hb : isAggB P t
      · rw [hb] at h
        simp only [cond_false] at h
        have hlt := (List.getElem?_eq_some_iff.1 h).1
        have hc := hok.cell hl hlt
        rw [List.getElem?_eq_getElem hlt] at h
        cases h
        refine ⟨?_, okL_iff.1 hcs _ (List.getElem_mem _)⟩
        simp [Instr.loadAt, Instr.sureAddr, SV.den, padr, loadVar, isAggB_run hu, hb, hc]
      · rw [hb] at h
        simp only [cond_true] at h
        split at h
        · rename_i n hn
          cases hle : Nat.ble (off + n) cs.length
          · rw [hle] at h; cases h
          · rw [hle] at h
            cases h
            have := hok.loadC hl (Nat.le_of_ble_eq_true hle)
            refine ⟨?_, (hcs.drop off).take n⟩
            simp [Instr.loadAt, Instr.sureAddr, SV.den, padr, loadVar, isAggB_run hu, hb, szOf_run hn, this]
        · cases h
    · cases h
  · cases h
theorem setR_length {cells vs : List SV} {off : Nat} (h : off + vs.length ≤ cells.length) : (setR cells off vs).length = cells.length := by
  simp [setR]; omega
theorem oneB_den (hok : Ok P A I st w) {vs : List SV} (h : vs.all oneB = true) : ∀ u ∈ denL I vs, u.oneCell' = true := by
  intro u hu
  rw [denL_map] at hu
  obtain ⟨v, hv, rfl⟩ := List.mem_map.1 hu
  exact (cells_one hok.val.one (List.all_eq_true.1 h v hv)).2
/-- cells written into a block -/
theorem Ok.putC (hok : Ok P A I st w) {id off : Nat} {e : TypeId} {cs vs : List SV} {ext : Option Nat} (hl : look st.H id = some (.cells e cs ext)) (hle : off + vs.length ≤ cs.length) (h1 : vs.all oneB = true) (hv : okL A I vs) :
    ∃ w', (storeCells ⟨I.adr id, off, none⟩ (denL I vs)).run P w = .ok () w' ∧ Mv P A I st w I ⟨ins st.H id (.cells e (setR cs off vs) ext), st.nx, id :: st.wr⟩ w' := by
  obtain ⟨tail, hh, he1, he2⟩ := hok.cells hl
  have hr := run_storeCells_at (P := P) (I.adr id) off e (denL I vs) 0 _ w hh (by simp; omega) (oneB_den hok h1)
  refine ⟨_, hr, ?_⟩
  have hrow : (List.take (off + 0) (denL I cs ++ tail).toArray.toList ++ denL I vs ++ List.drop (off + 0 + (denL I vs).length) (denL I cs ++ tail).toArray.toList) = denL I (setR cs off vs) ++ tail := by
    simp only [Nat.add_zero, denL_length, setR_den]
    rw [List.take_append_of_le_length (by simp; omega), List.drop_append_of_le_length (by simp; omega)]
    simp [List.append_assoc]
  rw [hrow]
  refine Mv.upd hok hl trivial (Go.Proofs.YthjnecicagmdeaaGreat.Chg.setRow (S := fun b => b = I.adr id) (Chg.refl _ w) (.inl rfl) _) (setRow_heap w _ _ _ e (0, 0) hh) ⟨setR_ok off (hok.key id _ hl).2.1 hv, (hok.key id _ hl).2.2⟩ ?_
  refine Real.of he1 fun j hj => ?_
  obtain ⟨i, hi, hlen⟩ := he2 j hj
  refine ⟨i, hi, ?_⟩
  simp only [List.length_append, denL_length] at hlen ⊢
  rw [setR_length hle]
  exact hlen
theorem storeS_run (hok : Ok P A I st w) {t : TypeId} {x v : SV} {st' : St} (h : storeS P st t x v = some st') (hv : v.ok A I) : ∃ w', (Instr.storeAt t (x.den I) (v.den I)).run P w = .ok () w' ∧ Mv P A I st w I st' w' := by
  unfold storeS at h
  split at h
  · rename_i id off
    split at h
    · rename_i e cs ext vs n hl hc hn
      cases hb : (Nat.beq vs.length n && Nat.ble (off + n) cs.length && vs.all oneB)
      · rw [hb] at h; cases h
      · rw [hb] at h
        cases h
        simp only [Bool.and_eq_true, Nat.beq_eq] at hb
        obtain ⟨⟨h1, h2⟩, h3⟩ := hb
        have h2 := Nat.le_of_ble_eq_true h2
        obtain ⟨c1, c2⟩ := cellsS_den (A := A) (I := I) hok.val.one hc
        obtain ⟨w', hr, hm⟩ := hok.putC (off := off) (vs := vs) hl (by omega) h3 (c2 hv)
        refine ⟨w', ?_, hm⟩
        have hv0 : (SV.ptr (some (id, off))).den I = .pointer (some ⟨I.adr id, off, none⟩) := rfl
        rw [hv0]
        simp [Instr.storeAt, Instr.sureAddr, storeVar, c1, szOf_run hn, h1, hr]
    · cases h
  · cases h
theorem newS_run (hok : Ok P A I st w) (e : TypeId) {cs : List SV} (hcs : okL A I cs) {w0 : World} (h0 : Same w w0) (hs : w0.heap.size = w.heap.size) :
    Mv P A I st w (I.put st.nx w.heap.size 0) (newS st e cs).2 (w0.alloc (.cells (denL I cs).toArray e)) ∧ (newS st e cs).1.den (I.put st.nx w.heap.size 0) = .pointer (some ⟨w.heap.size, 0, none⟩) ∧ (newS st e cs).1.ok (up A st.nx (st.nx + 1)) (I.put st.nx w.heap.size 0) := by
  have hagr := In.put_agr hok w.heap.size 0
  refine ⟨Mv.alloc hok 0 h0 hs ⟨okL_mono (fun i hi => .inl hi) _ (okL_agr hagr _ hcs), fun j hj => by cases hj⟩ ?_, ?_, fun q hq => ?_⟩
  · simp only [Real, denL_agr hagr _ hcs]
  · simp [newS, SV.den, padr, In.put]
  · cases hq
    exact up_succ _
theorem zeroS_run {t : TypeId} {zs : List SV} (h : zeroS P t = some zs) (w : World) : ∃ z, (zeroValue t).run P w = .ok z w ∧ z.cells.toList = denL I zs ∧ okL A I zs ∧ ∃ i, P.info? t = some i ∧ i.zero = some z := by
  unfold zeroS at h
  split at h
  · rename_i it hi
    split at h
    · rename_i z hz
      have := mapO_den (A := A) (I := I) (ofV_den 6) h
      exact ⟨z, by simp [zeroValue, typeInfo, hi, hz], this.1.symm, this.2, it, hi, hz⟩
    · cases h
  · cases h
/-- as many cells, each as one of the zero value's -/
def zerosS (zs : List SV) (n : Nat) : Option (List SV) := mapO (fun i => zs[i % zs.length]?) (List.range n)
theorem zerosS_den {zs r : List SV} {n : Nat} {z : Array Value} (h : zerosS zs n = some r) (hz : z.toList = denL I zs) (ho : okL A I zs) : ((Array.range n).map (z[· % z.size]!)) = (denL I r).toArray ∧ okL A I r ∧ r.length = n := by
  have key : ∀ (l : List Nat) (r : List SV), mapO (fun i => zs[i % zs.length]?) l = some r → l.map (z[· % z.size]!) = denL I r ∧ okL A I r := fun l => by
    induction l with
    | nil => intro r h; cases h; exact ⟨rfl, trivial⟩
    | cons x l ih =>
      intro r h
      obtain ⟨y, m, hy, hm, rfl⟩ := mapO_cons h
      have := ih m hm
      refine ⟨?_, ho.get hy, this.2⟩
      have hsz : z.size = zs.length := by rw [← Array.length_toList, hz, denL_length]
      have hg : z[x % z.size]? = some (y.den I) := by rw [← Array.getElem?_toList, hz, hsz, denL_get, hy]; rfl
      simp only [List.map_cons, denL, this.1]
      congr 1
      rw [getElem!_def, hg]
  have := key _ _ h
  refine ⟨?_, this.2, by rw [mapO_length h, List.length_range]⟩
  rw [← this.1]
  apply Array.ext'
  simp
end
end Go.E2
/-
  The evaluator: new blocks, slices and maps; pointers compared; an empty slice at an end. No program is named here. No conditions.
-/
namespace Go.E2
open Go.RowKit Go.Al
set_option linter.unusedVariables false
set_option linter.unusedSectionVars false
variable [Th] [Facts]

def buildSliceC (P : Program) (t : TypeId) (len : Nat) (parts : List (Nat × SV)) : Option (TypeId × List SV) :=
  match P.underlying t with
  | some (.slice e) => match szOf P e with
    | some sz => match cond (Nat.beq (len * sz) 0) (some []) (match zeroS P e with
        | some zs => zerosS zs (len * sz)
        | none => none) with
      | some z => match cond (Nat.ble (len * sz) 16777216) (fillS (fun i => some (i * sz, sz)) z parts) none with
        | some r => some (e, r)
        | none => none
      | none => none
    | none => none
  | _ => none
def buildSliceS (P : Program) (st : St) (t : TypeId) (len : Nat) (parts : List (Nat × SV)) : Option (SV × St) :=
  match buildSliceC P t len parts with
  | some (e, r) => some (.slice (some (st.nx, 0)) len (.lit len), (newS st e r).2)
  | none => none
def makeSliceC (P : Program) (t : TypeId) (len cap : SV) : Option (TypeId × List SV × Nat × Nat) :=
  match P.underlying t, len, cap with
  | some (.slice e), .int _ (.ofNat n), .int _ (.ofNat c) => match P.info? e with
    | some i => match cond (Nat.ble n c && Nat.ble (i.bytes * c) 281474976710656 && Nat.blt c 1048576) (cond (Nat.beq (c * i.size) 0) (some []) (match zeroS P e with
        | some zs => zerosS zs (c * i.size)
        | none => none)) none with
      | some z => some (e, z, n, c)
      | none => none
    | none => none
  | _, _, _ => none
def makeSliceS (P : Program) (st : St) (t : TypeId) (len cap : SV) : Option (SV × St) :=
  match makeSliceC P t len cap with
  | some (e, z, n, c) => some (.slice (some (st.nx, 0)) n (.lit c), (newS st e z).2)
  | none => none
def ptrEqS (P : Program) (st : St) (t : TypeId) (x y : SV) : Option Bool :=
  match P.underlying t, x, y with
  | some (.pointer e), .ptr (some (i, o)), .ptr (some (j, p)) => match look st.H i, look st.H j, szOf P e with
    | some (.cells _ _ _), some (.cells _ _ _), some (_ + 1) => some (Nat.beq i j && Nat.beq o p)
    | _, _, _ => none
  | _, _, _ => none
def sliceE (P : Program) (st : St) (t : TypeId) (x : SV) (lo hi mx : Option SV) : Option (SV × St) :=
  match P.underlying t, x, mx with
  | some (.slice e), .slice p n (.sym j k), none => match bndsL n n lo hi none, szOf P e with
    | some (l, h, _), some _ => cond (Nat.beq l h) (some (.esl st.nx, ⟨st.H, st.nx + 1, st.wr⟩)) none
    | _, _ => none
  | _, _, _ => none
section
variable {P : Program} {A : Nat → Prop} {I : In} {st : St} {w w' : World}
theorem buildSliceS_run (hok : Ok P A I st w) {t : TypeId} {len : Nat} {parts : List (Nat × SV)} {v : SV} {st' : St} (h : buildSliceS P st t len parts = some (v, st')) (hp : ∀ x ∈ parts, x.2.ok A I) (pa : Array (Nat × Value)) (hpa : pa.toList = parts.map fun x => (x.1, x.2.den I)) :
    ∃ I' w', (Instr.buildSlice t len pa).run P w = .ok (v.den I') w' ∧ Mv P A I st w I' st' w' ∧ v.ok (up A st.nx st'.nx) I' := by
  unfold buildSliceS at h
  split at h
  case h_2 => cases h
  rename_i ee rr hc
  injection h with h
  injection h with hv hst
  subst hv hst
  have h := hc
  clear hc
  unfold buildSliceC at h
  split at h
  · rename_i e hu
    split at h
    · rename_i sz hsz
      split at h
      · rename_i z hz
        split at h
        · rename_i r hr
          injection h with h
          injection h with h1 h2
          subst h1 h2
          cases hle : Nat.ble (len * sz) 16777216
          · rw [hle] at hr; cases hr
          · rw [hle] at hr
            simp only [cond_true] at hr
            have hle := Nat.le_of_ble_eq_true hle
            by_cases h0 : len * sz = 0
            · rw [beq_t h0] at hz
              cases hz
              have f := fillS_run (A := A) (I := I) hok.val.one hr trivial hp
              have nw := newS_run hok e f.2 (Chg.refl _ w) rfl
              refine ⟨_, _, ?_, nw.1, fun q hq => nw.2.2 q (by cases hq; rfl), Nat.le_refl _⟩
              have f1 := f.1
              rw [← hpa] at f1
              simp only [denL] at f1
              have e0 : ∀ g : Nat → Value, Array.map g (Array.range 0) = #[] := fun g => by simp
              simp [Instr.buildSlice, run_underlying hu, szOf_run hsz, h0, e0, f1, newRow, SV.den, Cap.den, padr, In.put]
            · rw [beq_f h0] at hz
              simp only [cond_false] at hz
              split at hz
              · rename_i zs hzs
                obtain ⟨zv, z1, z2, z3, i, hi, hzi⟩ := zeroS_run (A := A) (I := I) hzs w
                have hd := zerosS_den hz z2 z3
                have f := fillS_run hok.val.one hr hd.2.1 hp
                have nw := newS_run hok e f.2 (Chg.refl _ w) rfl
                refine ⟨_, _, ?_, nw.1, fun q hq => nw.2.2 q (by cases hq; rfl), Nat.le_refl _⟩
                have hs : i.size = sz := by
                  unfold szOf at hsz
                  rw [hi] at hsz
                  exact Option.some.inj hsz
                have f1 := f.1
                rw [← hpa, ← hd.1, ← hs] at f1
                rw [run_buildSlice w t e len pa _ i zv hu hi hzi (by rw [hs]; omega) (by rw [hs]; exact h0) f1]
                simp [SV.den, Cap.den, padr, In.put]
              · cases hz
        · cases h
      · cases h
    · cases h
  · cases h
theorem makeSliceS_run (hok : Ok P A I st w) {t : TypeId} {len cap v : SV} {st' : St} (h : makeSliceS P st t len cap = some (v, st')) :
    ∃ I' w', (Instr.makeSlice t (len.den I) (cap.den I)).run P w = .ok (v.den I') w' ∧ Mv P A I st w I' st' w' ∧ v.ok (up A st.nx st'.nx) I' := by
  unfold makeSliceS at h
  split at h
  case h_2 => cases h
  rename_i ee zz nn cc hc
  injection h with h
  injection h with hv hst
  subst hv hst
  have h := hc
  clear hc
  unfold makeSliceC at h
  split at h
  · rename_i e k n k' c hu
    split at h
    · rename_i i hi
      split at h
      · rename_i z hz
        injection h with h
        injection h with h1 h
        injection h with h2 h
        injection h with h3 h4
        subst h1 h2 h3 h4
        cases hb : (Nat.ble n c && Nat.ble (i.bytes * c) 281474976710656 && Nat.blt c 1048576)
        · rw [hb] at hz; cases hz
        · rw [hb] at hz
          simp only [cond_true] at hz
          simp only [Bool.and_eq_true] at hb
          have b1 := Nat.le_of_ble_eq_true hb.1.1
          have b2 := Nat.le_of_ble_eq_true hb.1.2
          have b3 : c < 1048576 := Nat.le_of_ble_eq_true hb.2
          have wn : IntKind.i64.wrap (n : Int) = n := IntWalk.i64_in _ (by omega)
          have wc : IntKind.i64.wrap (c : Int) = c := IntWalk.i64_in _ (by omega)
          have q1 : ¬ ((c : Int) < 0) := by omega
          have q2 : ¬ (281474976710656 < (i.bytes : Int) * (c : Int)) := by
            have : ((i.bytes * c : Nat) : Int) ≤ ((281474976710656 : Nat) : Int) := Int.ofNat_le.2 b2
            rw [Int.natCast_mul] at this
            omega
          have q3 : ¬ ((n : Int) < 0) := by omega
          have q4 : ¬ ((c : Int) < n) := by omega
          have q4' : ¬ (c < n) := by omega
          by_cases h0 : c * i.size = 0
          · rw [beq_t h0] at hz
            cases hz
            have nw := newS_run hok e (cs := []) trivial (Chg.refl _ w) rfl
            refine ⟨_, _, ?_, nw.1, fun q hq => nw.2.2 q (by cases hq; rfl), b1⟩
            have e0 : ∀ g : Nat → Value, Array.map g (Array.range 0) = #[] := fun g => by simp
            simp [Instr.makeSlice, run_underlying hu, asInt, asIntOf, SV.den, typeInfo, hi, wn, wc, q1, q2, q3, q4', h0, e0, sizeOf, newRow, Cap.den, padr, In.put, denL]
          · rw [beq_f h0] at hz
            simp only [cond_false] at hz
            split at hz
            · rename_i zs hzs
              obtain ⟨zv, z1, z2, z3, i2, hi2, hzi⟩ := zeroS_run (A := A) (I := I) hzs w
              have hd := zerosS_den hz z2 z3
              have nw := newS_run hok e hd.2.1 (Chg.refl _ w) rfl
              refine ⟨_, _, ?_, nw.1, fun q hq => nw.2.2 q (by cases hq; rfl), b1⟩
              simp [Instr.makeSlice, run_underlying hu, asInt, asIntOf, SV.den, typeInfo, hi, wn, wc, q1, q2, q3, q4', h0, z1, hd.1, sizeOf, newRow, Cap.den, padr, In.put]
            · cases hz
      · cases h
    · cases h
  · cases h
theorem ptrEqS_run (hok : Ok P A I st w) {t : TypeId} {x y : SV} {b : Bool} (h : ptrEqS P st t x y = some b) (xo yo : Operand) :
    (do eqGuard .eql t xo yo (x.den I) (y.den I); binOp .eql t (x.den I) (y.den I) : Sem Value).run P w = .ok (.bool b) w ∧
    (do eqGuard .neq t xo yo (x.den I) (y.den I); binOp .neq t (x.den I) (y.den I) : Sem Value).run P w = .ok (.bool !b) w := by
  unfold ptrEqS at h
  split at h
  · rename_i e i o j p hu
    split at h
    · rename_i e1 cs1 x1 e2 cs2 x2 n hl1 hl2 hn
      cases h
      obtain ⟨t1, hh1, _⟩ := hok.cells hl1
      obtain ⟨t2, hh2, _⟩ := hok.cells hl2
      refine nil_fin rfl rfl rfl rfl ?_
      rw [Op.equalIn]
      simp only [SV.den, Option.map_some, padr]
      simp only [Sem.run_bind, run_underlying hu, Result.andThen_ok, szOf_run hn]
      rw [if_pos (by omega)]
      by_cases hij : i = j
      · subst hij
        rw [beq_t rfl]
        have : (({ block := I.adr i, off := o } : Addr) == { block := I.adr i, off := p }) = (true && Nat.beq o p) := by
          rw [Bool.eq_iff_iff]
          simp
        simp [sameAddr, this]
      · obtain ⟨f1, _⟩ := hok.real i _ hl1
        obtain ⟨f2, _⟩ := hok.real j _ hl2
        have hne : ¬ I.adr i = I.adr j := fun h => hij (hok.inj i j (by rw [hl1]; simp) (by rw [hl2]; simp) (I.adr i) (by rw [f1]) (by rw [f2]; exact h))
        rw [beq_f hij]
        simp [sameAddr, hne, World.frozen?, hh1, hh2, noView, viewAt, World.shape?, mayBeOne, stringish]
    · cases h
  · cases h
theorem sliceE_run (hok : Ok P A I st w) {t : TypeId} {x v : SV} {lo hi mx : Option SV} {st' : St} (h : sliceE P st t x lo hi mx = some (v, st')) (hx : x.ok A I) :
    ∃ I' w', (Instr.sliceAt t (x.den I) (lo.map (SV.den I)) (hi.map (SV.den I)) (mx.map (SV.den I))).run P w = .ok (v.den I') w' ∧ Mv P A I st w I' st' w' ∧ v.ok (up A st.nx st'.nx) I' := by
  unfold sliceE at h
  split at h
  · rename_i e p n j k hu
    split at h
    · rename_i l h' m sz hb hz
      rw [beq_cond] at h
      split at h
      · rename_i hlh
        subst hlh
        cases h
        obtain ⟨hx1, hA, hcap⟩ := hx
        have hn : n ≤ I.cap j - k := by omega
        obtain ⟨hr, h1, h2, h3⟩ := bndsL_run' (P := P) (I := I) (b := true) hb hn w
        simp only [Option.map_none] at hr
        refine ⟨I.putE st.nx (EX.lit (if I.cap j - k = l then p.map (padr I) else (p.map (padr I)).map (·.add (l * sz)), I.cap j - k - l)), w, ?_, Mv.letter hok _, up_succ _⟩
        simp only [Instr.sliceAt, Instr.slice, Sem.run_bind, run_underlying hu, Result.andThen_ok, SV.den, Cap.den, Option.map_none, hr, szOf_run hz, Sem.run_pure]
        simp [In.putE, EX.lit]
      · cases h
    · cases h
  · cases h
/-- is what one has got at nil? -/
def nilR (P : Program) (st : St) (t : TypeId) (x y : SV) : Option Tm :=
  match P.underlying t, x, y with
  | some (.pointer _), .root j, .ptr none => match look st.H j with
    | some (.blob c d) => cond (Nat.beq (Th.kd c) 0) (some (.app 8 [d])) none
    | _ => none
  | some (.pointer _), .ptr none, .root j => match look st.H j with
    | some (.blob c d) => cond (Nat.beq (Th.kd c) 0) (some (.app 8 [d])) none
    | _ => none
  | some (.slice _), .root j, .slice none _ _ => match look st.H j with
    | some (.blob c d) => cond (Nat.beq (Th.kd c) 1) (some (.app 8 [d])) none
    | _ => none
  | some (.map _ _), .root j, .map none => match look st.H j with
    | some (.blob c d) => cond (Nat.beq (Th.kd c) 2) (some (.app 8 [d])) none
    | _ => none
  | _, _, _ => none
theorem nilR_run (hok : Ok P A I st w) {t : TypeId} {x y : SV} {d : Tm} (h : nilR P st t x y = some d) (xo yo : Operand) :
    (do eqGuard .eql t xo yo (x.den I) (y.den I); binOp .eql t (x.den I) (y.den I) : Sem Value).run P w = .ok ((SV.bx d true).den I) w ∧
    (do eqGuard .neq t xo yo (x.den I) (y.den I); binOp .neq t (x.den I) (y.den I) : Sem Value).run P w = .ok ((SV.bx d false).den I) w := by
  have fin : ∀ b : Bool, Th.toB (d.den I.val.r) = b → ((do eqGuard .eql t xo yo (x.den I) (y.den I); binOp .eql t (x.den I) (y.den I) : Sem Value).run P w = .ok (.bool b) w ∧
      (do eqGuard .neq t xo yo (x.den I) (y.den I); binOp .neq t (x.den I) (y.den I) : Sem Value).run P w = .ok (.bool !b) w) → ((do eqGuard .eql t xo yo (x.den I) (y.den I); binOp .eql t (x.den I) (y.den I) : Sem Value).run P w = .ok ((SV.bx d true).den I) w ∧
    (do eqGuard .neq t xo yo (x.den I) (y.den I); binOp .neq t (x.den I) (y.den I) : Sem Value).run P w = .ok ((SV.bx d false).den I) w) := fun b hb hr => by
    simp only [SV.den, hb]
    rw [hr.1, hr.2]
    cases b <;> exact ⟨rfl, rfl⟩
  unfold nilR at h
  split at h
  case h_5 => cases h
  all_goals
    rename_i hu
    split at h
    case h_2 => cases h
    rename_i c d' hl
    rw [beq_cond] at h
    split at h
    case isFalse => cases h
    rename_i hk
    cases h
    have hr := hok.real _ _ hl
  · obtain ⟨p, hp, hn⟩ := Th.ptr_ hr hk
    refine fin _ hn.symm ?_
    simp only [SV.den, hp]
    refine nil_fin rfl rfl rfl rfl ?_
    rw [Op.equalIn]
    cases p <;> simp [run_underlying hu]
  · obtain ⟨p, hp, hn⟩ := Th.ptr_ hr hk
    refine fin _ hn.symm ?_
    simp only [SV.den, hp]
    refine nil_fin rfl rfl rfl rfl ?_
    rw [Op.equalIn]
    cases p <;> simp [run_underlying hu]
  · obtain ⟨p, n, k, hp, hn, _⟩ := Th.sl_ hr hk
    refine fin _ hn.symm ?_
    simp only [SV.den, hp]
    refine nil_fin rfl rfl rfl rfl ?_
    rw [Op.equalIn]
    cases p <;> simp [run_underlying hu]
  · obtain ⟨p, hp, hn⟩ := Th.mp_ hr hk
    refine fin _ hn.symm ?_
    simp only [SV.den, hp]
    refine nil_fin rfl rfl rfl rfl ?_
    rw [Op.equalIn]
    cases p <;> simp [run_underlying hu]
/-- how long is what one has got at? -/
def lenR (P : Program) (st : St) (t : TypeId) (x : SV) : Option SV :=
  match P.underlying t, x with
  | some (.slice _), .root j => match look st.H j with
    | some (.blob c d) => cond (Nat.beq (Th.kd c) 1) (some (.ix (.app 9 [d]))) none
    | _ => none
  | _, _ => none
theorem lenR_run (hok : Ok P A I st w) {t : TypeId} {x v : SV} (h : lenR P st t x = some v) {ts : Array TypeId} (ht : ts[0]? = some t) (ty : TypeId) (cs : Array Bool) : (builtin .len ts ty cs #[x.den I]).run P w = .ok (.value (v.den I)) w ∧ v.ok A I := by
  unfold lenR at h
  split at h
  · rename_i e j hu
    split at h
    · rename_i c d hl
      rw [beq_cond] at h
      split at h
      · rename_i hk
        cases h
        obtain ⟨p, n, k, hp, _, hn⟩ := Th.sl_ (hok.real _ _ hl) hk
        refine ⟨?_, trivial⟩
        simp only [SV.den, hp, Tm.den, tdenL, ← hn]
        simp [builtin, Builtin.len_, ht, run_underlying hu, goInt]
      · cases h
    · cases h
  · cases h
end
end Go.E2
/-
  The evaluator: append, copy, bytes as a string. No program is named here. No conditions.
-/
namespace Go.E2
open Go.RowKit Go.Al
set_option linter.unusedVariables false
set_option linter.unusedSectionVars false
variable [Th] [Facts]

/-- what is appended or copied: how many, and their cells -/
def srcS (P : Program) (st : St) (sz : Nat) (tx : TypeId) (x : SV) : Option (Nat × List SV) :=
  match P.underlying tx, x with
  | some (.slice _), .slice none 0 _ => some (0, [])
  | some (.slice _), .esl _ => some (0, [])
  | some (.slice _), .slice (some (id, off)) m _ => match look st.H id with
    | some (.cells e cs ext) => cond (Nat.ble (off + m * sz) cs.length && ((cs.drop off).take (m * sz)).all oneB) (some (m, (cs.drop off).take (m * sz))) none
    | _ => none
  | some .string, .str s => cond (Nat.beq sz 1) (some (s.length, s.map fun b => .int .u8 (b.toNat : Int))) none
  | _, _ => none
def appendS (P : Program) (st : St) (t tx : TypeId) (s x : SV) : Option (SV × St) :=
  match P.underlying t with
  | some (.slice e) => match P.info? e with
    | some i => match srcS P st i.size tx x with
      | some (0, _) => match s with
        | .slice p n c => some (.slice p n c, st)
        | .esl j => some (.esl j, st)
        | _ => none
      | some (m + 1, news) => match s with
        | .slice none 0 (.lit 0) => match i.zero with
          | some z => cond (Nat.beq z.cells.toList.length i.size && Nat.ble (m + 1) 1048576 && Nat.ble ((m + 1) * i.bytes) 140737488355328) (some (.slice (some (st.nx, 0)) (m + 1) (.sym st.nx 0), ⟨ins st.H st.nx (.cells e news (some st.nx)), st.nx + 1, st.wr⟩)) none
          | none => none
        | .slice (some (id, off)) n c => match look st.H id, i.zero with
          | some (.cells e' cs ext), some z => cond (Nat.beq z.cells.toList.length i.size && Nat.ble (n + (m + 1)) 1048576 && Nat.ble ((n + (m + 1)) * i.bytes) 140737488355328) (match c with
            | .lit c => cond (Nat.ble (n + (m + 1)) c)
              (cond (Nat.ble (off + n * i.size + news.length) cs.length) (some (.slice (some (id, off)) (n + (m + 1)) (.lit c), ⟨ins st.H id (.cells e' (setR cs (off + n * i.size) news) ext), st.nx, id :: st.wr⟩)) none)
              (cond (Nat.ble (off + n * i.size) cs.length) (some (.slice (some (st.nx, 0)) (n + (m + 1)) (.sym st.nx 0), ⟨ins st.H st.nx (.cells e ((cs.drop off).take (n * i.size) ++ news) (some st.nx)), st.nx + 1, st.wr⟩)) none)
            | .sym j k => match ext with
              | some j' => cond (Nat.beq j j' && Nat.beq off (k * i.size) && Nat.beq e' e && Nat.ble 1 i.size) (cond (Nat.ble (off + (n + (m + 1)) * i.size) cs.length)
                (some (.slice (some (id, off)) (n + (m + 1)) (.sym j k), ⟨ins st.H id (.cells e' (setR cs (off + n * i.size) news) ext), st.nx, id :: st.wr⟩))
                (cond (Nat.beq k 0 && Nat.beq (n * i.size) cs.length) (some (.slice (some (st.nx, 0)) (n + (m + 1)) (.sym st.nx 0), ⟨ins (del st.H id) st.nx (.cells e (cs ++ news) (some st.nx)), st.nx + 1, id :: st.wr⟩)) none)) none
              | none => none) none
          | _, _ => none
        | _ => none
      | none => none
    | none => none
  | _ => none
section
variable {P : Program} {A : Nat → Prop} {I : In} {st : St} {w w' : World}
theorem Mv.kill (hok : Ok P A I st w) {id : Nat} (hl : look st.H id ≠ none) : Mv P A I st w I ⟨del st.H id, st.nx, id :: st.wr⟩ w := by
  have hlive : ∀ k, look (del st.H id) k ≠ none → look st.H k ≠ none ∧ ¬ id = k := fun k h => by
    rw [look_del] at h
    by_cases e : id = k
    · rw [if_pos e] at h; exact absurd rfl h
    · rw [if_neg e] at h; exact ⟨h, e⟩
  have hsome : ∀ k o, look (del st.H id) k = some o → look st.H k = some o := fun k o h => by
    have := (hlive k (by rw [h]; simp)).2
    rwa [look_del, if_neg this] at h
  refine ⟨Nat.le_refl _, fun _ _ => ⟨rfl, rfl, rfl⟩, rfl, Chg.refl _ w, fun k hk hw => ?_, fun k hk => List.mem_cons_of_mem _ hk, fun k hk h _ _ => absurd (hok.live_lt (hlive k h).1) (by omega), fun k hk h0 => ?_, ⟨fun i hi => hi.elim (hok.lt i) fun h => h.2, fun k o ho => ?_, fun k o ho => hok.real k o (hsome k o ho), fun k k' h1 h2 he => hok.inj _ _ (hlive _ h1).1 (hlive _ h2).1 he, hok.val⟩, fun _ _ _ => rfl⟩
  · show look (del st.H id) k = _
    rw [look_del, if_neg (fun e => hw (by subst e; exact List.mem_cons_self ..))]
  · show look (del st.H id) k = _
    rw [look_del, h0]
    simp
  · have := hok.key k o (hsome k o ho)
    exact ⟨.inl this.1, SO.ok_mono (fun i hi => .inl hi) this.2⟩
theorem srcS_run (hok : Ok P A I st w) {sz m : Nat} {tx : TypeId} {x : SV} {news : List SV} (h : srcS P st sz tx x = some (m, news)) : Src P sz tx (x.den I) m (denL I news) w ∧ okL A I news ∧ news.all oneB = true := by
  unfold srcS at h
  split at h
  · rename_i e c hu
    cases h
    exact ⟨Src.ofNil w hu _, trivial, rfl⟩
  · rename_i e j hu
    cases h
    refine ⟨⟨.inl ⟨_, hu⟩, fun _ => rfl, ?_, ?_, by simp [denL], fun u hu => by cases hu⟩, trivial, rfl⟩
    · simp only [SV.den]
      cases (I.esl j).a.1 <;> simp [Builtin.firstCells, loadCells, loadCellsFrom, denL]
    · simp only [SV.den]
      cases (I.esl j).a.1 <;> simp [Builtin.firstCells, loadCells, loadCellsFrom, denL]
  · rename_i e id off n c hu
    split at h
    · rename_i e' cs ext hl
      cases hb : (Nat.ble (off + n * sz) cs.length && ((cs.drop off).take (n * sz)).all oneB)
      · rw [hb] at h; cases h
      · rw [hb] at h
        cases h
        simp only [Bool.and_eq_true] at hb
        have hle := Nat.le_of_ble_eq_true hb.1
        refine ⟨Src.ofSlice w hu _ _ _ _ ?_ (hok.range hl hle) (oneB_den hok hb.2), ((hok.key id _ hl).2.1.drop off).take _, hb.2⟩
        rw [denL_length, List.length_take, List.length_drop]
        omega
    · cases h
  · rename_i s hu
    rw [beq_cond] at h
    split at h
    · rename_i h1
      subst h1
      cases h
      have hd : denL I (s.map fun b => SV.int .u8 (b.toNat : Int)) = byteCells ⟨s.toArray⟩ := by
        rw [denL_map, List.map_map]
        rfl
      rw [hd]
      have := Src.ofString w hu (⟨s.toArray⟩ : ByteArray)
      refine ⟨(by show Src P 1 tx (.string ⟨s.toArray⟩) _ _ w; simpa [ByteArray.size] using this), okL_iff.2 fun v hv => ?_, List.all_eq_true.2 fun v hv => ?_⟩ <;>
        (obtain ⟨b, _, rfl⟩ := List.mem_map.1 hv; first | trivial | rfl)
    · cases h
  · cases h
theorem append_room {t tx e : TypeId} {i : TypeInfo} (ht : P.underlying t = some (.slice e)) (hi : P.info? e = some i) {b off sLen sCap n : Nat} {x : Value} {news : List Value} (hs : Src P i.size tx x n news w) (hroom : sLen + n ≤ sCap)
    (hst : (storeCells ⟨b, off + sLen * i.size, none⟩ news).run P w = .ok () w') (ty : TypeId) :
    (Builtin.append_ #[t, tx] ty #[.slice (some ⟨b, off, none⟩) sLen sCap, x]).run P w = .ok (.slice (some ⟨b, off, none⟩) (sLen + n) sCap) w' := by
  rcases hs.kind with ⟨e', hk⟩ | hk <;> simp [Builtin.append_, run_underlying ht, run_underlying hk, sizeOf, typeInfo, hi, hs.len, hroom, hs.cells, Addr.add_lit, hst]
theorem capOk_len {n : Nat} : ∀ {c : Cap}, capOk A I n c → n ≤ c.den I
  | .lit m, h => h
  | .sym j k, h => by have := h.2; simp only [Cap.den]; omega
theorem grow_size {z : Array Value} {sz k cap : Nat} (hz : z.size = sz) (hk : k ≤ cap) {l : List Value} (hl : l.length = k * sz) : (l ++ (Builtin.zeroCells z (cap - k)).toList).length = cap * sz := by
  have h2 : (Builtin.zeroCells z (cap - k)).toList.length = (cap - k) * z.size := by rw [Array.length_toList, size_zeroCells]
  rw [List.length_append, h2, hl, hz, ← Nat.add_mul]
  congr 1
  omega
theorem grow_run (hok : Ok P A I st w) {t tx e : TypeId} {i : TypeInfo} {z : Value} (ht : P.underlying t = some (.slice e)) (hi : P.info? e = some i) (hz : i.zero = some z) (hzs : z.cells.toList.length = i.size) {base : Option Addr} {sLen sCap m : Nat} {x : Value} {olds news : List SV}
    (hold : (Builtin.firstCells i.size sLen (.slice base sLen sCap)).run P w.drew = .ok (denL I olds).toArray w.drew) (hol : olds.length = sLen * i.size) (hs : Src P i.size tx x m (denL I news) w) (hg : sCap < sLen + m) (h1 : sLen + m ≤ 1048576) (h2 : (sLen + m) * i.bytes ≤ 140737488355328)
    (ho : okL A I olds) (hn : okL A I news) (ty : TypeId) :
    (Builtin.append_ #[t, tx] ty #[.slice base sLen sCap, x]).run P w = .ok ((SV.slice (some (st.nx, 0)) (sLen + m) (.sym st.nx 0)).den (I.put st.nx w.heap.size (grownCap w (sLen + m) sCap e))) (w.drew.alloc (.cells (denL I (olds ++ news) ++ (Builtin.zeroCells z.cells (grownCap w (sLen + m) sCap e - (sLen + m))).toList).toArray e)) ∧
    Mv P A I st w (I.put st.nx w.heap.size (grownCap w (sLen + m) sCap e)) ⟨ins st.H st.nx (.cells e (olds ++ news) (some st.nx)), st.nx + 1, st.wr⟩ (w.drew.alloc (.cells (denL I (olds ++ news) ++ (Builtin.zeroCells z.cells (grownCap w (sLen + m) sCap e - (sLen + m))).toList).toArray e)) ∧
    (SV.slice (some (st.nx, 0)) (sLen + m) (.sym st.nx 0)).ok (up A st.nx (st.nx + 1)) (I.put st.nx w.heap.size (grownCap w (sLen + m) sCap e)) := by
  have hcap := grownCap_ge w (sLen + m) sCap e
  have hagr := In.put_agr hok w.heap.size (grownCap w (sLen + m) sCap e)
  have hon := ho.append hn
  have hlen : (denL I (olds ++ news)).length = (sLen + m) * i.size := by
    have := hs.newsLen
    rw [denL_length] at this ⊢
    rw [List.length_append, hol, this, Nat.add_mul]
  refine ⟨?_, Mv.alloc hok _ ((Chg.refl _ w).drew) rfl ⟨okL_mono (fun i hi => .inl hi) _ (okL_agr hagr _ hon), fun j hj => by cases hj; exact up_succ _⟩ ?_, fun q hq => by cases hq; exact up_succ _, up_succ _, ?_⟩
  · rw [run_append_grow_src w t tx ty e i z ht hi hz base sLen sCap (denL I olds) hold x m (denL I news) hs hg (by omega) (growslice_fits hg h2)]
    simp only [SV.den, Cap.den, Option.map_some, padr, In.put, if_true, Nat.sub_zero]
    congr 3
    apply Array.ext'
    simp [denL_append]
  · refine ⟨(Builtin.zeroCells z.cells (grownCap w (sLen + m) sCap e - (sLen + m))).toList, by rw [denL_agr hagr _ hon], i, hi, ?_⟩
    rw [denL_agr hagr _ hon]
    simp only [In.put, if_true]
    exact grow_size (by rw [← Array.length_toList]; exact hzs) hcap hlen
  · simp only [In.put, if_true]
    omega
theorem appendS_run (hok : Ok P A I st w) {t tx : TypeId} {s x v : SV} {st' : St} (h : appendS P st t tx s x = some (v, st')) (hs : s.ok A I) (ty : TypeId) :
    ∃ I' w', (Builtin.append_ #[t, tx] ty #[s.den I, x.den I]).run P w = .ok (v.den I') w' ∧ Mv P A I st w I' st' w' ∧ v.ok (up A st.nx st'.nx) I' := by
  unfold appendS at h
  split at h
  case h_2 => cases h
  rename_i e ht
  split at h
  case h_2 => cases h
  rename_i i hi
  split at h
  case h_3 => cases h
  · rename_i news hsrc
    obtain ⟨src, hn, h1⟩ := srcS_run hok hsrc
    have hnil : denL I news = [] := List.eq_nil_of_length_eq_zero (by rw [src.newsLen, Nat.zero_mul])
    rw [hnil] at src
    split at h
    · rename_i p n c
      cases h
      exact ⟨I, w, run_append_nothing w t tx ty e i ht hi _ _ _ (capOk_len hs.2) _ src, Mv.refl hok, ok_mono (fun i hi => .inl hi) (.slice p n c) hs⟩
    · rename_i j
      cases h
      exact ⟨I, w, run_append_nothing w t tx ty e i ht hi _ _ _ (Nat.zero_le _) _ src, Mv.refl hok, ok_mono (fun i hi => .inl hi) (.esl j) hs⟩
    · cases h
  · rename_i m news hsrc
    obtain ⟨src, hn, h1⟩ := srcS_run hok hsrc
    have hlen := src.newsLen
    rw [denL_length] at hlen
    split at h
    case h_3 => cases h
    · split at h
      case h_2 => cases h
      rename_i z hz
      cases hb : (Nat.beq z.cells.toList.length i.size && Nat.ble (m + 1) 1048576 && Nat.ble ((m + 1) * i.bytes) 140737488355328)
      · rw [hb] at h; cases h
      rw [hb] at h
      cases h
      simp only [Bool.and_eq_true, Nat.beq_eq] at hb
      obtain ⟨⟨b1, b2⟩, b3⟩ := hb
      have b2 := Nat.le_of_ble_eq_true b2
      have b3 := Nat.le_of_ble_eq_true b3
      have := grow_run hok ht hi hz b1 (base := none) (sLen := 0) (sCap := 0) (olds := []) (news := news) (run_firstCells_none w.drew i.size 0 0 0) (by simp) src (by omega) (by omega) (by simpa using b3) trivial hn ty
      simp only [Nat.zero_add, List.nil_append] at this
      exact ⟨_, _, this⟩
    · rename_i id off n c
      split at h
      case h_2 => cases h
      rename_i e' cs ext z hl hz
      cases hb : (Nat.beq z.cells.toList.length i.size && Nat.ble (n + (m + 1)) 1048576 && Nat.ble ((n + (m + 1)) * i.bytes) 140737488355328)
      · rw [hb] at h; cases h
      rw [hb] at h
      simp only [cond_true] at h
      simp only [Bool.and_eq_true, Nat.beq_eq] at hb
      obtain ⟨⟨b1, b2⟩, b3⟩ := hb
      have b2 := Nat.le_of_ble_eq_true b2
      have b3 := Nat.le_of_ble_eq_true b3
      have hA := hs.1 (id, off) rfl
      have room : ∀ c : Cap, c.den I ≥ n + (m + 1) → off + n * i.size + news.length ≤ cs.length → ∃ w', (Builtin.append_ #[t, tx] ty #[.slice (some ⟨I.adr id, off, none⟩) n (c.den I), x.den I]).run P w = .ok (.slice (some ⟨I.adr id, off, none⟩) (n + (m + 1)) (c.den I)) w' ∧ Mv P A I st w I ⟨ins st.H id (.cells e' (setR cs (off + n * i.size) news) ext), st.nx, id :: st.wr⟩ w' := fun c hc hle => by
        obtain ⟨w', hr, hm⟩ := hok.putC hl hle h1 hn
        exact ⟨w', append_room ht hi src hc hr ty, hm⟩
      have old : off + n * i.size ≤ cs.length → (Builtin.firstCells i.size n (.slice (some ⟨I.adr id, off, none⟩) n (c.den I))).run P w.drew = .ok (denL I ((cs.drop off).take (n * i.size))).toArray w.drew := fun hle => by
        have := (hok.same ((Chg.refl _ w).drew)).loadC (n := n * i.size) hl hle
        simpa [Builtin.firstCells] using this
      split at h
      · rename_i c0
        have hc0 : n ≤ c0 := hs.2
        cases hroom : Nat.ble (n + (m + 1)) c0
        · rw [hroom] at h
          simp only [cond_false] at h
          cases hle : Nat.ble (off + n * i.size) cs.length
          · rw [hle] at h; cases h
          rw [hle] at h
          cases h
          have hle := Nat.le_of_ble_eq_true hle
          have hgt : c0 < n + (m + 1) := by
            rw [← Bool.not_eq_true, Nat.ble_eq] at hroom
            omega
          exact ⟨_, _, grow_run hok ht hi hz b1 (old hle) (by rw [List.length_take, List.length_drop]; omega) src hgt b2 b3 (((hok.key id _ hl).2.1.drop off).take _) hn ty⟩
        · rw [hroom] at h
          simp only [cond_true] at h
          have hroom := Nat.le_of_ble_eq_true hroom
          cases hle : Nat.ble (off + n * i.size + news.length) cs.length
          · rw [hle] at h; cases h
          rw [hle] at h
          cases h
          obtain ⟨w', hr, hm⟩ := room (.lit c0) hroom (Nat.le_of_ble_eq_true hle)
          exact ⟨I, w', hr, hm, fun q hq => (by cases hq; exact .inl hA), hroom⟩
      · rename_i j k
        obtain ⟨hj, hjc⟩ := hs.2
        split at h
        case h_2 => cases h
        rename_i j'
        cases hb : (Nat.beq j j' && Nat.beq off (k * i.size) && Nat.beq e' e && Nat.ble 1 i.size)
        · rw [hb] at h; cases h
        rw [hb] at h
        simp only [cond_true] at h
        simp only [Bool.and_eq_true, Nat.beq_eq] at hb
        obtain ⟨⟨⟨rfl, hoff⟩, rfl⟩, hsz⟩ := hb
        have hsz : 0 < i.size := Nat.le_of_ble_eq_true hsz
        obtain ⟨tail, hh, _, he2⟩ := hok.cells hl
        obtain ⟨i2, hi2, hlen2⟩ := he2 j rfl
        rw [hi] at hi2
        cases hi2
        rw [List.length_append, denL_length] at hlen2
        cases hle : Nat.ble (off + (n + (m + 1)) * i.size) cs.length
        · rw [hle] at h
          simp only [cond_false] at h
          cases hb : (Nat.beq k 0 && Nat.beq (n * i.size) cs.length)
          · rw [hb] at h; cases h
          rw [hb] at h
          cases h
          simp only [Bool.and_eq_true, Nat.beq_eq] at hb
          obtain ⟨rfl, hfull⟩ := hb
          rw [Nat.zero_mul] at hoff
          subst hoff
          by_cases hroom : n + (m + 1) ≤ I.cap j
          · -- in place
            have htot : 0 + n * i.size + 0 + (denL I news).length ≤ (denL I cs ++ tail).length := by
              rw [List.length_append, denL_length, denL_length, hlen2, hlen, Nat.zero_add, Nat.add_zero, ← Nat.add_mul]
              exact Nat.mul_le_mul_right _ hroom
            have hr := run_storeCells_at (P := P) (I.adr id) (0 + n * i.size) e' (denL I news) 0 _ w hh (by simpa using htot) (oneB_den hok h1)
            have hagr := In.put_agr hok (I.adr id) (I.cap j)
            have hon := (hok.key id _ hl).2.1.append hn
            have hrow : (List.take (0 + n * i.size + 0) (denL I cs ++ tail).toArray.toList ++ denL I news ++ List.drop (0 + n * i.size + 0 + (denL I news).length) (denL I cs ++ tail).toArray.toList) = denL I (cs ++ news) ++ tail.drop (denL I news).length := by
              simp only [Nat.add_zero, Nat.zero_add, hfull, denL_append]
              rw [List.take_append_of_le_length (by simp), List.take_of_length_le (by simp), List.drop_append]
              simp
            rw [hrow] at hr
            refine ⟨I.put st.nx (I.adr id) (I.cap j), _, ?_, Mv.merge hok (I.cap j) hl trivial (Go.Proofs.YthjnecicagmdeaaGreat.Chg.setRow (S := fun b => b = I.adr id) (Chg.refl _ w) (.inl rfl) _) (setRow_heap w _ _ _ e' (0, 0) hh) ⟨okL_mono (fun i hi => .inl hi) _ (okL_agr hagr _ hon), fun q hq => by cases hq; exact up_succ _⟩ ⟨tail.drop (denL I news).length, by rw [denL_agr hagr _ hon], i, hi, ?_⟩, fun q hq => by cases hq; exact up_succ _, up_succ _, ?_⟩
            · have := append_room ht hi src (b := I.adr id) (off := 0) (sLen := n) (sCap := I.cap j) hroom hr ty
              simpa [SV.den, Cap.den, padr, In.put] using this
            · rw [denL_agr hagr _ hon]
              simp only [In.put, if_true, denL_append, List.length_append, denL_length, List.length_drop]
              simp only [List.length_append, denL_length] at htot
              omega
            · simp only [In.put, if_true]
              omega
          · -- anew
            have hk := Mv.kill hok (id := id) (by rw [hl]; simp)
            have src' : Src P i.size tx (x.den I) (m + 1) (denL I news) w := src
            have hfu : ∀ i, A i → up A st.nx st.nx i := fun i hi => .inl hi
            have old' := old (by omega)
            simp only [List.drop_zero] at old'
            rw [List.take_of_length_le (by omega)] at old'
            have g := grow_run (st := ⟨del st.H id, st.nx, id :: st.wr⟩) hk.ok ht hi hz b1 (olds := cs) (news := news) old' (by omega) src (by simp only [Cap.den, Nat.sub_zero]; omega) b2 b3 (okL_mono hfu _ (hok.key id _ hl).2.1) (okL_mono hfu _ hn) ty
            exact ⟨_, _, g.1, Mv.trans hok hk g.2.1, ok_mono (fun i hi => hi.elim (fun h => h.elim .inl fun h => absurd h.2 (Nat.not_lt.2 h.1)) .inr) _ g.2.2⟩
        · rw [hle] at h
          cases h
          have hle := Nat.le_of_ble_eq_true hle
          have hcap : n + (m + 1) ≤ I.cap j - k := by
            have : (k + (n + (m + 1))) * i.size ≤ I.cap j * i.size := by rw [Nat.add_mul]; omega
            have := Nat.le_of_mul_le_mul_right this hsz
            omega
          obtain ⟨w', hr, hm⟩ := room (.sym j k) hcap (by have e1 : (n + (m + 1)) * i.size = n * i.size + (m + 1) * i.size := Nat.add_mul ..; have e2 : news.length = (m + 1) * i.size := hlen; omega)
          exact ⟨I, w', hr, hm, fun q hq => (by cases hq; exact .inl hA), .inl hj, by omega⟩
end
end Go.E2
/-
  The evaluator: maps whose keys are known. No program is named here. No conditions.
-/
namespace Go.E2
open Go.RowKit Go.Al
set_option linter.unusedVariables false
set_option linter.unusedSectionVars false
variable [Th] [Facts]

theorem runP_bind {P : Program} {α β : Type} : ∀ {s : Sem α} {f : α → Sem β} {b : β}, runP P (s >>= f) = some b → ∃ a, runP P s = some a ∧ runP P (f a) = some b
  | .pure a, f, b, h => ⟨a, rfl, h⟩
  | .program k, f, b, h => by
    have h : runP P ((k P) >>= f) = some b := h
    obtain ⟨a, h1, h2⟩ := runP_bind h
    exact ⟨a, h1, h2⟩
  | .load .., f, b, h => by cases h
  | .store .., f, b, h => by cases h
  | .new .., f, b, h => by cases h
  | .shape .., f, b, h => by cases h
  | .freeze .., f, b, h => by cases h
  | .frozen .., f, b, h => by cases h
  | .getObj .., f, b, h => by cases h
  | .setObj .., f, b, h => by cases h
  | .choose .., f, b, h => by cases h
  | .sys .., f, b, h => by cases h
  | .mark .., f, b, h => by cases h
  | .halt .., f, b, h => by cases h
/-- an entry of which only the key counts -/
def dm (k : Value) : MapEntry := ⟨k, .nilFunc, 0⟩
theorem findNow_dm (kind : TypeDesc) (k : Value) : ∀ (es : List MapEntry) (i : Nat), Instr.findNow kind k (es.map fun e => dm e.key) i = (Instr.findNow kind k es i).map fun o => o.map fun x => (x.1, .nilFunc)
  | [], i => rfl
  | e :: es, i => by
    simp only [List.map_cons, Instr.findNow, dm]
    split
    · rfl
    · exact findNow_dm kind k es (i + 1)
    · rfl
theorem findNow_at (kind : TypeDesc) (k : Value) : ∀ (es : List MapEntry) (i j : Nat) (v : Value), Instr.findNow kind k es i = some (some (j, v)) → i ≤ j ∧ (es[j - i]?).map (·.val) = some v
  | [], i, j, v, h => by cases h
  | e :: es, i, j, v, h => by
    simp only [Instr.findNow] at h
    split at h
    · cases h; exact ⟨Nat.le_refl _, by simp⟩
    · have := findNow_at kind k es (i + 1) j v h
      refine ⟨by omega, ?_⟩
      rw [show j - i = (j - (i + 1)) + 1 by omega]
      simpa using this.2
    · cases h
theorem findAsking_dm {P : Program} (kt : TypeId) (k : Value) : ∀ (es : List MapEntry) (i : Nat) (o : Option (Nat × Value)), runP P (Instr.findAsking kt k (es.map fun e => dm e.key) i) = some o →
    ∃ r, (∀ w, (Instr.findAsking kt k es i).run P w = .ok r w) ∧ r.map (·.1) = o.map (·.1) ∧ ∀ j v, r = some (j, v) → i ≤ j ∧ (es[j - i]?).map (·.val) = some v
  | [], i, o, h => by
    cases h
    exact ⟨none, fun w => rfl, rfl, fun j v e => by cases e⟩
  | e :: es, i, o, h => by
    simp only [List.map_cons, Instr.findAsking] at h
    obtain ⟨b, hb, h⟩ := runP_bind h
    simp only [dm] at hb
    cases b
    · simp only [Bool.false_eq_true, if_false] at h
      obtain ⟨r, h1, h2, h3⟩ := findAsking_dm kt k es (i + 1) o h
      refine ⟨r, fun w => ?_, h2, fun j v e => ?_⟩
      · simp [Instr.findAsking, runP_run hb w, h1 w]
      · have := h3 j v e
        refine ⟨by omega, ?_⟩
        rw [show j - i = (j - (i + 1)) + 1 by omega]
        simpa using this.2
    · simp only [if_true] at h
      cases h
      refine ⟨some (i, e.val), fun w => ?_, rfl, fun j v e => ?_⟩
      · simp [Instr.findAsking, runP_run hb w]
      · cases e; exact ⟨Nat.le_refl _, by simp⟩
/-- where a key stands among others -/
def findS (P : Program) (kt : TypeId) (k : Value) (ks : List Value) : Option (Option Nat) :=
  match runP P (Instr.findKey kt k (ks.map dm)) with
  | some o => some (o.map (·.1))
  | none => none
theorem findS_run {P : Program} {kt : TypeId} {k : Value} {es : List MapEntry} {o : Option Nat} (h : findS P kt k (es.map (·.key)) = some o) : ∃ r, (∀ w, (Instr.findKey kt k es).run P w = .ok r w) ∧ r.map (·.1) = o ∧ ∀ j v, r = some (j, v) → (es[j]?).map (·.val) = some v := by
  unfold findS at h
  split at h
  · rename_i o' ho
    cases h
    rw [List.map_map] at ho
    unfold Instr.findKey at ho
    obtain ⟨d, hd, ho⟩ := runP_bind ho
    have e1 := findNow_dm d k es 0
    rw [show (dm ∘ fun e : MapEntry => e.key) = fun e => dm e.key from rfl, e1] at ho
    cases hn : Instr.findNow d k es 0 with
    | some r =>
      rw [hn] at ho
      simp only [Option.map_some] at ho
      cases ho
      refine ⟨r, fun w => ?_, by cases r <;> rfl, fun j v e => ?_⟩
      · simp [Instr.findKey, runP_run hd w, hn]
      · subst e
        have := (findNow_at d k es 0 j v hn).2
        simpa using this
    | none =>
      rw [hn] at ho
      simp only [Option.map_none] at ho
      obtain ⟨r, h1, h2, h3⟩ := findAsking_dm kt k es 0 o' ho
      refine ⟨r, fun w => ?_, h2, fun j v e => by simpa using (h3 j v e).2⟩
      simp [Instr.findKey, runP_run hd w, hn, h1 w]
  · cases h
/-- a map's keys -/
def keysS : List (SV × SV × Nat) → Option (List Value) := mapO fun x => toV x.1
theorem keysS_den (I : In) : ∀ {es : List (SV × SV × Nat)} {ks : List Value}, keysS es = some ks → (es.map (entry I)).map (·.key) = ks
  | [], ks, h => by cases h; rfl
  | x :: es, ks, h => by
    obtain ⟨y, m, hy, hm, rfl⟩ := mapO_cons h
    simp only [List.map_cons, keysS_den I hm]
    simp [entry, toV_den I _ _ hy]
def ckKey (P : Program) (empty : Bool) (kt : TypeId) (k : Value) : Bool := match runP P (Instr.checkKey empty 10000 kt k) with
  | some _ => true
  | none => false
theorem ckKey_run {P : Program} {empty : Bool} {kt : TypeId} {k : Value} (h : ckKey P empty kt k = true) (w : World) : (Instr.checkKey empty 10000 kt k).run P w = .ok () w := by
  unfold ckKey at h
  split at h
  · rename_i u hu; exact runP_run hu w
  · cases h
/-- a map and its entries -/
def entS (st : St) : SV → Option (List (SV × SV × Nat))
  | .map none => some []
  | .map (some r) => match look st.H r with
    | some (.map es _) => some es
    | _ => none
  | _ => none
def lookupS (P : Program) (st : St) (t : TypeId) (m k : SV) (ok : Bool) : Option SV :=
  match P.underlying t, entS st m, toV k with
  | some (.map kt e), some es, some kv => match keysS es with
    | some ks => match ckKey P es.isEmpty kt kv, findS P kt kv ks with
      | true, some (some i) => match es[i]? with
        | some x => some (cond ok (.tup [x.2.1, .bool true]) x.2.1)
        | none => none
      | true, some none => match P.info? e with
        | some i => match i.zero with
          | some z => match ofV 6 z with
            | some v => some (cond ok (.tup [v, .bool false]) v)
            | none => none
          | none => none
        | none => none
      | _, _ => none
    | none => none
  | _, _, _ => none
def updateS (P : Program) (st : St) (t : TypeId) (m k v : SV) : Option St :=
  match P.underlying t, m, toV k with
  | some (.map kt e), .map (some r), some kv => match look st.H r with
    | some (.map es clock) => match keysS es with
      | some ks => match ckKey P false kt kv, findS P kt kv ks with
        | true, some (some i) => match ks[i]?, es[i]? with
          | some ok, some x => cond (Instr.sameBits 10000 ok kv) (some ⟨ins st.H r (.map (es.set i (k, v, x.2.2)) clock), st.nx, r :: st.wr⟩) none
          | _, _ => none
        | true, some none => some ⟨ins st.H r (.map (es ++ [(k, v, clock)]) (clock + 1)), st.nx, r :: st.wr⟩
        | _, _ => none
      | none => none
    | _ => none
  | _, _, _ => none
section
variable {P : Program} {A : Nat → Prop} {I : In} {st : St} {w w' : World}
theorem Chg.setObj {w : World} {g : Nat} {ob ob' : Obj} (h : w.heap[g]? = some ob) (h1 : ∀ c t f, ob ≠ .cells c t f) (h2 : ∀ c t f, ob' ≠ .cells c t f) : Chg (fun b => b = g) w { w with heap := w.heap.setIfInBounds g ob' } := by
  have hg := (Array.getElem?_eq_some_iff.1 h).1
  refine ⟨rfl, rfl, rfl, by simp, fun k hk => ?_, fun k hk hn => ?_⟩
  · by_cases e : k = g
    · subst e
      simp only [ty, World.shape?, Array.getElem?_setIfInBounds_self_of_lt hg, h]
      cases ob <;> cases ob' <;> first | rfl | exact absurd rfl (h1 _ _ _) | exact absurd rfl (h2 _ _ _)
    · simp only [ty, World.shape?, Array.getElem?_setIfInBounds_ne (Ne.symm e)]
  · exact Array.getElem?_setIfInBounds_ne (Ne.symm hn)
theorem Ok.map_ (hok : Ok P A I st w) {r : Nat} {es : List (SV × SV × Nat)} {clock : Nat} (h : look st.H r = some (.map es clock)) : w.heap[I.adr r]? = some (.map (es.map (entry I)).toArray clock) ∧ ∀ x ∈ es, x.1.ok A I ∧ x.2.1.ok A I := by
  obtain ⟨_, ob, h1, h2⟩ := hok.real r _ h
  simp only [Real] at h2
  subst h2
  exact ⟨h1, (hok.key r _ h).2⟩
theorem Mv.map_ (hok : Ok P A I st w) {r : Nat} {es es' : List (SV × SV × Nat)} {clock clock' : Nat} (h : look st.H r = some (.map es clock)) (hes : ∀ x ∈ es', x.1.ok A I ∧ x.2.1.ok A I) :
    Mv P A I st w I ⟨ins st.H r (.map es' clock'), st.nx, r :: st.wr⟩ { w with heap := w.heap.setIfInBounds (I.adr r) (.map (es'.map (entry I)).toArray clock') } := by
  have hm := (hok.map_ h).1
  refine Mv.upd hok h trivial (Chg.setObj hm (fun _ _ _ => by simp) (fun _ _ _ => by simp)) ?_ hes rfl
  exact Array.getElem?_setIfInBounds_self_of_lt (Array.getElem?_eq_some_iff.1 hm).1
theorem Ok.getMap (hok : Ok P A I st w) {r : Nat} {es : List (SV × SV × Nat)} {clock : Nat} (h : look st.H r = some (.map es clock)) : (getObj (I.adr r)).run P w = .ok (.map (es.map (entry I)).toArray clock) w := by
  simp [getObj, Sem.run, (hok.map_ h).1]
theorem Ok.setMap (hok : Ok P A I st w) {r : Nat} {es : List (SV × SV × Nat)} {clock : Nat} (h : look st.H r = some (.map es clock)) (ob : Obj) : (setObj (I.adr r) ob).run P w = .ok () { w with heap := w.heap.setIfInBounds (I.adr r) ob } := by
  simp [setObj, Sem.run, (hok.map_ h).1]
theorem entS_cases {m : SV} {es : List (SV × SV × Nat)} (h : entS st m = some es) : (m = .map none ∧ es = []) ∨ ∃ r clock, m = .map (some r) ∧ look st.H r = some (.map es clock) := by
  unfold entS at h
  split at h
  · cases h; exact .inl ⟨rfl, rfl⟩
  · rename_i r
    split at h
    · rename_i es' clock hl
      cases h
      exact .inr ⟨r, clock, rfl, hl⟩
    · cases h
  · cases h
theorem lookupS_run (hok : Ok P A I st w) {t : TypeId} {m k v : SV} {ok : Bool} (h : lookupS P st t m k ok = some v) : (Instr.lookup t (m.den I) (k.den I) ok).run P w = .ok (v.den I) w ∧ v.ok A I := by
  unfold lookupS at h
  split at h
  · rename_i kt e es kv hu hes hk
    have hk := toV_den I _ _ hk
    have hcs := entS_cases hes
    have hoks : ∀ x ∈ es, x.1.ok A I ∧ x.2.1.ok A I := by
      rcases hcs with ⟨_, rfl⟩ | ⟨r, clock, _, hl⟩
      · intro x hx; cases hx
      · exact (hok.map_ hl).2
    split at h
    · rename_i ks hks
      have hkd := keysS_den I hks
      have hemp : (es.map (entry I)).toArray.isEmpty = es.isEmpty := by cases es <;> rfl
      split at h
      · rename_i i hck hfi
        rw [← hkd] at hfi
        obtain ⟨r, f1, f2, f3⟩ := findS_run hfi
        split at h
        · rename_i x hx
          cases h
          cases r with
          | none => cases f2
          | some jv =>
            obtain ⟨j, v⟩ := jv
            cases f2
            have hv := f3 j v rfl
            simp only [List.getElem?_map, hx, Option.map_some, Option.some.injEq, entry] at hv
            subst hv
            have hxo := hoks x (List.mem_of_getElem? hx)
            constructor
            · rcases hcs with ⟨rfl, rfl⟩ | ⟨r', clock, rfl, hl⟩
              · cases hx
              · have hemp' : ((es.map (entry I)).toArray.isEmpty) = es.isEmpty := hemp
                cases ok <;> simp [Instr.lookup, run_underlying hu, SV.den, denL, hok.getMap hl, hk, ckKey_run hck, f1]
            · cases ok
              · exact hxo.2
              · exact ⟨hxo.2, trivial, trivial⟩
        · cases h
      · rename_i hck hfi
        rw [← hkd] at hfi
        obtain ⟨r, f1, f2, f3⟩ := findS_run hfi
        split at h
        · rename_i i hi
          split at h
          · rename_i z hz
            split at h
            · rename_i u hu'
              cases h
              cases r with
              | some jv => cases f2
              | none =>
                have hd := ofV_den (A := A) (I := I) 6 _ _ hu'
                have hzv : (zeroValue e).run P w = .ok (u.den I) w := by simp [zeroValue, typeInfo, hi, hz, hd.1]
                constructor
                · rcases hcs with ⟨rfl, rfl⟩ | ⟨r', clock, rfl, hl⟩
                  · cases ok <;> simp [Instr.lookup, run_underlying hu, SV.den, denL, hk, hzv, show (Instr.checkKey true 10000 kt kv).run P w = .ok () w from ckKey_run hck w, show (Instr.findKey kt kv []).run P w = .ok none w from f1 w]
                  · cases ok <;> simp [Instr.lookup, run_underlying hu, SV.den, denL, hok.getMap hl, hk, ckKey_run hck, f1, hzv]
                · cases ok
                  · exact hd.2
                  · exact ⟨hd.2, trivial, trivial⟩
            · cases h
          · cases h
        · cases h
      · cases h
    · cases h
  · cases h
theorem set_entries (I : In) (es : List (SV × SV × Nat)) (i : Nat) (x : SV × SV × Nat) (y : SV × SV × Nat) (hx : es[i]? = some x) (f : MapEntry → MapEntry) (hf : f (entry I x) = entry I y) : ((es.map (entry I)).toArray.modify i f) = ((es.set i y).map (entry I)).toArray := by
  apply Array.ext'
  have hlt := (List.getElem?_eq_some_iff.1 hx).1
  rw [Array.toList_modify]
  simp only [List.map_set]
  apply List.ext_getElem?
  intro k
  by_cases h : i = k
  · subst h
    have hx' : es[i] = x := by rw [List.getElem?_eq_getElem hlt] at hx; exact Option.some.inj hx
    simp [hlt, hx', hf]
  · simp [h]
theorem updateS_run (hok : Ok P A I st w) {t : TypeId} {m k v : SV} {st' : St} (h : updateS P st t m k v = some st') (hko : k.ok A I) (hvo : v.ok A I) : ∃ w', (Instr.mapUpdate t (m.den I) (k.den I) (v.den I)).run P w = .ok () w' ∧ Mv P A I st w I st' w' := by
  unfold updateS at h
  split at h
  · rename_i kt e r kv hu hk
    have hkd := toV_den I _ _ hk
    split at h
    · rename_i es clock hl
      have hoks := (hok.map_ hl).2
      split at h
      · rename_i ks hks
        have hkd' := keysS_den I hks
        split at h
        · rename_i i hck hfi
          have hfi' := hfi
          rw [← hkd'] at hfi
          obtain ⟨r', f1, f2, f3⟩ := findS_run hfi
          split at h
          · rename_i ok x hok' hx
            cases hb : Instr.sameBits 10000 ok kv
            · rw [hb] at h; cases h
            rw [hb] at h
            cases h
            have hokey : ok = x.1.den I := by
              rw [← hkd', List.getElem?_map, List.getElem?_map, hx] at hok'
              simp [entry] at hok'
              exact hok'.symm
            have hset := set_entries I es i x (k, v, x.2.2) hx (fun e => { e with key := kv, val := v.den I }) (by simp [entry, hkd])
            refine ⟨_, ?_, Mv.map_ hok hl (es' := es.set i (k, v, x.2.2)) (clock' := clock) fun y hy => ?_⟩
            · cases r' with
              | none => cases f2
              | some jv =>
                obtain ⟨j, v'⟩ := jv
                obtain rfl : i = j := (Option.some.inj f2).symm
                have hst : Instr.keyThatStays ok kv = pure kv := by unfold Instr.keyThatStays; rw [hb]; rfl
                have hge : ((es.map (entry I)).toArray[i]?).map (·.key) = some ok := by
                  rw [List.getElem?_toArray, List.getElem?_map, hx]
                  simp [entry, hokey]
                simp only [SV.den, Option.map_some, Instr.mapUpdate, Sem.run_bind, run_underlying hu, Result.andThen_ok, hok.getMap hl, hkd, ckKey_run hck, f1, hge, Option.getD_some, hst, Sem.run_pure, hok.setMap hl, hset]
            · rcases List.mem_or_eq_of_mem_set hy with h1 | rfl
              · exact hoks y h1
              · exact ⟨hko, hvo⟩
          · cases h
        · rename_i hck hfi
          rw [← hkd'] at hfi
          obtain ⟨r', f1, f2, f3⟩ := findS_run hfi
          cases h
          refine ⟨_, ?_, Mv.map_ hok hl (es' := es ++ [(k, v, clock)]) (clock' := clock + 1) fun y hy => ?_⟩
          · cases r' with
            | some jv => cases f2
            | none =>
              simp only [SV.den, Option.map_some, Instr.mapUpdate, Sem.run_bind, run_underlying hu, Result.andThen_ok, hok.getMap hl, hkd, ckKey_run hck, f1, hok.setMap hl]
              simp [entry, hkd]
          · rcases List.mem_append.1 hy with h1 | h1
            · exact hoks y h1
            · rcases List.mem_cons.1 h1 with rfl | h1
              · exact ⟨hko, hvo⟩
              · cases h1
        · cases h
      · cases h
    · cases h
  · cases h
def lenMapS (P : Program) (st : St) (t : TypeId) (m : SV) : Option SV :=
  match P.underlying t, m with
  | some (.map _ _), .map (some r) => match look st.H r with
    | some (.map es _) => some (intOf es.length)
    | _ => none
  | _, _ => none
theorem lenMapS_run (hok : Ok P A I st w) {t ty : TypeId} {ts : Array TypeId} (ht : ts[0]? = some t) {m v : SV} (h : lenMapS P st t m = some v) : (Builtin.len_ ts ty #[m.den I]).run P w = .ok (v.den I) w ∧ v.ok A I := by
  unfold lenMapS at h
  split at h
  · rename_i kt e r hu
    split at h
    · rename_i es clock hl
      cases h
      exact ⟨by simp [Builtin.len_, ht, run_underlying hu, SV.den, hok.getMap hl, intOf, goInt], trivial⟩
    · cases h
  · cases h
def deleteS (P : Program) (st : St) (t : TypeId) (m k : SV) : Option St :=
  match P.underlying t, m, toV k with
  | some (.map kt e), .map (some r), some kv => match look st.H r with
    | some (.map es clock) => match keysS es with
      | some ks => match ckKey P es.isEmpty kt kv, findS P kt kv ks with
        | true, some (some i) => some ⟨ins st.H r (.map (es.eraseIdx i) clock), st.nx, r :: st.wr⟩
        | true, some none => some ⟨ins st.H r (.map es clock), st.nx, r :: st.wr⟩
        | _, _ => none
      | none => none
    | _ => none
  | _, _, _ => none
theorem deleteS_run (hok : Ok P A I st w) {t ty : TypeId} {ts : Array TypeId} (ht : ts[0]? = some t) {m k : SV} {st' : St} (h : deleteS P st t m k = some st') : ∃ w', (Builtin.delete_ ts ty #[m.den I, k.den I]).run P w = .ok (.tuple #[]) w' ∧ Mv P A I st w I st' w' := by
  unfold deleteS at h
  split at h
  · rename_i kt e r kv hu hk
    have hkd := toV_den I _ _ hk
    split at h
    · rename_i es clock hl
      have hoks := (hok.map_ hl).2
      have hemp : (es.map (entry I)).toArray.isEmpty = es.isEmpty := by cases es <;> rfl
      split at h
      · rename_i ks hks
        have hkd' := keysS_den I hks
        split at h
        · rename_i i hck hfi
          rw [← hkd'] at hfi
          obtain ⟨r', f1, f2, f3⟩ := findS_run hfi
          cases h
          refine ⟨_, ?_, Mv.map_ hok hl (es' := es.eraseIdx i) (clock' := clock) fun y hy => hoks y (List.mem_of_mem_eraseIdx hy)⟩
          cases r' with
          | none => cases f2
          | some jv =>
            obtain ⟨j, v'⟩ := jv
            obtain rfl : i = j := (Option.some.inj f2).symm
            have hlt : i < es.length := by
              have := f3 i v' rfl
              simp only [List.getElem?_map, Option.map_eq_some_iff] at this
              obtain ⟨_, ⟨_, h1, _⟩, _⟩ := this
              exact (List.getElem?_eq_some_iff.1 h1).1
            simp [SV.den, Builtin.delete_, ht, run_underlying hu, hok.getMap hl, hkd, ckKey_run hck, f1, hok.setMap hl, List.eraseIdx_eq_take_drop_succ]
        · rename_i hck hfi
          rw [← hkd'] at hfi
          obtain ⟨r', f1, f2, f3⟩ := findS_run hfi
          cases h
          refine ⟨_, ?_, Mv.map_ hok hl (es' := es) (clock' := clock) hoks⟩
          cases r' with
          | some jv => cases f2
          | none => simp [SV.den, Builtin.delete_, ht, run_underlying hu, hok.getMap hl, hkd, ckKey_run hck, f1, hok.setMap hl]
        · cases h
      · cases h
    · cases h
  · cases h
def clearMapS (P : Program) (st : St) (t : TypeId) (m : SV) : Option St :=
  match P.underlying t, m with
  | some (.map _ _), .map (some r) => match look st.H r with
    | some (.map es clock) => some ⟨ins st.H r (.map [] clock), st.nx, r :: st.wr⟩
    | _ => none
  | _, _ => none
theorem clearMapS_run (hok : Ok P A I st w) {t ty : TypeId} {ts : Array TypeId} (ht : ts[0]? = some t) {m : SV} {st' : St} (h : clearMapS P st t m = some st') : ∃ w', (Builtin.clear_ ts ty #[m.den I]).run P w = .ok (.tuple #[]) w' ∧ Mv P A I st w I st' w' := by
  unfold clearMapS at h
  split at h
  · rename_i kt e r hu
    split at h
    · rename_i es clock hl
      cases h
      refine ⟨_, ?_, Mv.map_ hok hl (es' := []) (clock' := clock) fun y hy => by cases hy⟩
      simp [SV.den, Builtin.clear_, ht, run_underlying hu, hok.getMap hl, hok.setMap hl]
    · cases h
  · cases h
/-- a slice's cells are made zero -/
def clearSlS (P : Program) (st : St) (t : TypeId) (x : SV) : Option St :=
  match P.underlying t, x with
  | some (.slice _), .slice none _ _ => some st
  | some (.slice _), .esl _ => some st
  | some (.slice e), .slice (some (id, off)) n _ => match n with
    | 0 => some st
    | n + 1 => match look st.H id, zeroS P e with
      | some (.cells e' cs ext), some zs => match zerosS zs ((n + 1) * zs.length) with
        | some vs => cond (Nat.ble (off + vs.length) cs.length && vs.all oneB) (some ⟨ins st.H id (.cells e' (setR cs off vs) ext), st.nx, id :: st.wr⟩) none
        | none => none
      | _, _ => none
  | _, _ => none
theorem clearSlS_run (hok : Ok P A I st w) {t ty : TypeId} {ts : Array TypeId} (ht : ts[0]? = some t) {x : SV} {st' : St} (h : clearSlS P st t x = some st') : ∃ w', (Builtin.clear_ ts ty #[x.den I]).run P w = .ok (.tuple #[]) w' ∧ Mv P A I st w I st' w' := by
  unfold clearSlS at h
  split at h
  · rename_i e n c hu
    cases h
    exact ⟨w, by simp [SV.den, Builtin.clear_, ht, run_underlying hu], Mv.refl hok⟩
  · rename_i e j hu
    cases h
    refine ⟨w, ?_, Mv.refl hok⟩
    simp only [SV.den]
    cases (I.esl j).a.1 <;> simp [Builtin.clear_, ht, run_underlying hu]
  · rename_i e id off n c hu
    split at h
    · cases h
      exact ⟨w, by simp [SV.den, Builtin.clear_, ht, run_underlying hu], Mv.refl hok⟩
    · rename_i n
      split at h
      · rename_i e' cs ext zs hl hz
        split at h
        · rename_i vs hvs
          cases hb : (Nat.ble (off + vs.length) cs.length && vs.all oneB)
          · rw [hb] at h; cases h
          rw [hb] at h
          cases h
          rw [Bool.and_eq_true, Nat.ble_eq] at hb
          obtain ⟨z, z1, z2, z3, _⟩ := zeroS_run (A := A) (I := I) hz w
          have hd := zerosS_den hvs z2 z3
          have hsz : z.cells.size = zs.length := by rw [← Array.length_toList, z2, denL_length]
          obtain ⟨w', hr, hm⟩ := hok.putC hl hb.1 hb.2 hd.2.1
          refine ⟨w', ?_, hm⟩
          have hzc : (Builtin.zeroCells z.cells (n + 1)).toList = denL I vs := by
            have hd1 := hd.1
            rw [hsz] at hd1
            unfold Builtin.zeroCells
            rw [hsz, hd1]
          simp [SV.den, Builtin.clear_, ht, run_underlying hu, padr, z1, hzc, hr]
        · cases h
      · cases h
  · cases h
/-- a range over a map begins -/
def rangeS (P : Program) (st : St) (t : TypeId) (x : SV) : Option (SV × St) :=
  match P.underlying t, x with
  | some (.map _ _), .map none => some (.ptr (some (st.nx, 0)), ⟨ins st.H st.nx (.iter none 0 [] 0), st.nx + 1, st.wr⟩)
  | some (.map _ _), .map (some r) => match look st.H r with
    | some (.map _ clock) => some (.ptr (some (st.nx, 0)), ⟨ins st.H st.nx (.iter (some r) clock [] clock), st.nx + 1, st.wr⟩)
    | _ => none
  | _, _ => none
theorem rangeS_run (hok : Ok P A I st w) {t : TypeId} {x v : SV} {st' : St} (h : rangeS P st t x = some (v, st')) (hx : x.ok A I) : ∃ I' w', (Instr.range t (x.den I)).run P w = .ok (v.den I') w' ∧ Mv P A I st w I' st' w' ∧ v.ok (up A st.nx st'.nx) I' := by
  have key : ∀ (so : SO) (ob : Obj), so.ok A I → Real P (I.put st.nx w.heap.size 0) so ob → (Instr.range t (x.den I)).run P w = .ok (.pointer (some ⟨w.heap.size, 0, none⟩)) (w.alloc ob) →
      ∃ I' w', (Instr.range t (x.den I)).run P w = .ok ((SV.ptr (some (st.nx, 0))).den I') w' ∧ Mv P A I st w I' ⟨ins st.H st.nx so, st.nx + 1, st.wr⟩ w' ∧ (SV.ptr (some (st.nx, 0))).ok (up A st.nx (st.nx + 1)) I' := fun so ob h1 h2 h3 => by
    refine ⟨_, _, ?_, Mv.alloc hok 0 (Chg.refl _ w) rfl (SO.ok_mono (fun i hi => .inl hi) (SO.ok_agr (In.put_agr hok _ _) h1)) h2, fun q hq => by cases hq; exact up_succ _⟩
    rw [h3]
    simp [SV.den, padr, In.put]
  unfold rangeS at h
  split at h
  · rename_i kt e hu
    cases h
    exact key _ (.mapIter none 0 #[] 0) (fun q hq => by cases hq) rfl (by simp [Instr.range, run_underlying hu, SV.den])
  · rename_i kt e r hu
    split at h
    · rename_i es clock hl
      cases h
      have hA : A r := hx r rfl
      refine key _ (.mapIter (some (I.adr r)) clock #[] clock) (fun q hq => by cases hq; exact hA) ?_ ?_
      · simp only [Real, Option.map_some]
        rw [((In.put_agr hok w.heap.size 0).at_ r hA).1]
      · simp [Instr.range, run_underlying hu, SV.den, hok.getMap hl]
    · cases h
  · cases h
def bornIn (n : Nat) : List Nat → Bool
  | [] => false
  | x :: l => cond (Nat.beq x n) true (bornIn n l)
theorem bornIn_eq (n : Nat) : ∀ l : List Nat, bornIn n l = l.contains n
  | [] => rfl
  | x :: l => by
    rw [bornIn, bornIn_eq n l, List.contains_cons]
    by_cases h : x = n
    · rw [beq_t h]; simp [h]
    · rw [beq_f h]; simp [Ne.symm h]
/-- one step of a range over a map of which one entry is left at most -/
def nextS (P : Program) (st : St) (x : SV) (isStr : Bool) : Option (SV × St) :=
  match x, isStr with
  | .ptr (some (r, 0)), false => match look st.H r with
    | some (.iter none _ _ _) => some (.tup [.bool false], st)
    | some (.iter (some m) since seen last) => match look st.H m with
      | some (.map es clock) => cond (es.all (fun y => Nat.blt y.2.2 since) && Nat.ble since last) (match es.filter (fun y => !bornIn y.2.2 seen) with
        | [] => some (.tup [.bool false], st)
        | [y] => some (.tup [.bool true, y.1, y.2.1], ⟨ins st.H r (.iter (some m) since (seen ++ [y.2.2]) clock), st.nx, r :: st.wr⟩)
        | _ => none) none
      | _ => none
    | _ => none
  | _, _ => none
theorem nextS_run (hok : Ok P A I st w) {x v : SV} {st' : St} {isStr : Bool} (h : nextS P st x isStr = some (v, st')) (ty : TypeId) : ∃ w', (Instr.next (x.den I) isStr ty).run P w = .ok (v.den I) w' ∧ Mv P A I st w I st' w' ∧ v.ok A I := by
  unfold nextS at h
  split at h
  case h_2 => cases h
  rename_i r
  split at h
  · rename_i a b c hl
    cases h
    obtain ⟨_, ob, h1, h2⟩ := hok.real r _ hl
    have h2 : ob = .mapIter none a b.toArray c := h2
    subst h2
    refine ⟨w, ?_, Mv.refl hok, ⟨trivial, trivial⟩⟩
    simp [SV.den, padr, Instr.next, getObj, Sem.run, h1, denL]
  · rename_i m since seen last hl
    split at h
    · rename_i es clock hm
      cases hb : (es.all (fun y => Nat.blt y.2.2 since) && Nat.ble since last)
      · rw [hb] at h; cases h
      rw [hb, cond_true] at h
      rw [Bool.and_eq_true, Nat.ble_eq] at hb
      obtain ⟨_, ob, h1, h2⟩ := hok.real r _ hl
      have h2 : ob = .mapIter (some (I.adr m)) since seen.toArray last := h2
      subst h2
      have hmap := (hok.map_ hm).1
      have hold : ∀ x ∈ (es.map (entry I)).toArray.toList, x.born < since := fun y hy => by
        obtain ⟨z, hz, rfl⟩ := List.mem_map.1 hy
        exact Nat.le_of_ble_eq_true (List.all_eq_true.1 hb.1 z hz)
      have hleft : (leftOf (es.map (entry I)).toArray seen.toArray).toList = (es.filter (fun y => !bornIn y.2.2 seen)).map (entry I) := by
        unfold leftOf
        rw [Array.toList_filter]
        show List.filter _ (List.map (entry I) es) = _
        rw [List.filter_map]
        congr 1
        apply List.filter_congr
        intro y _
        simp [bornIn_eq, entry, Function.comp]
      have hrun := run_next_at (P := P) w ty (I.adr r) (I.adr m) since last seen.toArray _ clock h1 hmap hold hb.2
      have hden : (SV.ptr (some (r, 0))).den I = .pointer (some ⟨I.adr r, 0, none⟩) := rfl
      rw [hden]
      split at h
      · rename_i hf
        cases h
        rw [hf] at hleft
        rcases hrun with ⟨_, hr⟩ | ⟨e, he, _⟩
        · exact ⟨w, hr, Mv.refl hok, ⟨trivial, trivial⟩⟩
        · rw [hleft] at he; cases he
      · rename_i y hf
        cases h
        rw [hf] at hleft
        have hy : y ∈ es := (List.mem_filter.1 (show y ∈ es.filter (fun y => !bornIn y.2.2 seen) by rw [hf]; exact List.mem_cons_self ..)).1
        have hoky := (hok.map_ hm).2 y hy
        rcases hrun with ⟨h0, _⟩ | ⟨e, he, w1, hw1, hr⟩
        · rw [← Array.length_toList, hleft] at h0; cases h0
        · rw [hleft] at he
          obtain rfl : e = entry I y := by simpa using he
          refine ⟨_, hr, ?_, ⟨trivial, hoky.1, hoky.2, trivial⟩⟩
          have hlt := (Array.getElem?_eq_some_iff.1 h1).1
          have hs : Same w w1 := by
            rcases hw1 with rfl | rfl
            · exact Chg.refl _ _
            · exact (Chg.refl _ _).drew
          have h1' : w1.heap[I.adr r]? = some (.mapIter (some (I.adr m)) since seen.toArray last) := (hs.block _ hlt fun h => h).trans h1
          have hms := Mv.same hok hs
          have hup := Mv.upd hms.ok (w' := ChangeMaps.setBlock w1 (I.adr r) (.mapIter (some (I.adr m)) since (seen.toArray.push y.2.2) clock)) hl trivial (so' := .iter (some m) since (seen ++ [y.2.2]) clock)
            (Chg.setObj h1' (fun _ _ _ => by simp) (fun _ _ _ => by simp))
            (Array.getElem?_setIfInBounds_self_of_lt (Array.getElem?_eq_some_iff.1 h1').1) (hms.ok.key r _ hl).2 (by simp [Real])
          exact Mv.trans hok hms hup
      · cases h
    · cases h
  · cases h
def newMapS (st : St) : SV × St := (.map (some st.nx), ⟨ins st.H st.nx (.map [] 0), st.nx + 1, st.wr⟩)
theorem newMapS_run (hok : Ok P A I st w) : Mv P A I st w (I.put st.nx w.heap.size 0) (newMapS st).2 (w.alloc (.map #[] 0)) ∧ (newMapS st).1.den (I.put st.nx w.heap.size 0) = .map (some w.heap.size) ∧ (newMapS st).1.ok (up A st.nx (st.nx + 1)) (I.put st.nx w.heap.size 0) := by
  refine ⟨Mv.alloc hok 0 (Chg.refl _ w) rfl (fun x hx => by cases hx) rfl, ?_, fun q hq => ?_⟩
  · simp [newMapS, SV.den, In.put]
  · cases hq
    exact up_succ _
end
end Go.E2
/-
  The evaluator: copy, bytes as a string; all operations that touch memory and call nobody, in one. No program is named here. No conditions.
-/
namespace Go.E2
open Go.RowKit Go.Al
set_option linter.unusedVariables false
set_option linter.unusedSectionVars false
variable [Th] [Facts]

def copyS (P : Program) (st : St) (td ts : TypeId) (d s : SV) : Option (SV × St) :=
  match P.underlying td, P.underlying ts, d, s with
  | some (.slice e), some (.slice _), .slice (some (id, off)) n _, .slice (some (id2, off2)) m _ => match szOf P e, look st.H id, look st.H id2 with
    | some sz, some (.cells e1 cs ext), some (.cells _ cs2 _) => cond (Nat.ble (off2 + Nat.min m n * sz) cs2.length && Nat.ble (off + Nat.min m n * sz) cs.length && ((cs2.drop off2).take (Nat.min m n * sz)).all oneB)
      (some (intOf (Nat.min m n), ⟨ins st.H id (.cells e1 (setR cs off ((cs2.drop off2).take (Nat.min m n * sz))) ext), st.nx, id :: st.wr⟩)) none
    | _, _, _ => none
  | _, _, _, _ => none
def byteOf : SV → Option UInt8
  | .int .u8 (.ofNat n) => cond (Nat.blt n 256) (some (UInt8.ofNat n)) none
  | _ => none
/-- bytes as a string -/
def bytesS (P : Program) (st : St) (s d : TypeId) (x : SV) : Option SV :=
  match P.underlying s, P.underlying d, x with
  | some (.slice e), some .string, .slice p n c => match P.underlying e with
    | some (.int .u8) => match p with
      | none => cond (Nat.beq n 0) (some (.str [])) none
      | some (id, off) => match look st.H id with
        | some (.cells _ cs _) => cond (Nat.ble (off + n) cs.length) (match mapO byteOf ((cs.drop off).take n) with
            | some l => some (.str l)
            | none => none) none
        | _ => none
    | _ => none
  | _, _, _ => none
section
variable {P : Program} {A : Nat → Prop} {I : In} {st : St} {w w' : World}
theorem copyS_run (hok : Ok P A I st w) {td ts : TypeId} {d s v : SV} {st' : St} (h : copyS P st td ts d s = some (v, st')) (ty : TypeId) :
    ∃ w', (Builtin.copy_ #[td, ts] ty #[d.den I, s.den I]).run P w = .ok (v.den I) w' ∧ Mv P A I st w I st' w' ∧ v.ok (up A st.nx st'.nx) I := by
  unfold copyS at h
  split at h
  · rename_i e e2 id off n c id2 off2 m c2 hu hu2
    split at h
    · rename_i sz e1 cs ext e3 cs2 ext2 hsz hl hl2
      cases hb : (Nat.ble (off2 + Nat.min m n * sz) cs2.length && Nat.ble (off + Nat.min m n * sz) cs.length && ((cs2.drop off2).take (Nat.min m n * sz)).all oneB)
      · rw [hb] at h; cases h
      rw [hb] at h
      cases h
      simp only [Bool.and_eq_true] at hb
      obtain ⟨⟨b1, b2⟩, b3⟩ := hb
      have b1 := Nat.le_of_ble_eq_true b1
      have b2 := Nat.le_of_ble_eq_true b2
      have hll : ((cs2.drop off2).take (Nat.min m n * sz)).length = Nat.min m n * sz := by rw [List.length_take, List.length_drop]; omega
      obtain ⟨w', hr, hm⟩ := hok.putC hl (by rw [hll]; exact b2) b3 (((hok.key id2 _ hl2).2.1.drop off2).take _)
      refine ⟨w', ?_, hm, trivial⟩
      have hld := hok.loadC hl2 b1
      simp only [SV.den, Option.map_some, padr]
      simp [Builtin.copy_, run_underlying hu, szOf_run hsz, Builtin.lenOf, Builtin.firstCells, hld, hr, intOf, goInt, SV.den]
    · cases h
  · cases h
theorem byteOf_den {x : SV} {b : UInt8} (h : byteOf x = some b) : x.den I = .int .u8 (b.toNat : Int) := by
  unfold byteOf at h
  split at h
  · rename_i n
    cases hb : Nat.blt n 256
    · rw [hb] at h; cases h
    · rw [hb] at h
      cases h
      have : n < 256 := Nat.le_of_ble_eq_true hb
      simp [SV.den]
      omega
  · cases h
theorem bytesOf_den : ∀ {l : List SV} {r : List UInt8}, mapO byteOf l = some r → denL I l = bs r
  | [], r, h => by cases h; rfl
  | x :: l, r, h => by
    obtain ⟨y, m, hy, hm, rfl⟩ := mapO_cons h
    simp only [denL, byteOf_den hy, bytesOf_den hm]
    rfl
theorem bytesS_run (hok : Ok P A I st w) {s d : TypeId} {x v : SV} (h : bytesS P st s d x = some v) : (convert s d (x.den I)).run P w = .ok (v.den I) w ∧ v.ok A I := by
  unfold bytesS at h
  split at h
  · rename_i e p n c hs hd
    split at h
    · rename_i he
      split at h
      · rw [beq_cond] at h
        split at h
        · rename_i h0
          subst h0
          cases h
          exact ⟨run_bs_string0 hs he hd _ (l := []) rfl (Rd.nil w _), trivial⟩
        · cases h
      · rename_i id off
        split at h
        · rename_i e3 cs ext hl
          cases hb : Nat.ble (off + n) cs.length
          · rw [hb] at h; cases h
          rw [hb] at h
          have hle := Nat.le_of_ble_eq_true hb
          simp only [cond_true] at h
          split at h
          · rename_i l hm
            cases h
            have hlen := mapO_length hm
            rw [List.length_take, List.length_drop, Nat.min_eq_left (by omega)] at hlen
            refine ⟨run_bs_string0 hs he hd _ (l := l) hlen fun _ => ⟨I.adr id, off, rfl, fun i v hv => ?_⟩, trivial⟩
            have := hok.range hl hle i v (by rw [bytesOf_den hm]; exact hv)
            rwa [add_lit] at this
          · cases h
        · cases h
    · cases h
  · cases h
end
/-- operations that touch memory, and call nobody; no value: an effect alone -/
def hop0 (P : Program) (o : Oper) (fr : List SV) (st : St) : Option (Option SV × St) :=
  match o.op with
  | .alloc e => match zeroS P e with
    | some zs => some (some (newS st e zs).1, (newS st e zs).2)
    | none => none
  | .box e x => match opv fr x with
    | some v => match cellsS v with
      | some cs => some (some (newS st e cs).1, (newS st e cs).2)
      | none => none
    | none => none
  | .load t x => match opv fr x with
    | some v => match loadS P st t v with
      | some r => some (some r, st)
      | none => none
    | none => none
  | .store t x y => match opv fr x, opv fr y with
    | some u, some v => match storeS P st t u v with
      | some st' => some (none, st')
      | none => none
    | _, _ => none
  | .buildSlice t len parts => match partsS fr parts.toList with
    | some ps => match buildSliceS P st t len ps with
      | some (v, st') => some (some v, st')
      | none => none
    | none => none
  | .makeSlice t l c => match opv fr l, opv fr c with
    | some u, some v => match makeSliceS P st t u v with
      | some (r, st') => some (some r, st')
      | none => none
    | _, _ => none
  | .binOp .eql t x y _ => match opv fr x, opv fr y with
    | some u, some v => match ptrEqS P st t u v with
      | some b => some (some (.bool b), st)
      | none => match nilR P st t u v with
        | some d => some (some (.bx d true), st)
        | none => none
    | _, _ => none
  | .binOp .neq t x y _ => match opv fr x, opv fr y with
    | some u, some v => match ptrEqS P st t u v with
      | some b => some (some (.bool !b), st)
      | none => match nilR P st t u v with
        | some d => some (some (.bx d false), st)
        | none => none
    | _, _ => none
  | .convert s d x => match opv fr x with
    | some v => match bytesS P st s d v with
      | some r => some (some r, st)
      | none => none
    | none => none
  | .slice t x lo hi mx => match opv fr x, mapO (opv fr) lo.toList, mapO (opv fr) hi.toList, mapO (opv fr) mx.toList with
    | some v, some l, some h, some m => match sliceE P st t v l.head? h.head? m.head? with
      | some (r, st') => some (some r, st')
      | none => none
    | _, _, _, _ => none
  | .makeMap _ none => some (some (newMapS st).1, (newMapS st).2)
  | .range t x => match opv fr x with
    | some v => match rangeS P st t v with
      | some (r, st') => some (some r, st')
      | none => none
    | none => none
  | .next x isStr => match opv fr x with
    | some v => match nextS P st v isStr with
      | some (r, st') => some (some r, st')
      | none => none
    | none => none
  | .lookup t x i ok => match opv fr x, opv fr i with
    | some u, some v => match lookupS P st t u v ok with
      | some r => some (some r, st)
      | none => none
    | _, _ => none
  | .mapUpdate t m k x => match opv fr m, opv fr k, opv fr x with
    | some u, some v, some y => match updateS P st t u v y with
      | some st' => some (none, st')
      | none => none
    | _, _, _ => none
  | .insert t m k x => match opv fr m, opv fr k, opv fr x with
    | some u, some v, some y => match updateS P st t u v y with
      | some st' => some (none, st')
      | none => none
    | _, _, _ => none
  | .call c => match c.callee with
    | .builtin b => match mapO (opv fr) c.args.toList with
      | some args => match b, c.argTypes.toList, args with
        | .len, t :: _, [m] => match lenMapS P st t m with
          | some r => some (some r, st)
          | none => match lenR P st t m with
            | some r => some (some r, st)
            | none => none
        | .delete, t :: _, [m, k] => match deleteS P st t m k with
          | some st' => some (some (.tup []), st')
          | none => none
        | .clear, t :: _, [m] => match clearMapS P st t m with
          | some st' => some (some (.tup []), st')
          | none => match clearSlS P st t m with
            | some st' => some (some (.tup []), st')
            | none => none
        | .append, [t, tx], [s, x] => match appendS P st t tx s x with
          | some (r, st') => some (some r, st')
          | none => none
        | .copy, [t, tx], [s, x] => match copyS P st t tx s x with
          | some (r, st') => some (some r, st')
          | none => none
        | _, _, _ => none
      | none => none
    | _ => none
  | _ => none
section
variable {P : Program} {A : Nat → Prop} {I : In} {st : St} {w w' : World} {fr : List SV} {a : Act}
def outOf (I : In) : Option SV → Next
  | some v => .value (v.den I)
  | none => .skip
theorem hop0_run (hok : Ok P A I st w) {o : Oper} {r : Option SV} {st' : St} (hf : Fr A I fr a) (h : hop0 P o fr st = some (r, st')) :
    ∃ I' w', (execOp a.eval o).run P w = .ok (outOf I' r) w' ∧ Mv P A I st w I' st' w' ∧ ∀ v, r = some v → v.ok (up A st.nx st'.nx) I' := by
  have one : ∀ v : SV, v.ok A I → ∀ u, some v = some u → u.ok (up A st.nx st.nx) I := fun v hv u e => by cases e; exact ok_mono (fun i hi => .inl hi) v hv
  have new : ∀ (e : TypeId) {cs : List SV}, okL A I cs → ∃ I' w', w' = w.alloc (.cells (denL I cs).toArray e) ∧ (newS st e cs).1.den I' = .pointer (some ⟨w.heap.size, 0, none⟩) ∧ Mv P A I st w I' (newS st e cs).2 w' ∧ ∀ v, some (newS st e cs).1 = some v → v.ok (up A st.nx (newS st e cs).2.nx) I' := fun e cs hcs => by
    obtain ⟨h1, h2, h3⟩ := newS_run hok e hcs (Chg.refl _ w) rfl
    exact ⟨_, _, rfl, h2, h1, fun v e => by cases e; exact h3⟩
  unfold hop0 at h
  split at h
  case h_1 e ho =>
    split at h
    · rename_i zs hz
      cases h
      obtain ⟨z, z1, z2, z3, _⟩ := zeroS_run (A := A) (I := I) hz w
      obtain ⟨I', w', rfl, n1, n2, n3⟩ := new e z3
      refine ⟨I', _, ?_, n2, n3⟩
      simp [execOp, ho, Instr.alloc, z1, newVar, newRow, outOf, n1, ← z2]
    · cases h
  case h_2 e x ho =>
    split at h
    · rename_i v hv
      split at h
      · rename_i cs hcs
        cases h
        have hd := opv_den hf hv
        obtain ⟨c1, c2⟩ := cellsS_den (A := A) (I := I) hok.val.one hcs
        obtain ⟨I', w', rfl, n1, n2, n3⟩ := new e (c2 hd.2)
        refine ⟨I', _, ?_, n2, n3⟩
        simp [execOp, ho, Instr.box, hd.1, c1, newVar, newRow, outOf, n1]
      · cases h
    · cases h
  case h_3 t x ho =>
    split at h
    · rename_i v hv
      split at h
      · rename_i r hr
        cases h
        have hd := opv_den hf hv
        have := loadS_run hok hr
        exact ⟨I, w, by simp [execOp, ho, hd.1, this.1, outOf], Mv.refl hok, one _ this.2⟩
      · cases h
    · cases h
  case h_4 t x y ho =>
    split at h
    · rename_i u v hu hv
      split at h
      · rename_i st' hst
        cases h
        have h1 := opv_den hf hu
        have h2 := opv_den hf hv
        obtain ⟨w', hr, hm⟩ := storeS_run hok hst h2.2
        exact ⟨I, w', by simp [execOp, ho, h1.1, h2.1, hr, outOf], hm, fun v e => by cases e⟩
      · cases h
    · cases h
  case h_5 t len parts ho =>
    split at h
    · rename_i ps hps
      split at h
      · rename_i v st' hb
        cases h
        have h1 := partsS_den hf hps
        obtain ⟨I', w', hr, hm, hv⟩ := buildSliceS_run hok hb h1.2 (parts.map fun x => (x.1, a.eval x.2)) (by rw [Array.toList_map]; exact h1.1)
        refine ⟨I', w', ?_, hm, fun u e => by cases e; exact hv⟩
        simp only [execOp, ho]
        rw [Sem.run_bind, hr]
        rfl
      · cases h
    · cases h
  case h_6 t l c ho =>
    split at h
    · rename_i u v hu hv
      split at h
      · rename_i r st' hb
        cases h
        have h1 := opv_den hf hu
        have h2 := opv_den hf hv
        obtain ⟨I', w', hr, hm, hv⟩ := makeSliceS_run hok hb
        exact ⟨I', w', by simp [execOp, ho, h1.1, h2.1, hr, outOf], hm, fun u e => by cases e; exact hv⟩
      · cases h
    · cases h
  case h_7 t x y ty ho =>
    split at h
    · rename_i u v hu hv
      split at h
      · rename_i b hb
        cases h
        have h1 := opv_den hf hu
        have h2 := opv_den hf hv
        have := (ptrEqS_run hok hb x y).1
        refine ⟨I, w, ?_, Mv.refl hok, one _ trivial⟩
        simp only [execOp, ho, h1.1, h2.1]
        rw [Sem.run_bind, this]
        rfl
      · split at h
        · rename_i d hd
          cases h
          have h1 := opv_den hf hu
          have h2 := opv_den hf hv
          have := (nilR_run hok hd x y).1
          refine ⟨I, w, ?_, Mv.refl hok, one _ trivial⟩
          simp only [execOp, ho, h1.1, h2.1]
          rw [Sem.run_bind, this]
          rfl
        · cases h
    · cases h
  case h_8 t x y ty ho =>
    split at h
    · rename_i u v hu hv
      split at h
      · rename_i b hb
        cases h
        have h1 := opv_den hf hu
        have h2 := opv_den hf hv
        have := (ptrEqS_run hok hb x y).2
        refine ⟨I, w, ?_, Mv.refl hok, one _ trivial⟩
        simp only [execOp, ho, h1.1, h2.1]
        rw [Sem.run_bind, this]
        rfl
      · split at h
        · rename_i d hd
          cases h
          have h1 := opv_den hf hu
          have h2 := opv_den hf hv
          have := (nilR_run hok hd x y).2
          refine ⟨I, w, ?_, Mv.refl hok, one _ trivial⟩
          simp only [execOp, ho, h1.1, h2.1]
          rw [Sem.run_bind, this]
          rfl
        · cases h
    · cases h
  case h_9 s d x ho =>
    split at h
    · rename_i v hv
      split at h
      · rename_i r hr
        cases h
        have h1 := opv_den hf hv
        have := bytesS_run hok hr
        refine ⟨I, w, ?_, Mv.refl hok, one _ this.2⟩
        simp only [execOp, ho, h1.1]
        rw [Sem.run_bind, this.1]
        rfl
      · cases h
    · cases h
  case h_10 t x lo hi mx ho =>
    split at h
    · rename_i y l h' m hy hl hh hm
      split at h
      · rename_i r st' hs
        cases h
        have h1 := opv_den hf hy
        have e1 := opvO_den hf hl
        have e2 := opvO_den hf hh
        have e3 := opvO_den hf hm
        obtain ⟨I', w', hr, hm, hv⟩ := sliceE_run hok hs h1.2
        refine ⟨I', w', ?_, hm, fun u e => by cases e; exact hv⟩
        simp only [execOp, ho, h1.1, e1.1, e2.1, e3.1]
        rw [Sem.run_bind, hr]
        rfl
      · cases h
    · cases h
  case h_11 t ho =>
    cases h
    obtain ⟨n1, n2, n3⟩ := newMapS_run hok
    refine ⟨_, _, ?_, n1, fun v e => by cases e; exact n3⟩
    simp [execOp, ho, Instr.makeMap, outOf, n2]
  case h_12 t x ho =>
    split at h
    · rename_i u hu
      split at h
      · rename_i r st' hr
        cases h
        have h1 := opv_den hf hu
        obtain ⟨I', w', hr, hm, hv⟩ := rangeS_run hok hr h1.2
        exact ⟨I', w', by simp [execOp, ho, h1.1, hr, outOf], hm, fun v e => by cases e; exact hv⟩
      · cases h
    · cases h
  case h_13 x isStr ho =>
    split at h
    · rename_i u hu
      split at h
      · rename_i r st' hr
        cases h
        have h1 := opv_den hf hu
        obtain ⟨w', hr, hm, hv⟩ := nextS_run hok hr o.type
        exact ⟨I, w', by simp [execOp, ho, h1.1, hr, outOf], hm, fun v e => by cases e; exact ok_mono (fun i hi => .inl hi) _ hv⟩
      · cases h
    · cases h
  case h_14 t x i ok ho =>
    split at h
    · rename_i u v hu hv
      split at h
      · rename_i r hr
        cases h
        have h1 := opv_den hf hu
        have h2 := opv_den hf hv
        have := lookupS_run hok hr
        exact ⟨I, w, by simp [execOp, ho, h1.1, h2.1, this.1, outOf], Mv.refl hok, one _ this.2⟩
      · cases h
    · cases h
  case h_15 t m k x ho =>
    split at h
    · rename_i u v y hu hv hy
      split at h
      · rename_i st' hst
        cases h
        have h1 := opv_den hf hu
        have h2 := opv_den hf hv
        have h3 := opv_den hf hy
        obtain ⟨w', hr, hm⟩ := updateS_run hok hst h2.2 h3.2
        exact ⟨I, w', by simp [execOp, ho, h1.1, h2.1, h3.1, hr, outOf], hm, fun v e => by cases e⟩
      · cases h
    · cases h
  case h_16 t m k x ho =>
    split at h
    · rename_i u v y hu hv hy
      split at h
      · rename_i st' hst
        cases h
        have h1 := opv_den hf hu
        have h2 := opv_den hf hv
        have h3 := opv_den hf hy
        obtain ⟨w', hr, hm⟩ := updateS_run hok hst h2.2 h3.2
        exact ⟨I, w', by simp [execOp, ho, h1.1, h2.1, h3.1, hr, outOf], hm, fun v e => by cases e⟩
      · cases h
    · cases h
  case h_17 c ho =>
    split at h
    · rename_i b hb
      split at h
      · rename_i args hargs
        have h1 := opvL_den hf hargs
        have e1 : c.args.map a.eval = (denL I args).toArray := by rw [← h1.1, ← Array.toList_map, Array.toArray_toList]
        have hts0 : ∀ {t : TypeId} {l : List TypeId}, c.argTypes.toList = t :: l → c.argTypes[0]? = some t := fun e => by
          rw [← Array.getElem?_toList, e]
          rfl
        split at h
        · rename_i t l m hts
          split at h
          · rename_i r hr
            cases h
            have := lenMapS_run (ty := o.type) hok (hts0 hts) hr
            refine ⟨I, w, ?_, Mv.refl hok, one _ this.2⟩
            simp only [execOp, ho, resolve, hb, Sem.run_bind, Sem.run_pure, Result.andThen_ok, invoke, e1, builtin, denL]
            rw [this.1]
            rfl
          · split at h
            · rename_i r hr
              cases h
              have := lenR_run hok hr (hts0 hts) o.type (c.args.map fun | .const _ => true | _ => false)
              refine ⟨I, w, ?_, Mv.refl hok, one _ this.2⟩
              simp only [execOp, ho, resolve, hb, Sem.run_bind, Sem.run_pure, Result.andThen_ok, invoke, e1, denL]
              exact this.1
            · cases h
        · rename_i t l m k hts
          split at h
          · rename_i st' hr
            cases h
            obtain ⟨w', hr, hm⟩ := deleteS_run (ty := o.type) hok (hts0 hts) hr
            refine ⟨I, w', ?_, hm, fun u e => by cases e; trivial⟩
            simp only [execOp, ho, resolve, hb, Sem.run_bind, Sem.run_pure, Result.andThen_ok, invoke, e1, builtin, denL]
            rw [hr]
            rfl
          · cases h
        · rename_i t l m hts
          split at h
          · rename_i st' hr
            cases h
            obtain ⟨w', hr, hm⟩ := clearMapS_run (ty := o.type) hok (hts0 hts) hr
            refine ⟨I, w', ?_, hm, fun u e => by cases e; trivial⟩
            simp only [execOp, ho, resolve, hb, Sem.run_bind, Sem.run_pure, Result.andThen_ok, invoke, e1, builtin, denL]
            rw [hr]
            rfl
          · split at h
            · rename_i st' hr
              cases h
              obtain ⟨w', hr, hm⟩ := clearSlS_run (ty := o.type) hok (hts0 hts) hr
              refine ⟨I, w', ?_, hm, fun u e => by cases e; trivial⟩
              simp only [execOp, ho, resolve, hb, Sem.run_bind, Sem.run_pure, Result.andThen_ok, invoke, e1, builtin, denL]
              rw [hr]
              rfl
            · cases h
        · rename_i t tx s x hts
          split at h
          · rename_i r st' hs
            cases h
            have ht : c.argTypes = #[t, tx] := by rw [← Array.toArray_toList (xs := c.argTypes), hts]
            obtain ⟨I', w', hr, hm, hv⟩ := appendS_run hok hs h1.2.1 o.type
            refine ⟨I', w', ?_, hm, fun u e => by cases e; exact hv⟩
            simp only [execOp, ho, resolve, hb, Sem.run_bind, Sem.run_pure, Result.andThen_ok, invoke, e1, builtin, ht, denL]
            rw [hr]
            rfl
          · cases h
        · rename_i t tx s x hts
          split at h
          · rename_i r st' hs
            cases h
            have ht : c.argTypes = #[t, tx] := by rw [← Array.toArray_toList (xs := c.argTypes), hts]
            obtain ⟨w', hr, hm, hv⟩ := copyS_run hok hs o.type
            refine ⟨I, w', ?_, hm, fun u e => by cases e; exact hv⟩
            simp only [execOp, ho, resolve, hb, Sem.run_bind, Sem.run_pure, Result.andThen_ok, invoke, e1, builtin, ht, denL]
            rw [hr]
            rfl
          · cases h
        · cases h
      · cases h
    · cases h
  case h_18 => cases h
end
end Go.E2
