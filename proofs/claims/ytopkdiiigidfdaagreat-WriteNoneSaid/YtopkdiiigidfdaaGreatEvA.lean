/-
  An evaluator for calls whose data is known but for where it lies: values with names for blocks, the memory that they name, and what it means that a world holds it. No program is named here. No conditions.
-/
import Derived.Test.YtopkdiiigidfdaaGreatRw
namespace Go.Ev
open Go.RowKit Go.Al
set_option linter.unusedVariables false

/-- a slice's capacity: known, or a letter less a number -/
inductive Cap where
  | lit (n : Nat)
  | sym (j k : Nat)
/-- a value, its blocks under names -/
inductive SV where
  | bool (b : Bool)
  | int (k : IntKind) (n : Int)
  | str (s : List UInt8)
  | ptr (p : Option (Nat × Nat))
  | slice (p : Option (Nat × Nat)) (n : Nat) (c : Cap)
  | esl (j : Nat)
  | map (r : Option Nat)
  | func (fn : Fn) (first captured : List SV)
  | nilFunc
  | iface (t : TypeId) (v : SV)
  | nilIface
  | agg (l : List SV)
  | tup (l : List SV)
  | atom (n : Nat)
/-- what the names stand for -/
structure In where
  adr : Nat → Nat
  cap : Nat → Nat
  esl : Nat → Option Addr × Nat
  val : Nat → Value
def Cap.den (I : In) : Cap → Nat
  | .lit n => n
  | .sym j k => I.cap j - k
def padr (I : In) (p : Nat × Nat) : Addr := ⟨I.adr p.1, p.2, none⟩
mutual
def SV.den (I : In) : SV → Value
  | .bool b => .bool b
  | .int k n => .int k n
  | .str s => .string ⟨s.toArray⟩
  | .ptr p => .pointer (p.map (padr I))
  | .slice p n c => .slice (p.map (padr I)) n (c.den I)
  | .esl j => .slice (I.esl j).1 0 (I.esl j).2
  | .map r => .map (r.map I.adr)
  | .func fn f c => .func fn (denL I f).toArray (denL I c).toArray
  | .nilFunc => .nilFunc
  | .iface t v => .iface t (SV.den I v)
  | .nilIface => .nilIface
  | .agg l => .agg (denL I l).toArray
  | .tup l => .tuple (denL I l).toArray
  | .atom n => I.val n
def denL (I : In) : List SV → List Value
  | [] => []
  | v :: l => SV.den I v :: denL I l
end
theorem denL_map (I : In) : ∀ l : List SV, denL I l = l.map (SV.den I)
  | [] => rfl
  | v :: l => by rw [denL, denL_map I l]; rfl
@[simp] theorem denL_length (I : In) (l : List SV) : (denL I l).length = l.length := by rw [denL_map]; simp
theorem denL_append (I : In) (l m : List SV) : denL I (l ++ m) = denL I l ++ denL I m := by simp [denL_map]
theorem denL_take (I : In) (l : List SV) (n : Nat) : denL I (l.take n) = (denL I l).take n := by simp [denL_map]
theorem denL_drop (I : In) (l : List SV) (n : Nat) : denL I (l.drop n) = (denL I l).drop n := by simp [denL_map]
theorem denL_get (I : In) (l : List SV) (n : Nat) : (denL I l)[n]? = l[n]?.map (SV.den I) := by simp [denL_map]
theorem denL_set (I : In) (l : List SV) (n : Nat) (v : SV) : denL I (l.set n v) = (denL I l).set n (v.den I) := by simp [denL_map]

def capOk (A : Nat → Prop) (I : In) (n : Nat) : Cap → Prop
  | .lit m => n ≤ m
  | .sym j k => A j ∧ n + k ≤ I.cap j
mutual
/-- the names of a value are among A; its slices are no longer than they may be -/
def SV.ok (A : Nat → Prop) (I : In) : SV → Prop
  | .ptr p => ∀ q, p = some q → A q.1
  | .slice p n c => (∀ q, p = some q → A q.1) ∧ capOk A I n c
  | .esl j => A j
  | .map r => ∀ q, r = some q → A q
  | .func _ f c => okL A I f ∧ okL A I c
  | .iface _ v => SV.ok A I v
  | .agg l => okL A I l
  | .tup l => okL A I l
  | _ => True
def okL (A : Nat → Prop) (I : In) : List SV → Prop
  | [] => True
  | v :: l => SV.ok A I v ∧ okL A I l
end
theorem okL_iff {A : Nat → Prop} {I : In} : ∀ {l : List SV}, okL A I l ↔ ∀ v ∈ l, SV.ok A I v
  | [] => by simp [okL]
  | v :: l => by simp [okL, okL_iff (l := l)]
theorem okL.append {A : Nat → Prop} {I : In} {l m : List SV} (h : okL A I l) (h' : okL A I m) : okL A I (l ++ m) :=
  okL_iff.2 fun v hv => (List.mem_append.1 hv).elim (okL_iff.1 h v) (okL_iff.1 h' v)
theorem okL.take {A : Nat → Prop} {I : In} {l : List SV} (h : okL A I l) (n : Nat) : okL A I (l.take n) := okL_iff.2 fun v hv => okL_iff.1 h v (List.mem_of_mem_take hv)
theorem okL.drop {A : Nat → Prop} {I : In} {l : List SV} (h : okL A I l) (n : Nat) : okL A I (l.drop n) := okL_iff.2 fun v hv => okL_iff.1 h v (List.mem_of_mem_drop hv)
theorem okL.get {A : Nat → Prop} {I : In} {l : List SV} (h : okL A I l) {n : Nat} {v : SV} (hv : l[n]? = some v) : v.ok A I := okL_iff.1 h v (List.mem_of_getElem? hv)
theorem okL.set {A : Nat → Prop} {I : In} {l : List SV} (h : okL A I l) (n : Nat) {v : SV} (hv : v.ok A I) : okL A I (l.set n v) :=
  okL_iff.2 fun u hu => by
    rcases List.mem_or_eq_of_mem_set hu with h1 | rfl
    · exact okL_iff.1 h u h1
    · exact hv

/-- the names of A stand for the same -/
structure Agrees (A : Nat → Prop) (I I' : In) : Prop where
  at_ : ∀ i, A i → I'.adr i = I.adr i ∧ I'.cap i = I.cap i ∧ I'.esl i = I.esl i
  val : I'.val = I.val
theorem Agrees.refl (A : Nat → Prop) (I : In) : Agrees A I I := ⟨fun _ _ => ⟨rfl, rfl, rfl⟩, rfl⟩
section
variable {A : Nat → Prop} {I I' : In}
theorem capOk_agr (h : Agrees A I I') {n : Nat} : ∀ {c : Cap}, capOk A I n c → capOk A I' n c ∧ c.den I' = c.den I
  | .lit m, hc => ⟨hc, rfl⟩
  | .sym j k, ⟨h1, h2⟩ => ⟨⟨h1, by rw [(h.at_ j h1).2.1]; exact h2⟩, by simp only [Cap.den, (h.at_ j h1).2.1]⟩
theorem padr_agr (h : Agrees A I I') {p : Option (Nat × Nat)} (hp : ∀ q, p = some q → A q.1) : p.map (padr I') = p.map (padr I) := by
  cases p with
  | none => rfl
  | some q => simp [padr, (h.at_ q.1 (hp q rfl)).1]
mutual
theorem den_agr (h : Agrees A I I') : ∀ v : SV, v.ok A I → v.den I' = v.den I
  | .bool b, _ => rfl
  | .int k n, _ => rfl
  | .str s, _ => rfl
  | .ptr p, hv => by simp only [SV.den]; rw [padr_agr h hv]
  | .slice p n c, hv => by simp only [SV.den]; rw [padr_agr h hv.1, (capOk_agr h hv.2).2]
  | .esl j, hv => by simp only [SV.den]; rw [(h.at_ j hv).2.2]
  | .map r, hv => by
    cases r with
    | none => rfl
    | some q => simp [SV.den, (h.at_ q (hv q rfl)).1]
  | .func fn f c, hv => by simp only [SV.den]; rw [denL_agr h f hv.1, denL_agr h c hv.2]
  | .nilFunc, _ => rfl
  | .iface t v, hv => by simp only [SV.den]; rw [den_agr h v hv]
  | .nilIface, _ => rfl
  | .agg l, hv => by simp only [SV.den]; rw [denL_agr h l hv]
  | .tup l, hv => by simp only [SV.den]; rw [denL_agr h l hv]
  | .atom n, _ => by simp only [SV.den]; rw [h.val]
theorem denL_agr (h : Agrees A I I') : ∀ l : List SV, okL A I l → denL I' l = denL I l
  | [], _ => rfl
  | v :: l, hv => by simp only [denL]; rw [den_agr h v hv.1, denL_agr h l hv.2]
end
mutual
theorem ok_agr (h : Agrees A I I') : ∀ v : SV, v.ok A I → v.ok A I'
  | .bool b, _ => trivial
  | .int k n, _ => trivial
  | .str s, _ => trivial
  | .ptr p, hv => hv
  | .slice p n c, hv => ⟨hv.1, (capOk_agr h hv.2).1⟩
  | .esl j, hv => hv
  | .map r, hv => hv
  | .func fn f c, hv => ⟨okL_agr h f hv.1, okL_agr h c hv.2⟩
  | .nilFunc, _ => trivial
  | .iface t v, hv => ok_agr h v hv
  | .nilIface, _ => trivial
  | .agg l, hv => okL_agr h l hv
  | .tup l, hv => okL_agr h l hv
  | .atom n, _ => trivial
theorem okL_agr (h : Agrees A I I') : ∀ l : List SV, okL A I l → okL A I' l
  | [], _ => trivial
  | v :: l, hv => ⟨ok_agr h v hv.1, okL_agr h l hv.2⟩
end
theorem capOk_mono {B : Nat → Prop} (h : ∀ i, A i → B i) {n : Nat} : ∀ {c : Cap}, capOk A I n c → capOk B I n c
  | .lit m, hc => hc
  | .sym j k, ⟨h1, h2⟩ => ⟨h j h1, h2⟩
mutual
theorem ok_mono {B : Nat → Prop} (h : ∀ i, A i → B i) : ∀ v : SV, v.ok A I → v.ok B I
  | .bool b, _ => trivial
  | .int k n, _ => trivial
  | .str s, _ => trivial
  | .ptr p, hv => fun q hq => h _ (hv q hq)
  | .slice p n c, hv => ⟨fun q hq => h _ (hv.1 q hq), capOk_mono h hv.2⟩
  | .esl j, hv => h _ hv
  | .map r, hv => fun q hq => h _ (hv q hq)
  | .func fn f c, hv => ⟨okL_mono h f hv.1, okL_mono h c hv.2⟩
  | .nilFunc, _ => trivial
  | .iface t v, hv => ok_mono h v hv
  | .nilIface, _ => trivial
  | .agg l, hv => okL_mono h l hv
  | .tup l, hv => okL_mono h l hv
  | .atom n, _ => trivial
theorem okL_mono {B : Nat → Prop} (h : ∀ i, A i → B i) : ∀ l : List SV, okL A I l → okL B I l
  | [], _ => trivial
  | v :: l, hv => ⟨ok_mono h v hv.1, okL_mono h l hv.2⟩
end
end

/-- a block: cells (all, or the first ones of a row that is as long as a letter says), or a map -/
inductive SO where
  | cells (e : TypeId) (cs : List SV) (ext : Option Nat)
  | map (es : List (SV × SV × Nat)) (clock : Nat)
def SO.ok (A : Nat → Prop) (I : In) : SO → Prop
  | .cells _ cs ext => okL A I cs ∧ ∀ j, ext = some j → A j
  | .map es _ => ∀ x ∈ es, x.1.ok A I ∧ x.2.1.ok A I
def entry (I : In) (x : SV × SV × Nat) : MapEntry := ⟨x.1.den I, x.2.1.den I, x.2.2⟩
def Real (P : Program) (I : In) : SO → Obj → Prop
  | .cells e cs none, ob => ob = .cells (denL I cs).toArray e
  | .cells e cs (some j), ob => ∃ tail : List Value, ob = .cells (denL I cs ++ tail).toArray e ∧ ∃ i, P.info? e = some i ∧ (denL I cs ++ tail).length = I.cap j * i.size
  | .map es clock, ob => ob = .map (es.map (entry I)).toArray clock
theorem SO.ok_agr {A : Nat → Prop} {I I' : In} (h : Agrees A I I') : ∀ {o : SO}, o.ok A I → o.ok A I'
  | .cells _ cs ext, ho => ⟨okL_agr h cs ho.1, ho.2⟩
  | .map es _, ho => fun x hx => ⟨Ev.ok_agr h _ (ho x hx).1, Ev.ok_agr h _ (ho x hx).2⟩
theorem SO.ok_mono {A B : Nat → Prop} {I : In} (h : ∀ i, A i → B i) : ∀ {o : SO}, o.ok A I → o.ok B I
  | .cells _ cs ext, ho => ⟨okL_mono h cs ho.1, fun j hj => h _ (ho.2 j hj)⟩
  | .map es _, ho => fun x hx => ⟨Ev.ok_mono h _ (ho x hx).1, Ev.ok_mono h _ (ho x hx).2⟩
theorem Real.agr {P : Program} {A : Nat → Prop} {I I' : In} (h : Agrees A I I') : ∀ {o : SO} {ob : Obj}, o.ok A I → Real P I o ob → Real P I' o ob
  | .cells e cs none, ob, ho, hr => by simp only [Real] at hr ⊢; rw [denL_agr h cs ho.1]; exact hr
  | .cells e cs (some j), ob, ho, hr => by simp only [Real] at hr ⊢; rw [denL_agr h cs ho.1, (h.at_ j (ho.2 j rfl)).2.1]; exact hr
  | .map es clock, ob, ho, hr => by
    simp only [Real] at hr ⊢
    rw [hr]
    congr 2
    exact List.map_congr_left fun x hx => by simp only [entry, den_agr h _ (ho x hx).1, den_agr h _ (ho x hx).2]

def look : List (Nat × SO) → Nat → Option SO
  | [], _ => none
  | (i, o) :: l, k => cond (Nat.beq i k) (some o) (look l k)
def del : List (Nat × SO) → Nat → List (Nat × SO)
  | [], _ => []
  | (i, o) :: l, k => cond (Nat.beq i k) (del l k) ((i, o) :: del l k)
theorem beq_t {i k : Nat} (h : i = k) : Nat.beq i k = true := by rw [Nat.beq_eq]; exact h
theorem beq_f {i k : Nat} (h : ¬ i = k) : Nat.beq i k = false := by rw [← Bool.not_eq_true, Nat.beq_eq]; exact h
theorem look_cons (i : Nat) (o : SO) (l : List (Nat × SO)) (k : Nat) : look ((i, o) :: l) k = if i = k then some o else look l k := by
  by_cases h : i = k
  · rw [if_pos h, look, beq_t h]
    rfl
  · rw [if_neg h, look, beq_f h]
    rfl
def ins (l : List (Nat × SO)) (k : Nat) (o : SO) : List (Nat × SO) := (k, o) :: l
theorem look_ins (l : List (Nat × SO)) (i : Nat) (o : SO) (k : Nat) : look (ins l i o) k = if i = k then some o else look l k := look_cons i o l k
theorem look_del (l : List (Nat × SO)) (k m : Nat) : look (del l k) m = if k = m then none else look l m := by
  induction l with
  | nil => simp [del, look]
  | cons x l ih =>
    obtain ⟨i, o⟩ := x
    by_cases h : i = k
    · have : Nat.beq i k = true := beq_t h
      simp only [del, this, cond_true, ih, look_cons]
      subst h
      split <;> rfl
    · have : Nat.beq i k = false := beq_f h
      simp only [del, this, cond_false, look_cons, ih]
      by_cases hm : i = m
      · subst hm
        simp [Ne.symm h]
      · simp [hm]
/-- the memory, how many names there are, which of them were written -/
structure St where
  H : List (Nat × SO)
  nx : Nat
  wr : List Nat

/-- a world holds a memory -/
structure Ok (P : Program) (A : Nat → Prop) (I : In) (st : St) (w : World) : Prop where
  lt : ∀ i, A i → i < st.nx
  key : ∀ id o, look st.H id = some o → A id ∧ o.ok A I
  real : ∀ id o, look st.H id = some o → ∃ ob, w.heap[I.adr id]? = some ob ∧ Real P I o ob
  inj : ∀ id id', look st.H id ≠ none → look st.H id' ≠ none → I.adr id = I.adr id' → id = id'
  val : ∀ n, (I.val n).oneCell' = true
def up (A : Nat → Prop) (n m : Nat) : Nat → Prop := fun i => A i ∨ (n ≤ i ∧ i < m)
/-- from one state to a later one -/
structure Mv (P : Program) (A : Nat → Prop) (I : In) (st : St) (w : World) (I' : In) (st' : St) (w' : World) : Prop where
  nx : st.nx ≤ st'.nx
  ext : ∀ i, (i < st.nx ∨ st'.nx ≤ i) → I'.adr i = I.adr i ∧ I'.cap i = I.cap i ∧ I'.esl i = I.esl i
  val : I'.val = I.val
  chg : Chg (fun b => ∃ id, look st.H id ≠ none ∧ I.adr id = b) w w'
  log : ∀ id, id < st.nx → id ∉ st'.wr → look st'.H id = look st.H id
  wr : ∀ id, id ∈ st.wr → id ∈ st'.wr
  new : ∀ id, st.nx ≤ id → look st'.H id ≠ none → w.heap.size ≤ I'.adr id ∨ ∃ k, look st.H k ≠ none ∧ look st'.H k = none ∧ I'.adr id = I.adr k
  dead : ∀ id, id < st.nx → look st.H id = none → look st'.H id = none
  ok : Ok P (up A st.nx st'.nx) I' st' w'
section
variable {P : Program} {A : Nat → Prop} {I I1 I2 : In} {st st1 st2 : St} {w w1 w2 : World}
theorem Ok.congr {B : Nat → Prop} (h : Ok P A I st w) (hAB : ∀ i, A i ↔ B i) : Ok P B I st w :=
  ⟨fun i hi => h.lt i ((hAB i).2 hi), fun id o ho => ⟨(hAB id).1 (h.key id o ho).1, SO.ok_mono (fun i hi => (hAB i).1 hi) (h.key id o ho).2⟩, h.real, h.inj, h.val⟩
theorem Ok.live_lt (h : Ok P A I st w) {id : Nat} (hl : look st.H id ≠ none) : id < st.nx := by
  obtain ⟨o, ho⟩ := Option.ne_none_iff_exists'.1 hl
  exact h.lt id (h.key id o ho).1
theorem Ok.adr_lt (h : Ok P A I st w) {id : Nat} (hl : look st.H id ≠ none) : I.adr id < w.heap.size := by
  obtain ⟨o, ho⟩ := Option.ne_none_iff_exists'.1 hl
  obtain ⟨ob, hb, _⟩ := h.real id o ho
  exact (Array.getElem?_eq_some_iff.1 hb).1
theorem Mv.agr (h : Mv P A I st w I1 st1 w1) (hok : Ok P A I st w) : Agrees A I I1 := ⟨fun i hi => h.ext i (.inl (hok.lt i hi)), h.val⟩
theorem Mv.refl (hok : Ok P A I st w) : Mv P A I st w I st w :=
  ⟨Nat.le_refl _, fun _ _ => ⟨rfl, rfl, rfl⟩, rfl, Chg.refl _ w, fun _ _ _ => rfl, fun _ h => h, fun id h1 h2 => absurd (hok.live_lt h2) (by omega), fun _ _ h => h, hok.congr fun i => ⟨.inl, fun h => h.elim id fun h => by omega⟩⟩
theorem Mv.trans (hok : Ok P A I st w) (h : Mv P A I st w I1 st1 w1) (h' : Mv P (up A st.nx st1.nx) I1 st1 w1 I2 st2 w2) : Mv P A I st w I2 st2 w2 where
  nx := Nat.le_trans h.nx h'.nx
  ext := fun i hi => by
    have a := h.ext i (hi.imp id fun h2 => Nat.le_trans h'.nx h2)
    have b := h'.ext i (hi.imp (fun h2 => Nat.lt_of_lt_of_le h2 h.nx) id)
    exact ⟨b.1.trans a.1, b.2.1.trans a.2.1, b.2.2.trans a.2.2⟩
  val := h'.val.trans h.val
  chg := h.chg.trans h'.chg fun k hk ⟨id, h1, h2⟩ => by
    rcases Nat.lt_or_ge id st.nx with hid | hid
    · refine ⟨id, fun h0 => h1 (h.dead id hid h0), ?_⟩
      rw [← h2]
      exact (h.ext id (.inl hid)).1.symm
    · rcases h.new id hid h1 with h3 | ⟨j, h3, _, h4⟩
      · exact absurd hk (by omega)
      · exact ⟨j, h3, by rw [← h2, h4]⟩
  log := fun id hid hw => by rw [h'.log id (Nat.lt_of_lt_of_le hid h.nx) hw, h.log id hid fun h1 => hw (h'.wr id h1)]
  wr := fun id hid => h'.wr id (h.wr id hid)
  new := fun id hid hl => by
    rcases Nat.lt_or_ge id st1.nx with h1 | h1
    · have hl1 : look st1.H id ≠ none := fun h0 => hl (h'.dead id h1 h0)
      have he := (h'.ext id (.inl h1)).1
      rcases h.new id hid hl1 with h3 | ⟨j, h3, h4, h5⟩
      · exact .inl (by omega)
      · exact .inr ⟨j, h3, h'.dead j (Nat.lt_of_lt_of_le (hok.live_lt h3) h.nx) h4, by omega⟩
    · rcases h'.new id h1 hl with h3 | ⟨j, h3, h4, h5⟩
      · exact .inl (Nat.le_trans h.chg.size h3)
      · rcases Nat.lt_or_ge j st.nx with hj | hj
        · exact .inr ⟨j, fun h0 => h3 (h.dead j hj h0), h4, by rw [h5, (h.ext j (.inl hj)).1]⟩
        · rcases h.new j hj h3 with h6 | ⟨k, h6, h7, h8⟩
          · exact .inl (by omega)
          · exact .inr ⟨k, h6, h'.dead k (Nat.lt_of_lt_of_le (hok.live_lt h6) h.nx) h7, by omega⟩
  dead := fun id hid h0 => h'.dead id (Nat.lt_of_lt_of_le hid h.nx) (h.dead id hid h0)
  ok := h'.ok.congr fun i => by
    have a := h.nx
    have b := h'.nx
    unfold up
    constructor
    · rintro ((h1 | h1) | h1)
      · exact .inl h1
      · exact .inr (by omega)
      · exact .inr (by omega)
    · rintro (h1 | h1)
      · exact .inl (.inl h1)
      · by_cases h2 : i < st1.nx
        · exact .inl (.inr (by omega))
        · exact .inr (by omega)
end
end Go.Ev
