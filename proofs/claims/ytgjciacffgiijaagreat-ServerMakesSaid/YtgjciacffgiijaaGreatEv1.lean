/-
  An evaluator for calls whose data is known but for where it lies: values with names for blocks, the memory that they name, and what it means that a world holds it. No program is named here. No conditions.
-/
import Derived.Test.YtgjciacffgiijaaGreatRw
import Derived.Great.BuildSlice
namespace Go.Ev
open Go.RowKit Go.Al
set_option linter.unusedVariables false

/-- a slice's capacity: known, or a letter less a number -/
inductive Cap where
  | lit (n : Nat)
  | sym (j k : Nat)
/-- a value, its blocks under names -/
inductive SV where
  | bool (b : Bool)
  | int (k : IntKind) (n : Int)
  | str (s : List UInt8)
  | ptr (p : Option (Nat × Nat))
  | slice (p : Option (Nat × Nat)) (n : Nat) (c : Cap)
  | esl (j : Nat)
  | map (r : Option Nat)
  | func (fn : Fn) (first captured : List SV)
  | nilFunc
  | iface (t : TypeId) (v : SV)
  | nilIface
  | agg (l : List SV)
  | tup (l : List SV)
  | atom (n : Nat)
  | yld (n : Nat)
/-- what the names stand for -/
structure In where
  adr : Nat → Nat
  cap : Nat → Nat
  esl : Nat → Option Addr × Nat
  val : Nat → Value
def Cap.den (I : In) : Cap → Nat
  | .lit n => n
  | .sym j k => I.cap j - k
def padr (I : In) (p : Nat × Nat) : Addr := ⟨I.adr p.1, p.2, none⟩
mutual
def SV.den (I : In) : SV → Value
  | .bool b => .bool b
  | .int k n => .int k n
  | .str s => .string ⟨s.toArray⟩
  | .ptr p => .pointer (p.map (padr I))
  | .slice p n c => .slice (p.map (padr I)) n (c.den I)
  | .esl j => .slice (I.esl j).1 0 (I.esl j).2
  | .map r => .map (r.map I.adr)
  | .func fn f c => .func fn (denL I f).toArray (denL I c).toArray
  | .nilFunc => .nilFunc
  | .iface t v => .iface t (SV.den I v)
  | .nilIface => .nilIface
  | .agg l => .agg (denL I l).toArray
  | .tup l => .tuple (denL I l).toArray
  | .atom n => I.val n
  | .yld n => .func (.yield (I.adr n)) #[] #[]
def denL (I : In) : List SV → List Value
  | [] => []
  | v :: l => SV.den I v :: denL I l
end
theorem denL_map (I : In) : ∀ l : List SV, denL I l = l.map (SV.den I)
  | [] => rfl
  | v :: l => by rw [denL, denL_map I l]; rfl
@[simp] theorem denL_length (I : In) (l : List SV) : (denL I l).length = l.length := by rw [denL_map]; simp
theorem denL_append (I : In) (l m : List SV) : denL I (l ++ m) = denL I l ++ denL I m := by simp [denL_map]
theorem denL_take (I : In) (l : List SV) (n : Nat) : denL I (l.take n) = (denL I l).take n := by simp [denL_map]
theorem denL_drop (I : In) (l : List SV) (n : Nat) : denL I (l.drop n) = (denL I l).drop n := by simp [denL_map]
theorem denL_get (I : In) (l : List SV) (n : Nat) : (denL I l)[n]? = l[n]?.map (SV.den I) := by simp [denL_map]
theorem denL_set (I : In) (l : List SV) (n : Nat) (v : SV) : denL I (l.set n v) = (denL I l).set n (v.den I) := by simp [denL_map]

def capOk (A : Nat → Prop) (I : In) (n : Nat) : Cap → Prop
  | .lit m => n ≤ m
  | .sym j k => A j ∧ n + k ≤ I.cap j
mutual
/-- the names of a value are among A; its slices are no longer than they may be -/
def SV.ok (A : Nat → Prop) (I : In) : SV → Prop
  | .ptr p => ∀ q, p = some q → A q.1
  | .slice p n c => (∀ q, p = some q → A q.1) ∧ capOk A I n c
  | .esl j => A j
  | .map r => ∀ q, r = some q → A q
  | .func _ f c => okL A I f ∧ okL A I c
  | .iface _ v => SV.ok A I v
  | .agg l => okL A I l
  | .tup l => okL A I l
  | .yld n => A n
  | _ => True
def okL (A : Nat → Prop) (I : In) : List SV → Prop
  | [] => True
  | v :: l => SV.ok A I v ∧ okL A I l
end
theorem okL_iff {A : Nat → Prop} {I : In} : ∀ {l : List SV}, okL A I l ↔ ∀ v ∈ l, SV.ok A I v
  | [] => by simp [okL]
  | v :: l => by simp [okL, okL_iff (l := l)]
theorem okL.append {A : Nat → Prop} {I : In} {l m : List SV} (h : okL A I l) (h' : okL A I m) : okL A I (l ++ m) :=
  okL_iff.2 fun v hv => (List.mem_append.1 hv).elim (okL_iff.1 h v) (okL_iff.1 h' v)
theorem okL.take {A : Nat → Prop} {I : In} {l : List SV} (h : okL A I l) (n : Nat) : okL A I (l.take n) := okL_iff.2 fun v hv => okL_iff.1 h v (List.mem_of_mem_take hv)
theorem okL.drop {A : Nat → Prop} {I : In} {l : List SV} (h : okL A I l) (n : Nat) : okL A I (l.drop n) := okL_iff.2 fun v hv => okL_iff.1 h v (List.mem_of_mem_drop hv)
theorem okL.get {A : Nat → Prop} {I : In} {l : List SV} (h : okL A I l) {n : Nat} {v : SV} (hv : l[n]? = some v) : v.ok A I := okL_iff.1 h v (List.mem_of_getElem? hv)
theorem okL.set {A : Nat → Prop} {I : In} {l : List SV} (h : okL A I l) (n : Nat) {v : SV} (hv : v.ok A I) : okL A I (l.set n v) :=
  okL_iff.2 fun u hu => by
    rcases List.mem_or_eq_of_mem_set hu with h1 | rfl
    · exact okL_iff.1 h u h1
    · exact hv

/-- the names of A stand for the same -/
structure Agrees (A : Nat → Prop) (I I' : In) : Prop where
  at_ : ∀ i, A i → I'.adr i = I.adr i ∧ I'.cap i = I.cap i ∧ I'.esl i = I.esl i
  val : I'.val = I.val
theorem Agrees.refl (A : Nat → Prop) (I : In) : Agrees A I I := ⟨fun _ _ => ⟨rfl, rfl, rfl⟩, rfl⟩
section
variable {A : Nat → Prop} {I I' : In}
theorem capOk_agr (h : Agrees A I I') {n : Nat} : ∀ {c : Cap}, capOk A I n c → capOk A I' n c ∧ c.den I' = c.den I
  | .lit m, hc => ⟨hc, rfl⟩
  | .sym j k, ⟨h1, h2⟩ => ⟨⟨h1, by rw [(h.at_ j h1).2.1]; exact h2⟩, by simp only [Cap.den, (h.at_ j h1).2.1]⟩
theorem padr_agr (h : Agrees A I I') {p : Option (Nat × Nat)} (hp : ∀ q, p = some q → A q.1) : p.map (padr I') = p.map (padr I) := by
  cases p with
  | none => rfl
  | some q => simp [padr, (h.at_ q.1 (hp q rfl)).1]
mutual
theorem den_agr (h : Agrees A I I') : ∀ v : SV, v.ok A I → v.den I' = v.den I
  | .bool b, _ => rfl
  | .int k n, _ => rfl
  | .str s, _ => rfl
  | .ptr p, hv => by simp only [SV.den]; rw [padr_agr h hv]
  | .slice p n c, hv => by simp only [SV.den]; rw [padr_agr h hv.1, (capOk_agr h hv.2).2]
  | .esl j, hv => by simp only [SV.den]; rw [(h.at_ j hv).2.2]
  | .map r, hv => by
    cases r with
    | none => rfl
    | some q => simp [SV.den, (h.at_ q (hv q rfl)).1]
  | .func fn f c, hv => by simp only [SV.den]; rw [denL_agr h f hv.1, denL_agr h c hv.2]
  | .nilFunc, _ => rfl
  | .iface t v, hv => by simp only [SV.den]; rw [den_agr h v hv]
  | .nilIface, _ => rfl
  | .agg l, hv => by simp only [SV.den]; rw [denL_agr h l hv]
  | .tup l, hv => by simp only [SV.den]; rw [denL_agr h l hv]
  | .atom n, _ => by simp only [SV.den]; rw [h.val]
  | .yld n, hv => by simp only [SV.den]; rw [(h.at_ n hv).1]
theorem denL_agr (h : Agrees A I I') : ∀ l : List SV, okL A I l → denL I' l = denL I l
  | [], _ => rfl
  | v :: l, hv => by simp only [denL]; rw [den_agr h v hv.1, denL_agr h l hv.2]
end
mutual
theorem ok_agr (h : Agrees A I I') : ∀ v : SV, v.ok A I → v.ok A I'
  | .bool b, _ => trivial
  | .int k n, _ => trivial
  | .str s, _ => trivial
  | .ptr p, hv => hv
  | .slice p n c, hv => ⟨hv.1, (capOk_agr h hv.2).1⟩
  | .esl j, hv => hv
  | .map r, hv => hv
  | .func fn f c, hv => ⟨okL_agr h f hv.1, okL_agr h c hv.2⟩
  | .nilFunc, _ => trivial
  | .iface t v, hv => ok_agr h v hv
  | .nilIface, _ => trivial
  | .agg l, hv => okL_agr h l hv
  | .tup l, hv => okL_agr h l hv
  | .atom n, _ => trivial
  | .yld n, hv => hv
theorem okL_agr (h : Agrees A I I') : ∀ l : List SV, okL A I l → okL A I' l
  | [], _ => trivial
  | v :: l, hv => ⟨ok_agr h v hv.1, okL_agr h l hv.2⟩
end
theorem capOk_mono {B : Nat → Prop} (h : ∀ i, A i → B i) {n : Nat} : ∀ {c : Cap}, capOk A I n c → capOk B I n c
  | .lit m, hc => hc
  | .sym j k, ⟨h1, h2⟩ => ⟨h j h1, h2⟩
mutual
theorem ok_mono {B : Nat → Prop} (h : ∀ i, A i → B i) : ∀ v : SV, v.ok A I → v.ok B I
  | .bool b, _ => trivial
  | .int k n, _ => trivial
  | .str s, _ => trivial
  | .ptr p, hv => fun q hq => h _ (hv q hq)
  | .slice p n c, hv => ⟨fun q hq => h _ (hv.1 q hq), capOk_mono h hv.2⟩
  | .esl j, hv => h _ hv
  | .map r, hv => fun q hq => h _ (hv q hq)
  | .func fn f c, hv => ⟨okL_mono h f hv.1, okL_mono h c hv.2⟩
  | .nilFunc, _ => trivial
  | .iface t v, hv => ok_mono h v hv
  | .nilIface, _ => trivial
  | .agg l, hv => okL_mono h l hv
  | .tup l, hv => okL_mono h l hv
  | .atom n, _ => trivial
  | .yld n, hv => h _ hv
theorem okL_mono {B : Nat → Prop} (h : ∀ i, A i → B i) : ∀ l : List SV, okL A I l → okL B I l
  | [], _ => trivial
  | v :: l, hv => ⟨ok_mono h v hv.1, okL_mono h l hv.2⟩
end
end

/-- a block: cells (all, or the first ones of a row that is as long as a letter says), or a map -/
inductive SO where
  | cells (e : TypeId) (cs : List SV) (ext : Option Nat)
  | map (es : List (SV × SV × Nat)) (clock : Nat)
  | loop (s : LoopState) (pend : Option Code) (tmps : List SV) (ps : Array Tmp) (assign body : Code)
  | iter (m : Option Nat) (since : Nat) (seen : List Nat) (last : Nat)
def SO.ok (A : Nat → Prop) (I : In) : SO → Prop
  | .cells _ cs ext => okL A I cs ∧ ∀ j, ext = some j → A j
  | .map es _ => ∀ x ∈ es, x.1.ok A I ∧ x.2.1.ok A I
  | .loop _ _ tmps _ _ _ => okL A I tmps
  | .iter m _ _ _ => ∀ q, m = some q → A q
def entry (I : In) (x : SV × SV × Nat) : MapEntry := ⟨x.1.den I, x.2.1.den I, x.2.2⟩
def Real (P : Program) (I : In) : SO → Obj → Prop
  | .cells e cs none, ob => ob = .cells (denL I cs).toArray e
  | .cells e cs (some j), ob => ∃ tail : List Value, ob = .cells (denL I cs ++ tail).toArray e ∧ ∃ i, P.info? e = some i ∧ (denL I cs ++ tail).length = I.cap j * i.size
  | .map es clock, ob => ob = .map (es.map (entry I)).toArray clock
  | .loop s pend tmps ps assign body, ob => ∃ d f, ob = .loop { state := s, pending := pend, fn := f, tmps := (denL I tmps).toArray, params := ps, assign := assign, body := body, defers := d }
  | .iter m since seen last, ob => ob = .mapIter (m.map I.adr) since seen.toArray last
theorem SO.ok_agr {A : Nat → Prop} {I I' : In} (h : Agrees A I I') : ∀ {o : SO}, o.ok A I → o.ok A I'
  | .cells _ cs ext, ho => ⟨okL_agr h cs ho.1, ho.2⟩
  | .map es _, ho => fun x hx => ⟨Ev.ok_agr h _ (ho x hx).1, Ev.ok_agr h _ (ho x hx).2⟩
  | .loop _ _ tmps _ _ _, ho => okL_agr h tmps ho
  | .iter _ _ _ _, ho => ho
theorem SO.ok_mono {A B : Nat → Prop} {I : In} (h : ∀ i, A i → B i) : ∀ {o : SO}, o.ok A I → o.ok B I
  | .cells _ cs ext, ho => ⟨okL_mono h cs ho.1, fun j hj => h _ (ho.2 j hj)⟩
  | .map es _, ho => fun x hx => ⟨Ev.ok_mono h _ (ho x hx).1, Ev.ok_mono h _ (ho x hx).2⟩
  | .loop _ _ tmps _ _ _, ho => okL_mono h tmps ho
  | .iter _ _ _ _, ho => fun q hq => h _ (ho q hq)
theorem Real.agr {P : Program} {A : Nat → Prop} {I I' : In} (h : Agrees A I I') : ∀ {o : SO} {ob : Obj}, o.ok A I → Real P I o ob → Real P I' o ob
  | .cells e cs none, ob, ho, hr => by simp only [Real] at hr ⊢; rw [denL_agr h cs ho.1]; exact hr
  | .cells e cs (some j), ob, ho, hr => by simp only [Real] at hr ⊢; rw [denL_agr h cs ho.1, (h.at_ j (ho.2 j rfl)).2.1]; exact hr
  | .map es clock, ob, ho, hr => by
    simp only [Real] at hr ⊢
    rw [hr]
    congr 2
    exact List.map_congr_left fun x hx => by simp only [entry, den_agr h _ (ho x hx).1, den_agr h _ (ho x hx).2]
  | .loop s pend tmps ps assign body, ob, ho, hr => by simp only [Real] at hr ⊢; rw [denL_agr h tmps ho]; exact hr
  | .iter m since seen last, ob, ho, hr => by
    simp only [Real] at hr ⊢
    rw [hr]
    cases m with
    | none => rfl
    | some q => simp [(h.at_ q (ho q rfl)).1]

def look : List (Nat × SO) → Nat → Option SO
  | [], _ => none
  | (i, o) :: l, k => cond (Nat.beq i k) (some o) (look l k)
def del : List (Nat × SO) → Nat → List (Nat × SO)
  | [], _ => []
  | (i, o) :: l, k => cond (Nat.beq i k) (del l k) ((i, o) :: del l k)
theorem beq_t {i k : Nat} (h : i = k) : Nat.beq i k = true := by rw [Nat.beq_eq]; exact h
theorem beq_f {i k : Nat} (h : ¬ i = k) : Nat.beq i k = false := by rw [← Bool.not_eq_true, Nat.beq_eq]; exact h
theorem look_cons (i : Nat) (o : SO) (l : List (Nat × SO)) (k : Nat) : look ((i, o) :: l) k = if i = k then some o else look l k := by
  by_cases h : i = k
  · rw [if_pos h, look, beq_t h]
    rfl
  · rw [if_neg h, look, beq_f h]
    rfl
def ins (l : List (Nat × SO)) (k : Nat) (o : SO) : List (Nat × SO) := (k, o) :: l
theorem look_ins (l : List (Nat × SO)) (i : Nat) (o : SO) (k : Nat) : look (ins l i o) k = if i = k then some o else look l k := look_cons i o l k
theorem look_del (l : List (Nat × SO)) (k m : Nat) : look (del l k) m = if k = m then none else look l m := by
  induction l with
  | nil => simp [del, look]
  | cons x l ih =>
    obtain ⟨i, o⟩ := x
    by_cases h : i = k
    · have : Nat.beq i k = true := beq_t h
      simp only [del, this, cond_true, ih, look_cons]
      subst h
      split <;> rfl
    · have : Nat.beq i k = false := beq_f h
      simp only [del, this, cond_false, look_cons, ih]
      by_cases hm : i = m
      · subst hm
        simp [Ne.symm h]
      · simp [hm]
/-- the memory, how many names there are, which of them were written -/
structure St where
  H : List (Nat × SO)
  nx : Nat
  wr : List Nat

/-- what is known of operations at letters -/
class Facts where
  bin : List (BinOp × SV × SV × SV)
  blt : List (Builtin × SV × SV × SV)
  say : (Nat → Value) → Prop
def kden (v : Nat → Value) : SV → Value
  | .atom n => v n
  | .int k n => .int k n
  | .bool b => .bool b
  | _ => undef
def plainB : SV → Bool
  | .atom _ => true
  | .int _ _ => true
  | .bool _ => true
  | _ => false
/-- the letters' values: one cell each, and what is known is so -/
structure ValOk [F : Facts] (P : Program) (v : Nat → Value) : Prop where
  one : ∀ n, (v n).oneCell' = true
  bin : ∀ f ∈ F.bin, ∀ (t : TypeId) (xo yo : Operand) (w : World), (do eqGuard f.1 t xo yo (kden v f.2.1) (kden v f.2.2.1); binOp f.1 t (kden v f.2.1) (kden v f.2.2.1) : Sem Value).run P w = .ok (kden v f.2.2.2) w
  blt : ∀ f ∈ F.blt, ∀ (ts : Array TypeId) (ty : TypeId) (cs : Array Bool) (w : World), (builtin f.1 ts ty cs #[kden v f.2.1, kden v f.2.2.1]).run P w = .ok (.value (kden v f.2.2.2)) w
  say : F.say v
set_option linter.unusedSectionVars false
variable [Facts]
/-- a world holds a memory -/
structure Ok (P : Program) (A : Nat → Prop) (I : In) (st : St) (w : World) : Prop where
  lt : ∀ i, A i → i < st.nx
  key : ∀ id o, look st.H id = some o → A id ∧ o.ok A I
  real : ∀ id o, look st.H id = some o → ∃ ob, w.heap[I.adr id]? = some ob ∧ Real P I o ob
  inj : ∀ id id', look st.H id ≠ none → look st.H id' ≠ none → I.adr id = I.adr id' → id = id'
  val : ValOk P I.val
def up (A : Nat → Prop) (n m : Nat) : Nat → Prop := fun i => A i ∨ (n ≤ i ∧ i < m)
/-- from one state to a later one -/
structure Mv (P : Program) (A : Nat → Prop) (I : In) (st : St) (w : World) (I' : In) (st' : St) (w' : World) : Prop where
  nx : st.nx ≤ st'.nx
  ext : ∀ i, (i < st.nx ∨ st'.nx ≤ i) → I'.adr i = I.adr i ∧ I'.cap i = I.cap i ∧ I'.esl i = I.esl i
  val : I'.val = I.val
  chg : Chg (fun b => ∃ id, look st.H id ≠ none ∧ I.adr id = b) w w'
  log : ∀ id, id < st.nx → id ∉ st'.wr → look st'.H id = look st.H id
  wr : ∀ id, id ∈ st.wr → id ∈ st'.wr
  new : ∀ id, st.nx ≤ id → look st'.H id ≠ none → w.heap.size ≤ I'.adr id ∨ ∃ k, look st.H k ≠ none ∧ look st'.H k = none ∧ I'.adr id = I.adr k
  dead : ∀ id, id < st.nx → look st.H id = none → look st'.H id = none
  ok : Ok P (up A st.nx st'.nx) I' st' w'
section
variable {P : Program} {A : Nat → Prop} {I I1 I2 : In} {st st1 st2 : St} {w w1 w2 : World}
theorem Ok.congr {B : Nat → Prop} (h : Ok P A I st w) (hAB : ∀ i, A i ↔ B i) : Ok P B I st w :=
  ⟨fun i hi => h.lt i ((hAB i).2 hi), fun id o ho => ⟨(hAB id).1 (h.key id o ho).1, SO.ok_mono (fun i hi => (hAB i).1 hi) (h.key id o ho).2⟩, h.real, h.inj, h.val⟩
theorem Ok.live_lt (h : Ok P A I st w) {id : Nat} (hl : look st.H id ≠ none) : id < st.nx := by
  obtain ⟨o, ho⟩ := Option.ne_none_iff_exists'.1 hl
  exact h.lt id (h.key id o ho).1
theorem Ok.adr_lt (h : Ok P A I st w) {id : Nat} (hl : look st.H id ≠ none) : I.adr id < w.heap.size := by
  obtain ⟨o, ho⟩ := Option.ne_none_iff_exists'.1 hl
  obtain ⟨ob, hb, _⟩ := h.real id o ho
  exact (Array.getElem?_eq_some_iff.1 hb).1
theorem Mv.agr (h : Mv P A I st w I1 st1 w1) (hok : Ok P A I st w) : Agrees A I I1 := ⟨fun i hi => h.ext i (.inl (hok.lt i hi)), h.val⟩
theorem Mv.refl (hok : Ok P A I st w) : Mv P A I st w I st w :=
  ⟨Nat.le_refl _, fun _ _ => ⟨rfl, rfl, rfl⟩, rfl, Chg.refl _ w, fun _ _ _ => rfl, fun _ h => h, fun id h1 h2 => absurd (hok.live_lt h2) (by omega), fun _ _ h => h, hok.congr fun i => ⟨.inl, fun h => h.elim id fun h => by omega⟩⟩
theorem Mv.trans (hok : Ok P A I st w) (h : Mv P A I st w I1 st1 w1) (h' : Mv P (up A st.nx st1.nx) I1 st1 w1 I2 st2 w2) : Mv P A I st w I2 st2 w2 where
  nx := Nat.le_trans h.nx h'.nx
  ext := fun i hi => by
    have a := h.ext i (hi.imp id fun h2 => Nat.le_trans h'.nx h2)
    have b := h'.ext i (hi.imp (fun h2 => Nat.lt_of_lt_of_le h2 h.nx) id)
    exact ⟨b.1.trans a.1, b.2.1.trans a.2.1, b.2.2.trans a.2.2⟩
  val := h'.val.trans h.val
  chg := h.chg.trans h'.chg fun k hk ⟨id, h1, h2⟩ => by
    rcases Nat.lt_or_ge id st.nx with hid | hid
    · refine ⟨id, fun h0 => h1 (h.dead id hid h0), ?_⟩
      rw [← h2]
      exact (h.ext id (.inl hid)).1.symm
    · rcases h.new id hid h1 with h3 | ⟨j, h3, _, h4⟩
      · exact absurd hk (by omega)
      · exact ⟨j, h3, by rw [← h2, h4]⟩
  log := fun id hid hw => by rw [h'.log id (Nat.lt_of_lt_of_le hid h.nx) hw, h.log id hid fun h1 => hw (h'.wr id h1)]
  wr := fun id hid => h'.wr id (h.wr id hid)
  new := fun id hid hl => by
    rcases Nat.lt_or_ge id st1.nx with h1 | h1
    · have hl1 : look st1.H id ≠ none := fun h0 => hl (h'.dead id h1 h0)
      have he := (h'.ext id (.inl h1)).1
      rcases h.new id hid hl1 with h3 | ⟨j, h3, h4, h5⟩
      · exact .inl (by omega)
      · exact .inr ⟨j, h3, h'.dead j (Nat.lt_of_lt_of_le (hok.live_lt h3) h.nx) h4, by omega⟩
    · rcases h'.new id h1 hl with h3 | ⟨j, h3, h4, h5⟩
      · exact .inl (Nat.le_trans h.chg.size h3)
      · rcases Nat.lt_or_ge j st.nx with hj | hj
        · exact .inr ⟨j, fun h0 => h3 (h.dead j hj h0), h4, by rw [h5, (h.ext j (.inl hj)).1]⟩
        · rcases h.new j hj h3 with h6 | ⟨k, h6, h7, h8⟩
          · exact .inl (by omega)
          · exact .inr ⟨k, h6, h'.dead k (Nat.lt_of_lt_of_le (hok.live_lt h6) h.nx) h7, by omega⟩
  dead := fun id hid h0 => h'.dead id (Nat.lt_of_lt_of_le hid h.nx) (h.dead id hid h0)
  ok := h'.ok.congr fun i => by
    have a := h.nx
    have b := h'.nx
    unfold up
    constructor
    · rintro ((h1 | h1) | h1)
      · exact .inl h1
      · exact .inr (by omega)
      · exact .inr (by omega)
    · rintro (h1 | h1)
      · exact .inl (.inl h1)
      · by_cases h2 : i < st1.nx
        · exact .inl (.inr (by omega))
        · exact .inr (by omega)
end
end Go.Ev
/-
  The evaluator: values out of constants, operands, and operations that touch no memory. No program is named here. No conditions.
-/
namespace Go.Ev
open Go.RowKit Go.Al
set_option linter.unusedVariables false

def mapO {α β : Type} (f : α → Option β) : List α → Option (List β)
  | [] => some []
  | x :: l => match f x, mapO f l with
    | some y, some m => some (y :: m)
    | _, _ => none
theorem mapO_cons {α β : Type} {f : α → Option β} {x : α} {l : List α} {r : List β} (h : mapO f (x :: l) = some r) : ∃ y m, f x = some y ∧ mapO f l = some m ∧ r = y :: m := by
  unfold mapO at h
  split at h
  · cases h; exact ⟨_, _, by assumption, by assumption, rfl⟩
  · cases h
theorem mapO_length {α β : Type} {f : α → Option β} : ∀ {l : List α} {r : List β}, mapO f l = some r → r.length = l.length
  | [], r, h => by cases h; rfl
  | x :: l, r, h => by
    obtain ⟨y, m, _, hm, rfl⟩ := mapO_cons h
    simp [mapO_length hm]
/-- a constant as a value of ours -/
def ofV : Nat → Value → Option SV
  | 0, _ => none
  | n + 1, v => match v with
    | .bool b => some (.bool b)
    | .int k i => some (.int k i)
    | .string s => some (.str s.data.toList)
    | .pointer none => some (.ptr none)
    | .slice none k c => cond (Nat.ble k c) (some (.slice none k (.lit c))) none
    | .map none => some (.map none)
    | .nilFunc => some .nilFunc
    | .nilIface => some .nilIface
    | .iface t x => (ofV n x).map (.iface t)
    | .agg cs => (mapO (ofV n) cs.toList).map .agg
    | .tuple cs => (mapO (ofV n) cs.toList).map .tup
    | .func fn f c => match mapO (ofV n) f.toList, mapO (ofV n) c.toList with
      | some f', some c' => some (.func fn f' c')
      | _, _ => none
    | _ => none
section
variable {A : Nat → Prop} {I : In}
theorem mapO_den {f : Value → Option SV} (hf : ∀ v s, f v = some s → s.den I = v ∧ s.ok A I) : ∀ {l : List Value} {r : List SV}, mapO f l = some r → denL I r = l ∧ okL A I r
  | [], r, h => by cases h; exact ⟨rfl, trivial⟩
  | x :: l, r, h => by
    obtain ⟨y, m, hy, hm, rfl⟩ := mapO_cons h
    have a := hf x y hy
    have b := mapO_den hf hm
    exact ⟨by simp only [denL, a.1, b.1], a.2, b.2⟩
theorem ofV_den : ∀ (n : Nat) (v : Value) (s : SV), ofV n v = some s → s.den I = v ∧ s.ok A I
  | 0, v, s, h => by cases h
  | n + 1, v, s, h => by
    have ih := ofV_den n
    unfold ofV at h
    split at h
    · cases h; exact ⟨rfl, trivial⟩
    · cases h; exact ⟨rfl, trivial⟩
    · cases h; exact ⟨rfl, trivial⟩
    · cases h; exact ⟨rfl, fun q hq => by cases hq⟩
    · rename_i k c
      cases hb : Nat.ble k c
      · rw [hb] at h; cases h
      · rw [hb] at h
        cases h
        exact ⟨rfl, ⟨fun q hq => (by cases hq), Nat.le_of_ble_eq_true hb⟩⟩
    · cases h; exact ⟨rfl, fun q hq => by cases hq⟩
    · cases h; exact ⟨rfl, trivial⟩
    · cases h; exact ⟨rfl, trivial⟩
    · obtain ⟨x, hx, rfl⟩ := Option.map_eq_some_iff.1 h
      have a := ih _ _ hx
      exact ⟨by simp only [SV.den, a.1], a.2⟩
    · obtain ⟨x, hx, rfl⟩ := Option.map_eq_some_iff.1 h
      have a := mapO_den (A := A) (I := I) ih hx
      exact ⟨by simp only [SV.den, a.1, Array.toArray_toList], a.2⟩
    · obtain ⟨x, hx, rfl⟩ := Option.map_eq_some_iff.1 h
      have a := mapO_den (A := A) (I := I) ih hx
      exact ⟨by simp only [SV.den, a.1, Array.toArray_toList], a.2⟩
    · split at h
      · rename_i hf hc
        cases h
        have a := mapO_den (A := A) (I := I) ih hf
        have b := mapO_den (A := A) (I := I) ih hc
        exact ⟨by simp only [SV.den, a.1, b.1, Array.toArray_toList], a.2, b.2⟩
      · cases h
    · cases h
end
mutual
/-- a value without names -/
def toV : SV → Option Value
  | .bool b => some (.bool b)
  | .int k n => some (.int k n)
  | .str s => some (.string ⟨s.toArray⟩)
  | .ptr none => some (.pointer none)
  | .slice none n (.lit c) => some (.slice none n c)
  | .map none => some (.map none)
  | .nilFunc => some .nilFunc
  | .nilIface => some .nilIface
  | .iface t v => match toV v with
    | some x => some (.iface t x)
    | none => none
  | .agg l => match toVL l with
    | some x => some (.agg x.toArray)
    | none => none
  | .tup l => match toVL l with
    | some x => some (.tuple x.toArray)
    | none => none
  | _ => none
def toVL : List SV → Option (List Value)
  | [] => some []
  | v :: l => match toV v, toVL l with
    | some x, some m => some (x :: m)
    | _, _ => none
end
mutual
theorem toV_den (I : In) : ∀ (s : SV) (v : Value), toV s = some v → s.den I = v
  | .bool b, v, h => by cases h; rfl
  | .int k n, v, h => by cases h; rfl
  | .str s, v, h => by cases h; rfl
  | .ptr none, v, h => by cases h; rfl
  | .ptr (some p), v, h => by cases h
  | .slice none n (.lit c), v, h => by cases h; rfl
  | .slice none n (.sym j k), v, h => by cases h
  | .slice (some p) n c, v, h => by cases h
  | .esl j, v, h => by cases h
  | .map none, v, h => by cases h; rfl
  | .map (some r), v, h => by cases h
  | .func fn f c, v, h => by cases h
  | .nilFunc, v, h => by cases h; rfl
  | .nilIface, v, h => by cases h; rfl
  | .atom n, v, h => by cases h
  | .iface t x, v, h => by
    unfold toV at h
    split at h
    · rename_i hx; cases h; simp only [SV.den, toV_den I x _ hx]
    · cases h
  | .agg l, v, h => by
    unfold toV at h
    split at h
    · rename_i hx; cases h; simp only [SV.den, toVL_den I l _ hx]
    · cases h
  | .tup l, v, h => by
    unfold toV at h
    split at h
    · rename_i hx; cases h; simp only [SV.den, toVL_den I l _ hx]
    · cases h
theorem toVL_den (I : In) : ∀ (l : List SV) (v : List Value), toVL l = some v → denL I l = v
  | [], v, h => by cases h; rfl
  | x :: l, v, h => by
    unfold toVL at h
    split at h
    · rename_i hx hl; cases h; simp only [denL, toV_den I x _ hx, toVL_den I l _ hl]
    · cases h
end
/-- what a piece of the machine's work answers, if it touches nothing -/
def runP {α : Type} (P : Program) : Sem α → Option α
  | .pure a => some a
  | .program k => runP P (k P)
  | _ => none
theorem runP_run {α : Type} {P : Program} : ∀ {s : Sem α} {a : α}, runP P s = some a → ∀ w, s.run P w = .ok a w
  | .pure x, a, h, w => by cases h; rfl
  | .program k, a, h, w => by
    unfold runP at h
    exact runP_run h w
  | .load .., a, h, w => by cases h
  | .store .., a, h, w => by cases h
  | .new .., a, h, w => by cases h
  | .shape .., a, h, w => by cases h
  | .freeze .., a, h, w => by cases h
  | .frozen .., a, h, w => by cases h
  | .getObj .., a, h, w => by cases h
  | .setObj .., a, h, w => by cases h
  | .choose .., a, h, w => by cases h
  | .sys .., a, h, w => by cases h
  | .mark .., a, h, w => by cases h
  | .halt .., a, h, w => by cases h

def nth : List SV → Nat → SV
  | [], _ => .tup []
  | v :: _, 0 => v
  | _ :: l, n + 1 => nth l n
theorem nth_get : ∀ (l : List SV) (n : Nat), nth l n = (l[n]?).getD (.tup [])
  | [], n => by simp [nth]
  | v :: l, 0 => by simp [nth]
  | v :: l, n + 1 => by simp [nth, nth_get l n]
/-- a frame -/
structure Fr (A : Nat → Prop) (I : In) (fr : List SV) (a : Act) : Prop where
  tmps : a.tmps = (denL I fr).toArray
  ok : okL A I fr
def opv (fr : List SV) : Operand → Option SV
  | .tmp t => some (nth fr t)
  | .const v => ofV 6 v
  | .global _ => none
  | .func f => some (.func (.func f) [] [])
section
variable {A : Nat → Prop} {I : In} {fr : List SV} {a : Act}
theorem opv_den (hf : Fr A I fr a) {x : Operand} {s : SV} (h : opv fr x = some s) : a.eval x = s.den I ∧ s.ok A I := by
  cases x with
  | tmp t =>
    simp only [opv, Option.some.injEq] at h
    subst h
    simp only [Act.eval, hf.tmps, Array.getD_eq_getD_getElem?, List.getElem?_toArray, denL_get, nth_get]
    cases ht : fr[t]? with
    | none => exact ⟨rfl, trivial⟩
    | some v => exact ⟨rfl, hf.ok.get ht⟩
  | const v =>
    have := ofV_den (A := A) (I := I) 6 v s h
    exact ⟨this.1.symm, this.2⟩
  | global g => cases h
  | func f =>
    simp only [opv, Option.some.injEq] at h
    subst h
    exact ⟨rfl, trivial, trivial⟩
def putF (fr : List SV) (d : Option Tmp) (v : SV) : List SV := match d with
  | some d => fr.set d v
  | none => fr
theorem Fr.put (hf : Fr A I fr a) (d : Option Tmp) {v : SV} (hv : v.ok A I) : Fr A I (putF fr d v) (a.put d (v.den I)) := by
  cases d with
  | none => exact hf
  | some d => exact ⟨by simp [Act.put, putF, hf.tmps, denL_set], hf.ok.set d hv⟩
theorem Fr.agr {I' : In} (hf : Fr A I fr a) (h : Agrees A I I') : Fr A I' fr a := ⟨by rw [denL_agr h fr hf.ok]; exact hf.tmps, okL_agr h fr hf.ok⟩
theorem Fr.mono {B : Nat → Prop} (hf : Fr A I fr a) (h : ∀ i, A i → B i) : Fr B I fr a := ⟨hf.tmps, okL_mono h fr hf.ok⟩
end
end Go.Ev
/-
  The evaluator: operations that touch no memory. No program is named here. No conditions.
-/
namespace Go.Ev
open Go.RowKit Go.Al
set_option linter.unusedVariables false

def inI64 : Int → Bool
  | .ofNat m => Nat.blt m 9223372036854775808
  | .negSucc m => Nat.blt m 9223372036854775808
theorem inI64_wrap {n : Int} (h : inI64 n = true) : IntKind.i64.wrap n = n := by
  have h2 : -9223372036854775808 ≤ n ∧ n < 9223372036854775808 := by
    cases n with
    | ofNat m =>
      have := Nat.le_of_ble_eq_true h
      simp only [Int.ofNat_eq_natCast]
      omega
    | negSucc m =>
      have := Nat.le_of_ble_eq_true h
      simp only [Int.negSucc_eq]
      omega
  exact IntWalk.i64_in n ⟨h2.1, by omega⟩
def ltI : Int → Int → Bool
  | .ofNat m, .ofNat n => Nat.blt m n
  | .ofNat _, .negSucc _ => false
  | .negSucc _, .ofNat _ => true
  | .negSucc m, .negSucc n => Nat.blt n m
theorem ltI_eq (a b : Int) : ltI a b = decide (a < b) := by
  rw [Bool.eq_iff_iff, decide_eq_true_iff]
  cases a <;> cases b <;> simp only [ltI, Nat.blt, Nat.ble_eq, Int.ofNat_eq_natCast, Int.negSucc_eq, Bool.false_eq_true, true_iff, false_iff] <;> omega
def eqI : Int → Int → Bool
  | .ofNat m, .ofNat n => Nat.beq m n
  | .negSucc m, .negSucc n => Nat.beq m n
  | _, _ => false
theorem eqI_eq (a b : Int) : eqI a b = (a == b) := by
  rw [Bool.eq_iff_iff, beq_iff_eq]
  cases a <;> cases b <;> simp only [eqI, Nat.beq_eq, Int.ofNat_eq_natCast, Int.negSucc_eq, Bool.false_eq_true, false_iff] <;> omega
/-- the quick way at int's -/
def ibin (op : BinOp) (k : IntKind) (a b : Int) : Option SV :=
  match op with
  | .add => match k with
    | .i64 => cond (inI64 (a + b)) (some (.int .i64 (a + b))) none
    | _ => none
  | .sub => match k with
    | .i64 => cond (inI64 (a - b)) (some (.int .i64 (a - b))) none
    | _ => none
  | .mul => match k with
    | .i64 => cond (inI64 (a * b)) (some (.int .i64 (a * b))) none
    | _ => none
  | .eql => some (.bool (eqI a b))
  | .neq => some (.bool (!eqI a b))
  | .lss => some (.bool (ltI a b))
  | .leq => some (.bool (!ltI b a))
  | .gtr => some (.bool (ltI b a))
  | .geq => some (.bool (!ltI a b))
  | _ => none
section
variable {P : Program} {A : Nat → Prop} {I : In}
theorem ibin_run {op : BinOp} {k : IntKind} {a b : Int} {s : SV} (h : ibin op k a b = some s) (t : TypeId) (x y : Operand) (w : World) :
    (do eqGuard op t x y (.int k a) (.int k b); binOp op t (.int k a) (.int k b) : Sem Value).run P w = .ok (s.den I) w ∧ s.ok A I := by
  unfold ibin at h
  have h1 : ∀ {n : Int}, cond (inI64 n) (some (SV.int .i64 n)) none = some s → s = .int .i64 n ∧ IntKind.i64.wrap n = n := fun {n} hc => by
    cases hb : inI64 n
    · rw [hb] at hc; cases hc
    · rw [hb] at hc; cases hc; exact ⟨rfl, inI64_wrap hb⟩
  split at h
  · split at h
    · obtain ⟨rfl, hw⟩ := h1 h
      exact ⟨by simp [eqGuard, binOp, Op.intArith, SV.den, hw], trivial⟩
    · cases h
  · split at h
    · obtain ⟨rfl, hw⟩ := h1 h
      exact ⟨by simp [eqGuard, binOp, Op.intArith, SV.den, hw], trivial⟩
    · cases h
  · split at h
    · obtain ⟨rfl, hw⟩ := h1 h
      exact ⟨by simp [eqGuard, binOp, Op.intArith, SV.den, hw], trivial⟩
    · cases h
  all_goals first
    | cases h; done
    | (cases h; refine ⟨?_, trivial⟩; simp [eqGuard, binOp, Op.intCmp, SV.den, eqI_eq, ltI_eq]; try (first | rfl | (rw [Bool.eq_iff_iff]; simp)))
/-- nil against whatever -/
def nilEq (P : Program) (t : TypeId) (x y : SV) : Option Bool :=
  match P.underlying t, x, y with
  | some (.pointer _), .ptr none, .ptr b => some b.isNone
  | some (.pointer _), .ptr _, .ptr none => some false
  | some (.slice _), .slice none _ _, .slice b _ _ => some b.isNone
  | some (.slice _), .slice _ _ _, .slice none _ _ => some false
  | some (.map _ _), .map none, .map b => some b.isNone
  | some (.map _ _), .map _, .map none => some false
  | some (.func _ _ _), .nilFunc, .func _ _ _ => some false
  | some (.func _ _ _), .func _ _ _, .nilFunc => some false
  | some (.interface _), .nilIface, .iface _ _ => some false
  | some (.interface _), .iface _ _, .nilIface => some false
  | _, _, _ => none
theorem nil_fin {t : TypeId} {x y : Value} {b : Bool} {w : World} {xo yo : Operand} (h1 : binOp .eql t x y = (do pure (.bool (← Op.equal t x y)))) (h2 : binOp .neq t x y = (do pure (.bool (!(← Op.equal t x y)))))
    (h3 : eqGuard .eql t xo yo x y = pure ()) (h4 : eqGuard .neq t xo yo x y = pure ()) (he : (Op.equalIn (9999 + 1) t x y).run P w = .ok b w) :
    (do eqGuard .eql t xo yo x y; binOp .eql t x y : Sem Value).run P w = .ok (.bool b) w ∧ (do eqGuard .neq t xo yo x y; binOp .neq t x y : Sem Value).run P w = .ok (.bool !b) w := by
  have he' : (Op.equal t x y).run P w = .ok b w := he
  rw [h1, h2, h3, h4]
  simp [he']
theorem nilEq_run {t : TypeId} {x y : SV} {b : Bool} (h : nilEq P t x y = some b) (w : World) (xo yo : Operand) :
    (do eqGuard .eql t xo yo (x.den I) (y.den I); binOp .eql t (x.den I) (y.den I) : Sem Value).run P w = .ok (.bool b) w ∧
    (do eqGuard .neq t xo yo (x.den I) (y.den I); binOp .neq t (x.den I) (y.den I) : Sem Value).run P w = .ok (.bool !b) w := by
  unfold nilEq at h
  split at h
  case h_11 => cases h
  case h_1 q hu => cases h; cases q <;> (refine nil_fin rfl rfl rfl rfl ?_; rw [Op.equalIn]; simp [run_underlying hu, SV.den])
  case h_2 q hq hu => cases h; cases q <;> (refine nil_fin rfl rfl rfl rfl ?_; rw [Op.equalIn]; simp [run_underlying hu, SV.den]) <;> exact absurd rfl hq
  case h_3 q n c hu => cases h; cases q <;> (refine nil_fin rfl rfl rfl rfl ?_; rw [Op.equalIn]; simp [run_underlying hu, SV.den])
  case h_4 q n c n2 c2 hq hu => cases h; cases q <;> (refine nil_fin rfl rfl rfl rfl ?_; rw [Op.equalIn]; simp [run_underlying hu, SV.den]) <;> (simp at hq)
  case h_5 q hu => cases h; cases q <;> (refine nil_fin rfl rfl rfl rfl ?_; rw [Op.equalIn]; simp [run_underlying hu, SV.den])
  case h_6 q hq hu => cases h; cases q <;> (refine nil_fin rfl rfl rfl rfl ?_; rw [Op.equalIn]; simp [run_underlying hu, SV.den]) <;> exact absurd rfl hq
  case h_7 hu => cases h; (refine nil_fin rfl rfl rfl rfl ?_; rw [Op.equalIn]; simp [run_underlying hu, SV.den])
  case h_8 hu => cases h; (refine nil_fin rfl rfl rfl rfl ?_; rw [Op.equalIn]; simp [run_underlying hu, SV.den])
  case h_9 hu => cases h; (refine nil_fin rfl rfl rfl rfl ?_; rw [Op.equalIn]; simp [run_underlying hu, SV.den])
  case h_10 hu => cases h; (refine nil_fin rfl rfl rfl rfl ?_; rw [Op.equalIn]; simp [run_underlying hu, SV.den])
def isAggB (P : Program) (t : TypeId) : Bool := match P.underlying t with
  | some (.struct _) => true
  | some (.array _ _) => true
  | _ => false
def szOf (P : Program) (t : TypeId) : Option Nat := match P.info? t with
  | some i => some i.size
  | none => none
theorem szOf_run {t : TypeId} {n : Nat} (h : szOf P t = some n) (w : World) : (sizeOf t).run P w = .ok n w := by
  unfold szOf at h
  split at h
  · rename_i i hi; cases h; simp [sizeOf, typeInfo, hi]
  · cases h
theorem isAgg_run {t : TypeId} (hs : (P.info? t).isSome = true) (w : World) : ∃ b, (isAgg t).run P w = .ok b w ∧ (P.underlying t).isSome = true → True := ⟨true, fun _ => trivial⟩
theorem isAggB_run {t : TypeId} {d : TypeDesc} (h : P.underlying t = some d) (w : World) : (isAgg t).run P w = .ok (isAggB P t) w := by
  unfold isAgg isAggB
  rw [h]
  cases d <;> simp [run_underlying h]
/-- part of a row of cells -/
def partS (P : Program) (t : TypeId) (cs : List SV) (off : Nat) : Option SV :=
  match P.underlying t with
  | none => none
  | some _ => cond (isAggB P t) (match szOf P t with
      | some n => some (.agg ((cs.drop off).take n))
      | none => none) cs[off]?
theorem partS_run {t : TypeId} {cs : List SV} {off : Nat} {s : SV} (h : partS P t cs off = some s) (hc : okL A I cs) (w : World) : (part t (denL I cs).toArray off).run P w = .ok (s.den I) w ∧ s.ok A I := by
  unfold partS at h
  split at h
  · cases h
  · rename_i d hd
    cases hb : isAggB P t
    · rw [hb] at h
      simp only [cond_false] at h
      refine ⟨?_, hc.get h⟩
      simp [part, isAggB_run hd, hb, denL_get, h]
    · rw [hb] at h
      simp only [cond_true] at h
      split at h
      · rename_i n hn
        cases h
        refine ⟨?_, (hc.drop off).take n⟩
        simp [part, isAggB_run hd, hb, szOf_run hn, SV.den, denL_take, denL_drop, List.extract_eq_take_drop]
      · cases h
/-- a field's place; fields of no size have none here -/
def fieldS (P : Program) (s : TypeId) (x : SV) (f : Nat) : Option SV :=
  match P.underlying s, x with
  | some (.struct fs), .ptr (some (id, off)) => match fs[f]? with
    | some fd => match szOf P fd.type with
      | some (_ + 1) => some (.ptr (some (id, off + fd.offset)))
      | _ => none
    | none => none
  | _, _ => none
theorem fieldS_run {t : TypeId} {x s : SV} {f : Nat} (h : fieldS P t x f = some s) (hx : x.ok A I) (w : World) : (Instr.fieldAt t (x.den I) f).run P w = .ok (s.den I) w ∧ s.ok A I := by
  unfold fieldS at h
  split at h
  · rename_i fs id off hu
    split at h
    · rename_i fd hf
      split at h
      · rename_i n hn
        cases h
        refine ⟨?_, fun q hq => by cases hq; exact hx (id, off) rfl⟩
        simp [Instr.fieldAt, run_underlying hu, hf, Instr.sureAddr, SV.den, padr, fieldPlace, szOf_run hn, add_lit]
      · cases h
    · cases h
  · cases h
def fieldV (P : Program) (t : TypeId) (x : SV) (f : Nat) : Option SV :=
  match P.underlying t, x with
  | some (.struct fs), .agg l => match fs[f]? with
    | some fd => partS P fd.type l fd.offset
    | none => none
  | _, _ => none
theorem fieldV_run {t : TypeId} {x s : SV} {f : Nat} (h : fieldV P t x f = some s) (hx : x.ok A I) (w : World) : (Instr.field t (x.den I) f).run P w = .ok (s.den I) w ∧ s.ok A I := by
  unfold fieldV at h
  split at h
  · rename_i fs l hu
    split at h
    · rename_i fd hf
      have := partS_run h hx w
      exact ⟨by simp [Instr.field, run_underlying hu, hf, SV.den, asAgg, this.1], this.2⟩
    · cases h
  · cases h
/-- an index that is in range -/
def ixS (x : SV) (n : Nat) : Option Nat := match x with
  | .int _ (.ofNat i) => cond (Nat.blt i n) (some i) none
  | _ => none
theorem ixS_spec {x : SV} {n i : Nat} (h : ixS x n = some i) : ∃ k, x = .int k (i : Int) ∧ i < n := by
  unfold ixS at h
  split at h
  · rename_i k j
    cases hb : Nat.blt j n
    · rw [hb] at h; cases h
    · rw [hb] at h; cases h; exact ⟨k, rfl, Nat.le_of_ble_eq_true hb⟩
  · cases h
def indexS (P : Program) (t : TypeId) (x ix : SV) : Option SV :=
  match P.underlying t, x with
  | some (.slice e), .slice (some (id, off)) n _ => match ixS ix n, szOf P e with
    | some i, some sz => some (.ptr (some (id, off + i * sz)))
    | _, _ => none
  | some (.array n e), .ptr (some (id, off)) => match ixS ix n, szOf P e with
    | some i, some sz => some (.ptr (some (id, off + i * sz)))
    | _, _ => none
  | _, _ => none
theorem indexS_run {t : TypeId} {x ix s : SV} (h : indexS P t x ix = some s) (hx : x.ok A I) (w : World) : (Instr.indexAt t (x.den I) (ix.den I)).run P w = .ok (s.den I) w ∧ s.ok A I := by
  unfold indexS at h
  split at h
  · rename_i e id off n c hu
    split at h
    · rename_i i sz hi hz
      cases h
      obtain ⟨k, rfl, hlt⟩ := ixS_spec hi
      refine ⟨?_, fun q hq => by cases hq; exact hx.1 (id, off) rfl⟩
      simp [Instr.indexAt, asIntOf, run_underlying hu, SV.den, padr, szOf_run hz, add_lit, hlt]
    · cases h
  · rename_i n e id off hu
    split at h
    · rename_i i sz hi hz
      cases h
      obtain ⟨k, rfl, hlt⟩ := ixS_spec hi
      refine ⟨?_, fun q hq => by cases hq; exact hx (id, off) rfl⟩
      simp [Instr.indexAt, asIntOf, run_underlying hu, SV.den, padr, szOf_run hz, add_lit, hlt, Instr.sureAddr]
    · cases h
  · cases h
def indexV (P : Program) (t : TypeId) (x ix : SV) : Option SV :=
  match P.underlying t, x with
  | some (.array n e), .agg l => match ixS ix n, szOf P e with
    | some i, some sz => partS P e l (i * sz)
    | _, _ => none
  | some .string, .str s => match ixS ix s.length with
    | some i => match s[i]? with
      | some b => some (.int .u8 b.toNat)
      | none => none
    | none => none
  | _, _ => none
theorem indexV_run {t : TypeId} {x ix s : SV} (h : indexV P t x ix = some s) (hx : x.ok A I) (w : World) : (Instr.index t (x.den I) (ix.den I)).run P w = .ok (s.den I) w ∧ s.ok A I := by
  unfold indexV at h
  split at h
  · rename_i n e l hu
    split at h
    · rename_i i sz hi hz
      obtain ⟨k, rfl, hlt⟩ := ixS_spec hi
      have := partS_run h hx w
      exact ⟨by simp [Instr.index, asIntOf, run_underlying hu, SV.den, szOf_run hz, hlt, this.1], this.2⟩
    · cases h
  · rename_i l hu
    split at h
    · rename_i i hi
      split at h
      · rename_i b hb
        cases h
        obtain ⟨k, rfl, hlt⟩ := ixS_spec hi
        refine ⟨?_, trivial⟩
        have hg : (⟨l.toArray⟩ : ByteArray)[i]? = some b := by
          have hs : i < (⟨l.toArray⟩ : ByteArray).size := by simp [ByteArray.size, hlt]
          rw [getElem?_pos (⟨l.toArray⟩ : ByteArray) i hs]
          have : l[i]? = some b := hb
          rw [List.getElem?_eq_getElem hlt] at this
          exact this
        simp [Instr.index, asIntOf, run_underlying hu, SV.den, hg]
      · cases h
    · cases h
  · cases h
end
end Go.Ev
/-
  The evaluator: slice expressions; all operations that touch no memory, in one. No program is named here. No conditions.
-/
namespace Go.Ev
open Go.RowKit Go.Al
set_option linter.unusedVariables false

/-- a bound that is no more than y -/
def bndS (x : SV) (y : Nat) : Option Nat := ixS x (y + 1)
section
variable {P : Program} {A : Nat → Prop} {I : In}
theorem bndS_run {x : SV} {y i z : Nat} (h : bndS x y = some i) (hz : y ≤ z) (code : BoundsCode) (w : World) : (Instr.sliceBound (x.den I) z code).run P w = .ok i w ∧ i ≤ y := by
  obtain ⟨k, rfl, hlt⟩ := ixS_spec h
  have h2 : i ≤ z := by omega
  exact ⟨by simp [Instr.sliceBound, asIntOf, SV.den, h2], by omega⟩
end
/-- the bounds of a slice whose capacity is a number -/
def bndsL (n c : Nat) (lo hi mx : Option SV) : Option (Nat × Nat × Nat) :=
  match (match mx with
    | some v => bndS v c
    | none => some c) with
  | none => none
  | some m => match (match hi, mx with
      | some v, _ => bndS v m
      | none, none => some n
      | none, some _ => none) with
    | none => none
    | some h => match (match lo with
        | some v => bndS v h
        | none => some 0) with
      | none => none
      | some l => some (l, h, m)
section
variable {P : Program} {A : Nat → Prop} {I : In}
theorem bndsL_run {n c l h m : Nat} {lo hi mx : Option SV} {b : Bool} (he : bndsL n c lo hi mx = some (l, h, m)) (hn : n ≤ c) (w : World) :
    (Instr.sliceBounds b n c (lo.map (SV.den I)) (hi.map (SV.den I)) (mx.map (SV.den I))).run P w = .ok (l, h, m) w ∧ l ≤ h ∧ h ≤ m ∧ m ≤ c := by
  unfold bndsL at he
  split at he
  · cases he
  rename_i m' hm
  split at he
  · cases he
  rename_i h' hh
  split at he
  · cases he
  rename_i l' hl
  cases he
  have r := fun (x : SV) (y i : Nat) (e : bndS x y = some i) (code : BoundsCode) (w : World) => bndS_run (P := P) (I := I) e (Nat.le_refl y) code w
  cases mx with
  | none =>
    simp only [Option.some.injEq] at hm
    subst hm
    cases hi with
    | none =>
      simp only [Option.some.injEq] at hh
      subst hh
      cases lo with
      | none =>
        simp only [Option.some.injEq] at hl
        subst hl
        exact ⟨by simp [Instr.sliceBounds], by omega, hn, Nat.le_refl _⟩
      | some x =>
        have a := r x _ _ hl
        refine ⟨?_, (a .sliceB w).2, hn, Nat.le_refl _⟩
        simp [Instr.sliceBounds, (a _ _).1]
    | some y =>
      have a := r y _ _ hh
      cases lo with
      | none =>
        simp only [Option.some.injEq] at hl
        subst hl
        refine ⟨?_, by omega, (a .sliceB w).2, Nat.le_refl _⟩
        simp [Instr.sliceBounds, (a _ _).1]
      | some x =>
        have a2 := r x _ _ hl
        refine ⟨?_, (a2 .sliceB w).2, (a .sliceB w).2, Nat.le_refl _⟩
        simp [Instr.sliceBounds, (a _ _).1, (a2 _ _).1]
  | some z =>
    have a0 := r z _ _ hm
    cases hi with
    | none => cases hh
    | some y =>
      have a := r y _ _ hh
      cases lo with
      | none =>
        simp only [Option.some.injEq] at hl
        subst hl
        refine ⟨?_, by omega, (a .sliceB w).2, (a0 .sliceB w).2⟩
        simp [Instr.sliceBounds, (a0 _ _).1, (a _ _).1]
      | some x =>
        have a2 := r x _ _ hl
        refine ⟨?_, (a2 .sliceB w).2, (a .sliceB w).2, (a0 .sliceB w).2⟩
        simp [Instr.sliceBounds, (a0 _ _).1, (a _ _).1, (a2 _ _).1]
/-- the same, whatever the capacity, no less than the length: bounds no greater than that -/
theorem bndsL_run' {n c l h m : Nat} {lo hi mx : Option SV} {b : Bool} (he : bndsL n n lo hi mx = some (l, h, m)) (hn : n ≤ c) (w : World) :
    (Instr.sliceBounds b n c (lo.map (SV.den I)) (hi.map (SV.den I)) (mx.map (SV.den I))).run P w = .ok (l, h, match mx with | some _ => m | none => c) w ∧ l ≤ h ∧ h ≤ m ∧ m ≤ n := by
  unfold bndsL at he
  split at he
  · cases he
  rename_i m' hm
  split at he
  · cases he
  rename_i h' hh
  split at he
  · cases he
  rename_i l' hl
  cases he
  have r := fun (x : SV) (y z i : Nat) (e : bndS x y = some i) (hz : y ≤ z) (code : BoundsCode) (w : World) => bndS_run (P := P) (I := I) e hz code w
  cases mx with
  | none =>
    simp only [Option.some.injEq] at hm
    subst hm
    cases hi with
    | none =>
      simp only [Option.some.injEq] at hh
      subst hh
      cases lo with
      | none =>
        simp only [Option.some.injEq] at hl
        subst hl
        exact ⟨by simp [Instr.sliceBounds], by omega, Nat.le_refl _, Nat.le_refl _⟩
      | some x =>
        have a := r x _ _ _ hl (Nat.le_refl _)
        refine ⟨?_, (a .sliceB w).2, Nat.le_refl _, Nat.le_refl _⟩
        simp [Instr.sliceBounds, (a _ _).1]
    | some y =>
      have a := r y _ _ _ hh hn
      cases lo with
      | none =>
        simp only [Option.some.injEq] at hl
        subst hl
        refine ⟨?_, by omega, (a .sliceB w).2, Nat.le_refl _⟩
        simp [Instr.sliceBounds, (a _ _).1]
      | some x =>
        have a2 := r x _ _ _ hl (Nat.le_refl _)
        refine ⟨?_, (a2 .sliceB w).2, (a .sliceB w).2, Nat.le_refl _⟩
        simp [Instr.sliceBounds, (a _ _).1, (a2 _ _).1]
  | some z =>
    have a0 := r z _ _ _ hm hn
    cases hi with
    | none => cases hh
    | some y =>
      have a := r y _ _ _ hh (Nat.le_refl _)
      cases lo with
      | none =>
        simp only [Option.some.injEq] at hl
        subst hl
        refine ⟨?_, by omega, (a .sliceB w).2, (a0 .sliceB w).2⟩
        simp [Instr.sliceBounds, (a0 _ _).1, (a _ _).1]
      | some x =>
        have a2 := r x _ _ _ hl (Nat.le_refl _)
        refine ⟨?_, (a2 .sliceB w).2, (a .sliceB w).2, (a0 .sliceB w).2⟩
        simp [Instr.sliceBounds, (a0 _ _).1, (a _ _).1, (a2 _ _).1]
end
def addP (p : Option (Nat × Nat)) (k : Nat) : Option (Nat × Nat) := match p with
  | some (id, off) => some (id, off + k)
  | none => none
/-- a slice expression; what can't be said without a new letter is not answered -/
def sliceS (P : Program) (t : TypeId) (x : SV) (lo hi mx : Option SV) : Option SV :=
  match P.underlying t, x with
  | some (.slice e), .slice p n (.lit c) => match bndsL n c lo hi mx, szOf P e with
    | some (l, h, m), some sz => cond (Nat.ble n c) (some (.slice (cond (Nat.beq m l) p (addP p (l * sz))) (h - l) (.lit (m - l)))) none
    | _, _ => none
  | some (.slice e), .slice p n (.sym j k) => match bndsL n n lo hi mx, szOf P e with
    | some (l, h, m), some sz => match mx with
      | some _ => some (.slice (cond (Nat.beq m l) p (addP p (l * sz))) (h - l) (.lit (m - l)))
      | none => cond (Nat.beq l 0) (some (.slice p h (.sym j k))) (cond (Nat.blt l n) (some (.slice (addP p (l * sz)) (h - l) (.sym j (k + l)))) none)
    | _, _ => none
  | some (.slice e), .esl j => match bndsL 0 0 lo hi none, mx, szOf P e with
    | some _, none, some _ => some (.esl j)
    | _, _, _ => none
  | some (.array n e), .ptr (some (id, off)) => match bndsL n n lo hi mx, szOf P e with
    | some (l, h, m), some sz => some (.slice (some (cond (Nat.beq m l) (id, off) (id, off + l * sz))) (h - l) (.lit (m - l)))
    | _, _ => none
  | _, _ => none
section
variable {P : Program} {A : Nat → Prop} {I : In}
theorem addP_den (p : Option (Nat × Nat)) (k : Nat) : (addP p k).map (padr I) = (p.map (padr I)).map (·.add k) := by
  cases p with
  | none => rfl
  | some q => obtain ⟨id, off⟩ := q; simp [addP, padr, add_lit]
theorem addP_ok {p : Option (Nat × Nat)} {k : Nat} (h : ∀ q, p = some q → A q.1) : ∀ q, addP p k = some q → A q.1 := by
  cases p with
  | none => intro q hq; cases hq
  | some p => obtain ⟨id, off⟩ := p; intro q hq; cases hq; exact h (id, off) rfl
theorem beq_cond {α : Type} (m l : Nat) (a b : α) : cond (Nat.beq m l) a b = if m = l then a else b := by
  by_cases h : m = l
  · rw [if_pos h, beq_t h]; rfl
  · rw [if_neg h, beq_f h]; rfl
theorem sliceS_run {t : TypeId} {x s : SV} {lo hi mx : Option SV} (h : sliceS P t x lo hi mx = some s) (hx : x.ok A I) (w : World) :
    (Instr.sliceAt t (x.den I) (lo.map (SV.den I)) (hi.map (SV.den I)) (mx.map (SV.den I))).run P w = .ok (s.den I) w ∧ s.ok A I := by
  unfold sliceS at h
  split at h
  · rename_i e p n c hu
    split at h
    · rename_i l h' m sz hb hz
      cases hle : Nat.ble n c
      · rw [hle] at h; cases h
      · rw [hle] at h
        cases h
        have hn := Nat.le_of_ble_eq_true hle
        obtain ⟨hr, h1, h2, h3⟩ := bndsL_run (P := P) (I := I) (b := true) hb hn w
        rw [beq_cond]
        refine ⟨?_, ?_⟩
        · simp only [Instr.sliceAt, Instr.slice, Sem.run_bind, run_underlying hu, Result.andThen_ok, SV.den, Cap.den, hr, szOf_run hz, Sem.run_pure]
          split <;> simp [addP_den]
        · refine ⟨?_, by show h' - l ≤ m - l; omega⟩
          split
          · exact hx.1
          · exact addP_ok hx.1
    · cases h
  · rename_i e p n j k hu
    obtain ⟨hx1, hA, hcap⟩ := hx
    have hn : n ≤ I.cap j - k := by omega
    split at h
    · rename_i l h' m sz hb hz
      obtain ⟨hr, h1, h2, h3⟩ := bndsL_run' (P := P) (I := I) (b := true) hb hn w
      split at h
      · cases h
        rw [beq_cond]
        refine ⟨?_, ?_⟩
        · simp only [Instr.sliceAt, Instr.slice, Sem.run_bind, run_underlying hu, Result.andThen_ok, SV.den, Cap.den, hr, szOf_run hz, Sem.run_pure]
          split <;> simp [addP_den]
        · refine ⟨?_, by show h' - l ≤ m - l; omega⟩
          split
          · exact hx1
          · exact addP_ok hx1
      · rw [beq_cond] at h
        split at h
        · rename_i h0
          subst h0
          cases h
          refine ⟨?_, hx1, hA, by omega⟩
          simp only [Instr.sliceAt, Instr.slice, Sem.run_bind, run_underlying hu, Result.andThen_ok, SV.den, Cap.den, hr, szOf_run hz, Sem.run_pure, Nat.zero_mul, Nat.sub_zero]
          split
          · rfl
          · cases p <;> simp [padr, add_lit]
        · rename_i h0
          cases hlt : Nat.blt l n
          · rw [hlt] at h; cases h
          · rw [hlt] at h
            cases h
            have hln : l < n := Nat.le_of_ble_eq_true hlt
            refine ⟨?_, addP_ok hx1, hA, by omega⟩
            simp only [Instr.sliceAt, Instr.slice, Sem.run_bind, run_underlying hu, Result.andThen_ok, SV.den, Cap.den, hr, szOf_run hz, Sem.run_pure]
            rw [if_neg (by omega), addP_den, Nat.sub_sub]
    · cases h
  · rename_i e j hu
    split at h
    · rename_i r sz hb hz
      cases h
      obtain ⟨l, h', m⟩ := r
      obtain ⟨hr, h1, h2, h3⟩ := bndsL_run' (P := P) (I := I) (b := true) (c := (I.esl j).2) hb (Nat.zero_le _) w
      have hl0 : l = 0 := by omega
      have hh0 : h' = 0 := by omega
      subst hl0 hh0
      refine ⟨?_, hx⟩
      simp only [Instr.sliceAt, Instr.slice, Sem.run_bind, run_underlying hu, Result.andThen_ok, SV.den, Option.map_none, szOf_run hz, Sem.run_pure] at hr ⊢
      rw [hr]
      simp only [Result.andThen_ok]
      split
      · rfl
      · cases (I.esl j).1 with
        | none => rfl
        | some a => simp [Addr.add]
    · cases h
  · rename_i n e id off hu
    split at h
    · rename_i l h' m sz hb hz
      cases h
      obtain ⟨hr, h1, h2, h3⟩ := bndsL_run (P := P) (I := I) (b := false) hb (Nat.le_refl _) w
      rw [beq_cond]
      refine ⟨?_, ?_⟩
      · simp only [Instr.sliceAt, Sem.run_bind, run_underlying hu, Result.andThen_ok, SV.den, Cap.den, hr, szOf_run hz, Sem.run_pure, Instr.sureAddr, Option.map_some, padr]
        split <;> simp [add_lit]
      · refine ⟨?_, by show h' - l ≤ m - l; omega⟩
        intro q hq
        cases hq
        split <;> exact hx (id, off) rfl
    · cases h
  · cases h
end
end Go.Ev
/-
  The evaluator: structs and arrays that are built; all operations that touch no memory, in one. No program is named here. No conditions.
-/
namespace Go.Ev
open Go.RowKit Go.Al
set_option linter.unusedVariables false

/-- the cells of a value -/
def cellsS : SV → Option (List SV)
  | .agg l => some l
  | .tup _ => none
  | v => some [v]
/-- a value that lies in one cell, or in several that all do -/
def oneB : SV → Bool
  | .agg _ => false
  | .tup _ => false
  | _ => true
def setR (cells : List SV) (off : Nat) (vs : List SV) : List SV := cells.take off ++ vs ++ cells.drop (off + vs.length)
def fillS (place : Nat → Option (Nat × Nat)) (cells : List SV) : List (Nat × SV) → Option (List SV)
  | [] => some cells
  | (i, v) :: rest => match place i, cellsS v with
    | some (off, size), some vs => cond (Nat.beq vs.length size && Nat.ble (off + size) cells.length) (fillS place (setR cells off vs) rest) none
    | _, _ => none
section
variable {P : Program} {A : Nat → Prop} {I : In}
theorem cells_one (hv : ∀ n, (I.val n).oneCell' = true) {v : SV} (h : oneB v = true) : (v.den I).cells = #[v.den I] ∧ (v.den I).oneCell' = true := by
  cases v <;> first
    | exact ⟨rfl, rfl⟩
    | (simp [oneB] at h; done)
    | skip
  rename_i n
  have := hv n
  simp only [SV.den]
  generalize I.val n = u at *
  cases u <;> first
    | exact ⟨rfl, rfl⟩
    | (simp [Value.oneCell'] at this)
theorem cellsS_den (hv : ∀ n, (I.val n).oneCell' = true) {v : SV} {l : List SV} (h : cellsS v = some l) : (v.den I).cells = (denL I l).toArray ∧ (v.ok A I → okL A I l) := by
  cases hb : oneB v with
  | true =>
    have : l = [v] := by cases v <;> first | (cases h; rfl) | cases hb
    subst this
    exact ⟨(cells_one hv hb).1, fun h => ⟨h, trivial⟩⟩
  | false => cases v <;> first | (cases h; done) | (cases h; exact ⟨rfl, fun h => h⟩) | (cases hb; done)
theorem setR_den (cells : List SV) (off : Nat) (vs : List SV) : denL I (setR cells off vs) = (denL I cells).take off ++ denL I vs ++ (denL I cells).drop (off + vs.length) := by
  simp [setR, denL_append, denL_take, denL_drop]
theorem setR_ok {cells vs : List SV} (off : Nat) (h : okL A I cells) (h' : okL A I vs) : okL A I (setR cells off vs) := ((h.take off).append h').append (h.drop _)
theorem foldl_set (off : Nat) : ∀ (vs : List Value) (i : Nat) (l : List Value), off + i + vs.length ≤ l.length →
    (vs.zipIdx i).foldl (fun (cs : Array Value) (x : Value × Nat) => cs.setIfInBounds (off + x.2) x.1) l.toArray = (l.take (off + i) ++ vs ++ l.drop (off + i + vs.length)).toArray
  | [], i, l, h => by simp
  | v :: vs, i, l, h => by
    simp only [List.length_cons] at h
    simp only [List.zipIdx_cons, List.foldl_cons, List.setIfInBounds_toArray]
    rw [foldl_set off vs (i + 1) (l.set (off + i) v) (by simp; omega)]
    congr 1
    have hlt : off + i < l.length := by omega
    rw [show off + (i + 1) = off + i + 1 by omega]
    rw [List.take_set, List.drop_set]
    rw [if_pos (by omega)]
    rw [show off + i + 1 + vs.length = off + i + (v :: vs).length by simp; omega]
    simp only [List.append_assoc, List.cons_append]
    rw [List.take_succ_eq_append_getElem hlt]
    rw [List.set_append]
    simp [List.length_take, Nat.min_eq_left (Nat.le_of_lt hlt)]
theorem fillS_run (hv : ∀ n, (I.val n).oneCell' = true) {place : Nat → Option (Nat × Nat)} : ∀ {parts : List (Nat × SV)} {cells r : List SV}, fillS place cells parts = some r → okL A I cells → (∀ x ∈ parts, x.2.ok A I) →
    Instr.fill place (denL I cells).toArray (parts.map fun x => (x.1, x.2.den I)) = some (denL I r).toArray ∧ okL A I r
  | [], cells, r, h, hc, _ => by cases h; exact ⟨rfl, hc⟩
  | (i, v) :: rest, cells, r, h, hc, hp => by
    unfold fillS at h
    split at h
    · rename_i off size vs hpl hcs
      cases hb : (Nat.beq vs.length size && Nat.ble (off + size) cells.length)
      · rw [hb] at h; cases h
      · rw [hb] at h
        simp only [Bool.and_eq_true, Nat.beq_eq] at hb
        obtain ⟨h1, h4⟩ := cellsS_den (A := A) hv hcs
        have h2 := hb.1
        have h3 := Nat.le_of_ble_eq_true hb.2
        have ih := fillS_run hv h (setR_ok off hc (h4 (hp _ (List.mem_cons_self ..)))) (fun x hx => hp x (List.mem_cons_of_mem _ hx))
        refine ⟨?_, ih.2⟩
        rw [setR_den] at ih
        simp only [List.map_cons, Instr.fill, hpl, h1]
        rw [if_neg (by simp [h2]; omega)]
        have := foldl_set off (denL I vs) 0 (denL I cells) (by simp; omega)
        simp only [Nat.add_zero, denL_length] at this
        rw [← ih.1]
        congr 1
        rw [← this]
        simp
    · cases h
end
def zeroS (P : Program) (t : TypeId) : Option (List SV) := match P.info? t with
  | some it => match it.zero with
    | some z => mapO (ofV 6) z.cells.toList
    | none => none
  | none => none
def buildS (P : Program) (t : TypeId) (parts : List (Nat × SV)) : Option SV :=
  match P.info? t, P.underlying t with
  | some it, some (.array _ e) => match it.zero, P.info? e with
    | some z, some ie => match mapO (ofV 6) z.cells.toList with
      | some zs => match fillS (fun i => some (i * ie.size, ie.size)) zs parts with
        | some r => some (.agg r)
        | none => none
      | none => none
    | _, _ => none
  | some it, some (.struct fields) => match it.zero, fields.toList.mapM (fun f => (P.info? f.type).map fun i => (f.offset, i.size)) with
    | some z, some places => match mapO (ofV 6) z.cells.toList with
      | some zs => match fillS (places.toArray[·]?) zs parts with
        | some r => some (.agg r)
        | none => none
      | none => none
    | _, _ => none
  | _, _ => none
def partsS (fr : List SV) : List (Nat × Operand) → Option (List (Nat × SV)) := mapO fun x => match opv fr x.2 with
  | some v => some (x.1, v)
  | none => none
section
variable {P : Program} {A : Nat → Prop} {I : In} {fr : List SV} {a : Act}
theorem partsS_den (hf : Fr A I fr a) : ∀ {l : List (Nat × Operand)} {r : List (Nat × SV)}, partsS fr l = some r → (l.map fun x => (x.1, a.eval x.2)) = (r.map fun x => (x.1, x.2.den I)) ∧ ∀ x ∈ r, x.2.ok A I
  | [], r, h => by cases h; exact ⟨rfl, fun x hx => by cases hx⟩
  | x :: l, r, h => by
    obtain ⟨y, m, hy, hm, rfl⟩ := mapO_cons h
    have ih := partsS_den hf hm
    split at hy
    · rename_i v hv
      cases hy
      have := opv_den hf hv
      refine ⟨by simp [this.1, ih.1], fun z hz => ?_⟩
      rcases List.mem_cons.1 hz with rfl | hz
      · exact this.2
      · exact ih.2 z hz
    · cases hy
theorem buildS_run (hv : ∀ n, (I.val n).oneCell' = true) {t : TypeId} {parts : List (Nat × SV)} {s : SV} (h : buildS P t parts = some s) (hp : ∀ x ∈ parts, x.2.ok A I) (pa : Array (Nat × Value)) (hpa : pa.toList = parts.map fun x => (x.1, x.2.den I)) (w : World) :
    (Instr.build t pa).run P w = .ok (s.den I) w ∧ s.ok A I := by
  unfold buildS at h
  split at h
  · rename_i it n e hi hu
    split at h
    · rename_i z ie hz hie
      split at h
      · rename_i zs hzs
        split at h
        · rename_i r hr
          cases h
          have hd := mapO_den (A := A) (I := I) (ofV_den 6) hzs
          have := fillS_run hv hr hd.2 hp
          refine ⟨run_build w t pa _ ?_, this.2⟩
          rw [hd.1, Array.toArray_toList] at this
          simp only [Program.built, hi, hu, hz, hie, hpa]
          exact this.1
        · cases h
      · cases h
    · cases h
  · rename_i it fs hi hu
    split at h
    · rename_i z places hz hpl
      split at h
      · rename_i zs hzs
        split at h
        · rename_i r hr
          cases h
          have hd := mapO_den (A := A) (I := I) (ofV_den 6) hzs
          have := fillS_run hv hr hd.2 hp
          refine ⟨run_build w t pa _ ?_, this.2⟩
          rw [hd.1, Array.toArray_toList] at this
          simp only [Program.built, hi, hu, hz, hpl, hpa]
          exact this.1
        · cases h
      · cases h
    · cases h
  · cases h
end
/-- what touches nothing, at values without names -/
def gen (P : Program) (s : Sem Value) : Option SV := match runP P s with
  | some v => ofV 6 v
  | none => none
theorem gen_run {P : Program} {A : Nat → Prop} {I : In} {s : Sem Value} {v : SV} (h : gen P s = some v) (w : World) : s.run P w = .ok (v.den I) w ∧ v.ok A I := by
  unfold gen at h
  split at h
  · rename_i x hx
    have := ofV_den (A := A) (I := I) 6 _ _ h
    exact ⟨by rw [runP_run hx w, this.1], this.2⟩
  · cases h
end Go.Ev
/-
  The evaluator: all operations that touch no memory, in one. No program is named here. No conditions.
-/
namespace Go.Ev
open Go.RowKit Go.Al
set_option linter.unusedVariables false
set_option linter.unusedSectionVars false
variable [Facts]

def genV (P : Program) (s : Value → Sem Value) (x : SV) : Option SV := match toV x with
  | some v => gen P (s v)
  | none => none
def genV2 (P : Program) (s : Value → Value → Sem Value) (x y : SV) : Option SV := match toV x, toV y with
  | some v, some u => gen P (s v u)
  | _, _ => none
def binS (P : Program) (op : BinOp) (t : TypeId) (xo yo : Operand) (x y : SV) : Option SV :=
  match x, y with
  | .int k a, .int k' b => match cond (decide (k = k')) (ibin op k a b) none with
    | some s => some s
    | none => gen P (do eqGuard op t xo yo (.int k a) (.int k' b); binOp op t (.int k a) (.int k' b))
  | x, y => match genV2 P (fun a b => do eqGuard op t xo yo a b; binOp op t a b) x y with
    | some s => some s
    | none => match op, nilEq P t x y with
      | .eql, some b => some (.bool b)
      | .neq, some b => some (.bool !b)
      | _, _ => none
def keyB : SV → SV → Bool
  | .atom n, .atom m => Nat.beq n m
  | .int k a, .int l b => decide (k = l) && eqI a b
  | _, _ => false
def findF {α : Type} [DecidableEq α] : List (α × SV × SV × SV) → α → SV → SV → Option SV
  | [], _, _, _ => none
  | f :: l, op, x, y => cond (decide (f.1 = op) && keyB f.2.1 x && keyB f.2.2.1 y && plainB f.2.2.2) (some f.2.2.2) (findF l op x y)
theorem keyB_eq {x y : SV} (h : keyB x y = true) : x = y ∧ plainB x = true := by
  unfold keyB at h
  split at h
  · rw [Nat.beq_eq] at h; subst h; exact ⟨rfl, rfl⟩
  · rw [Bool.and_eq_true, decide_eq_true_iff, eqI_eq, beq_iff_eq] at h
    rw [h.1, h.2]
    exact ⟨rfl, rfl⟩
  · cases h
theorem kden_den {x : SV} (h : plainB x = true) (I : In) (A : Nat → Prop) : kden I.val x = x.den I ∧ x.ok A I := by
  unfold plainB at h
  split at h <;> first
    | exact ⟨rfl, trivial⟩
    | cases h
theorem findF_mem {α : Type} [DecidableEq α] {op : α} {x y v : SV} : ∀ {l : List (α × SV × SV × SV)}, findF l op x y = some v → (op, x, y, v) ∈ l ∧ plainB x = true ∧ plainB y = true ∧ plainB v = true
  | [], h => by cases h
  | f :: l, h => by
    unfold findF at h
    cases hb : (decide (f.1 = op) && keyB f.2.1 x && keyB f.2.2.1 y && plainB f.2.2.2)
    · rw [hb] at h
      have := findF_mem (l := l) h
      exact ⟨List.mem_cons_of_mem _ this.1, this.2⟩
    · rw [hb] at h
      simp only [Bool.and_eq_true, decide_eq_true_iff] at hb
      obtain ⟨⟨⟨h1, h2⟩, h3⟩, h4⟩ := hb
      have e2 := keyB_eq h2
      have e3 := keyB_eq h3
      obtain ⟨o, a, b, c⟩ := f
      simp only [cond_true] at h
      cases h
      simp only at h1 h2 h3 h4 e2 e3
      subst h1
      obtain ⟨e2, p2⟩ := e2
      obtain ⟨e3, p3⟩ := e3
      subst e2
      subst e3
      exact ⟨List.mem_cons_self .., p2, p3, h4⟩
def nilCk : SV → Option SV
  | .ptr (some p) => some (.ptr (some p))
  | .func (.func k) f c => some (.func (.func k) f c)
  | .iface t v => some (.iface t v)
  | .slice p n c => some (.slice p n c)
  | .map r => some (.map r)
  | _ => none
def intOf (n : Nat) : SV := .int .i64 (n : Int)
/-- built-in functions that touch nothing -/
def bltS (P : Program) (b : Builtin) (ts : Array TypeId) (ty : TypeId) (cs : Array Bool) (args : List SV) : Option SV :=
  match b, args with
  | .len, [.slice p n c] => match (ts[0]?).bind P.underlying with
    | some (.slice _) => some (intOf n)
    | _ => none
  | .len, [.esl j] => match (ts[0]?).bind P.underlying with
    | some (.slice _) => some (intOf 0)
    | _ => none
  | .cap, [.slice p n (.lit m)] => match (ts[0]?).bind P.underlying with
    | some (.slice _) => some (intOf m)
    | _ => none
  | .len, [.map none] => match (ts[0]?).bind P.underlying with
    | some (.map _ _) => some (intOf 0)
    | _ => none
  | b, args => match toVL args with
    | some vs => match runP P (builtin b ts ty cs vs.toArray) with
      | some (.value v) => ofV 6 v
      | _ => none
    | none => none
def pu (P : Program) (o : Oper) (fr : List SV) : Option SV :=
  match o.op with
  | .move x => opv fr x
  | .assign x => opv fr x
  | .pick c a b => match opv fr c with
    | some (.bool t) => cond t (opv fr a) (opv fr b)
    | _ => none
  | .extract x i => match opv fr x with
    | some (.tup l) => l[i]?
    | _ => none
  | .makeFunc fn f c => match mapO (opv fr) f.toList, mapO (opv fr) c.toList with
    | some f', some c' => some (.func fn f' c')
    | _, _ => none
  | .nilCheck x => match opv fr x with
    | some v => nilCk v
    | none => none
  | .fieldAddr s x f => match opv fr x with
    | some v => fieldS P s v f
    | none => none
  | .field s x f => match opv fr x with
    | some v => fieldV P s v f
    | none => none
  | .indexAddr t x i => match opv fr x, opv fr i with
    | some v, some j => indexS P t v j
    | _, _ => none
  | .index t x i => match opv fr x, opv fr i with
    | some v, some j => indexV P t v j
    | _, _ => none
  | .binOp op t x y _ => match opv fr x, opv fr y with
    | some a, some b => match findF Facts.bin op a b with
      | some v => some v
      | none => binS P op t x y a b
    | _, _ => none
  | .unOp op _ x => match opv fr x with
    | some v => genV P (Op.unary op) v
    | none => none
  | .convert s d x => match opv fr x with
    | some v => genV P (convert s d) v
    | none => none
  | .makeInterface t x => match opv fr x, P.concrete t with
    | some v, true => some (.iface t v)
    | _, _ => none
  | .build t parts => match partsS fr parts.toList with
    | some ps => buildS P t ps
    | none => none
  | .slice t x lo hi mx => match opv fr x, mapO (opv fr) lo.toList, mapO (opv fr) hi.toList, mapO (opv fr) mx.toList with
    | some v, some l, some h, some m => match sliceS P t v l.head? h.head? m.head? with
      | some s => some s
      | none => match toV v, mapO toV l, mapO toV h, mapO toV m with
        | some v', some l', some h', some m' => gen P (Instr.sliceAt t v' l'.head? h'.head? m'.head?)
        | _, _, _, _ => none
    | _, _, _, _ => none
  | .call c => match c.callee with
    | .builtin b => match mapO (opv fr) c.args.toList with
      | some args => match (match args with
          | [x, y] => findF Facts.blt b x y
          | _ => none) with
        | some v => some v
        | none => bltS P b c.argTypes o.type (c.args.map fun | .const _ => true | _ => false) args
      | none => none
    | _ => none
  | _ => none
section
variable {P : Program} {A : Nat → Prop} {I : In} {fr : List SV} {a : Act}
theorem genV_run {s : Value → Sem Value} {x v : SV} (h : genV P s x = some v) (w : World) : (s (x.den I)).run P w = .ok (v.den I) w ∧ v.ok A I := by
  unfold genV at h
  split at h
  · rename_i u hu; rw [toV_den I x u hu]; exact gen_run h w
  · cases h
theorem genV2_run {s : Value → Value → Sem Value} {x y v : SV} (h : genV2 P s x y = some v) (w : World) : (s (x.den I) (y.den I)).run P w = .ok (v.den I) w ∧ v.ok A I := by
  unfold genV2 at h
  split at h
  · rename_i u u' hu hu'; rw [toV_den I x u hu, toV_den I y u' hu']; exact gen_run h w
  · cases h
theorem binS_run {op : BinOp} {t : TypeId} {xo yo : Operand} {x y v : SV} (h : binS P op t xo yo x y = some v) (w : World) :
    (do eqGuard op t xo yo (x.den I) (y.den I); binOp op t (x.den I) (y.den I) : Sem Value).run P w = .ok (v.den I) w ∧ v.ok A I := by
  unfold binS at h
  split at h
  · rename_i k a k' b
    split at h
    · rename_i s hs
      cases h
      by_cases hk : k = k'
      · subst hk
        simp only [decide_true, cond_true] at hs
        exact ibin_run hs t xo yo w
      · simp [hk] at hs
    · exact gen_run h w
  · split at h
    · rename_i hs
      cases h
      exact genV2_run hs w
    · split at h
      · cases h
        exact ⟨(nilEq_run (by assumption) w xo yo).1, trivial⟩
      · cases h
        exact ⟨(nilEq_run (by assumption) w xo yo).2, trivial⟩
      · cases h
theorem opvL_den (hf : Fr A I fr a) : ∀ {l : List Operand} {r : List SV}, mapO (opv fr) l = some r → l.map a.eval = denL I r ∧ okL A I r
  | [], r, h => by cases h; exact ⟨rfl, trivial⟩
  | x :: l, r, h => by
    obtain ⟨y, m, hy, hm, rfl⟩ := mapO_cons h
    have h1 := opv_den hf hy
    have h2 := opvL_den hf hm
    exact ⟨by simp only [List.map_cons, denL, h1.1, h2.1], h1.2, h2.2⟩
theorem opvO_den (hf : Fr A I fr a) {x : Option Operand} {r : List SV} (h : mapO (opv fr) x.toList = some r) : x.map a.eval = r.head?.map (SV.den I) ∧ ∀ v, r.head? = some v → v.ok A I := by
  cases x with
  | none => cases h; exact ⟨rfl, fun v hv => by cases hv⟩
  | some y =>
    obtain ⟨z, m, hz, hm, rfl⟩ := mapO_cons h
    have := opv_den hf hz
    exact ⟨by simp [this.1], fun v hv => by cases hv; exact this.2⟩
theorem toVO_den {x : List SV} {r : List Value} (h : mapO toV x = some r) (hl : x.length ≤ 1) : x.head?.map (SV.den I) = r.head? := by
  cases x with
  | nil => cases h; rfl
  | cons y x =>
    obtain ⟨z, m, hz, hm, rfl⟩ := mapO_cons h
    simp [toV_den I _ _ hz]
theorem nilCk_run {x v : SV} (h : nilCk x = some v) (o : Oper) (y : Operand) (ρ : Operand → Value) (hy : ρ y = x.den I) (ho : o.op = .nilCheck y) (hx : x.ok A I) (w : World) : (execOp ρ o).run P w = .ok (.value (v.den I)) w ∧ v.ok A I := by
  unfold nilCk at h
  unfold execOp
  simp only [ho, hy]
  split at h <;> first
    | (cases h; exact ⟨rfl, hx⟩)
    | cases h
theorem bltS_run {b : Builtin} {ts : Array TypeId} {ty : TypeId} {cs : Array Bool} {args : List SV} {v : SV} (h : bltS P b ts ty cs args = some v) (w : World) :
    (builtin b ts ty cs (denL I args).toArray).run P w = .ok (.value (v.den I)) w ∧ v.ok A I := by
  unfold bltS at h
  split at h
  · rename_i p n c
    split at h
    · rename_i e he
      cases h
      obtain ⟨t, ht, hu⟩ := Option.bind_eq_some_iff.1 he
      exact ⟨by simp [builtin, Builtin.len_, ht, denL, SV.den, run_underlying hu, intOf, goInt], trivial⟩
    · cases h
  · split at h
    · rename_i e he
      cases h
      obtain ⟨t, ht, hu⟩ := Option.bind_eq_some_iff.1 he
      exact ⟨by simp [builtin, Builtin.len_, ht, denL, SV.den, run_underlying hu, intOf, goInt], trivial⟩
    · cases h
  · split at h
    · rename_i e he
      cases h
      obtain ⟨t, ht, hu⟩ := Option.bind_eq_some_iff.1 he
      exact ⟨by simp [builtin, Builtin.cap_, ht, denL, SV.den, Cap.den, run_underlying hu, intOf, goInt], trivial⟩
    · cases h
  · split at h
    · rename_i e e2 he
      cases h
      obtain ⟨t, ht, hu⟩ := Option.bind_eq_some_iff.1 he
      exact ⟨by simp [builtin, Builtin.len_, ht, denL, SV.den, run_underlying hu, intOf, goInt], trivial⟩
    · cases h
  · split at h
    · rename_i vs hvs
      split at h
      · rename_i x hx
        have := ofV_den (A := A) (I := I) 6 _ _ h
        rw [toVL_den I _ _ hvs]
        exact ⟨by rw [runP_run hx w, this.1], this.2⟩
      · cases h
    · cases h
theorem pu_run (hv : ValOk P I.val) {o : Oper} {v : SV} (hf : Fr A I fr a) (h : pu P o fr = some v) (w : World) : (execOp a.eval o).run P w = .ok (.value (v.den I)) w ∧ v.ok A I := by
  unfold pu at h
  split at h
  case h_1 x ho => have := opv_den hf h; exact ⟨by simp [execOp, ho, this.1], this.2⟩
  case h_2 x ho => have := opv_den hf h; exact ⟨by simp [execOp, ho, this.1], this.2⟩
  case h_3 c x y ho =>
    split at h
    · rename_i t ht
      have hc := (opv_den hf ht).1
      cases t
      · have := opv_den hf h; exact ⟨by simp [execOp, ho, hc, SV.den, asBool, this.1], this.2⟩
      · have := opv_den hf h; exact ⟨by simp [execOp, ho, hc, SV.den, asBool, this.1], this.2⟩
    · cases h
  case h_4 x i ho =>
    split at h
    · rename_i l hl
      have := opv_den hf hl
      refine ⟨?_, okL.get this.2 h⟩
      simp [execOp, ho, this.1, SV.den, Instr.extract, denL_get, h]
    · cases h
  case h_5 fn f c ho =>
    split at h
    · rename_i f' c' h1 h2
      cases h
      have a1 := opvL_den hf h1
      have a2 := opvL_den hf h2
      refine ⟨?_, a1.2, a2.2⟩
      have e1 : f.map a.eval = (denL I f').toArray := by rw [← a1.1, ← Array.toList_map, Array.toArray_toList]
      have e2 : c.map a.eval = (denL I c').toArray := by rw [← a2.1, ← Array.toList_map, Array.toArray_toList]
      simp [execOp, ho, e1, e2, SV.den, Instr.makeFunc]
    · cases h
  case h_6 x ho =>
    split at h
    · rename_i y hy
      have := opv_den hf hy
      exact nilCk_run h o x a.eval this.1 ho this.2 w
    · cases h
  case h_7 s x f ho =>
    split at h
    · rename_i y hy
      have := opv_den hf hy
      have r := fieldS_run h this.2 w
      exact ⟨by simp [execOp, ho, this.1, r.1], r.2⟩
    · cases h
  case h_8 s x f ho =>
    split at h
    · rename_i y hy
      have := opv_den hf hy
      have r := fieldV_run h this.2 w
      exact ⟨by simp [execOp, ho, this.1, r.1], r.2⟩
    · cases h
  case h_9 t x i ho =>
    split at h
    · rename_i y j hy hj
      have h1 := opv_den hf hy
      have h2 := opv_den hf hj
      have r := indexS_run h h1.2 w
      exact ⟨by simp [execOp, ho, h1.1, h2.1, r.1], r.2⟩
    · cases h
  case h_10 t x i ho =>
    split at h
    · rename_i y j hy hj
      have h1 := opv_den hf hy
      have h2 := opv_den hf hj
      have r := indexV_run h h1.2 w
      exact ⟨by simp [execOp, ho, h1.1, h2.1, r.1], r.2⟩
    · cases h
  case h_11 op t x y ty ho =>
    split at h
    · rename_i u u' hu hu'
      have h1 := opv_den hf hu
      have h2 := opv_den hf hu'
      have r : (do eqGuard op t x y (u.den I) (u'.den I); binOp op t (u.den I) (u'.den I) : Sem Value).run P w = .ok (v.den I) w ∧ v.ok A I := by
        split at h
        · rename_i v' hv'
          cases h
          obtain ⟨m1, m2, m3, m4⟩ := findF_mem hv'
          have := hv.bin _ m1 t x y w
          simp only [(kden_den m2 I A).1, (kden_den m3 I A).1, (kden_den m4 I A).1] at this
          exact ⟨this, (kden_den m4 I A).2⟩
        · exact binS_run (A := A) (I := I) h w
      refine ⟨?_, r.2⟩
      simp only [execOp, ho, h1.1, h2.1]
      rw [Sem.run_bind, r.1]
      rfl
    · cases h
  case h_12 op t x ho =>
    split at h
    · rename_i y hy
      have := opv_den hf hy
      have r := genV_run (A := A) (I := I) h w
      exact ⟨by simp [execOp, ho, this.1, r.1], r.2⟩
    · cases h
  case h_13 s d x ho =>
    split at h
    · rename_i y hy
      have := opv_den hf hy
      have r := genV_run (A := A) (I := I) h w
      exact ⟨by simp [execOp, ho, this.1, r.1], r.2⟩
    · cases h
  case h_14 t x ho =>
    split at h
    · rename_i y hy hc
      cases h
      have := opv_den hf hy
      exact ⟨by simp [execOp, ho, this.1, run_makeInterface w t _ hc, SV.den], this.2⟩
    · cases h
  case h_15 t parts ho =>
    split at h
    · rename_i ps hps
      have h1 := partsS_den hf hps
      have r := buildS_run hv.one h h1.2 (parts.map fun x => (x.1, a.eval x.2)) (by rw [Array.toList_map]; exact h1.1) w
      refine ⟨?_, r.2⟩
      simp only [execOp, ho]
      rw [Sem.run_bind, r.1]
      rfl
    · cases h
  case h_16 t x lo hi mx ho =>
    split at h
    · rename_i y l h' m hy hl hh hm
      have h1 := opv_den hf hy
      have e1 := opvO_den hf hl
      have e2 := opvO_den hf hh
      have e3 := opvO_den hf hm
      split at h
      · rename_i s hs
        cases h
        have r := sliceS_run hs h1.2 w
        refine ⟨?_, r.2⟩
        simp only [execOp, ho, h1.1, e1.1, e2.1, e3.1]
        rw [Sem.run_bind, r.1]
        rfl
      · split at h
        · rename_i v' l' h'' m' q1 q2 q3 q4
          have r := gen_run (A := A) (I := I) h w
          have len : ∀ {x : Option Operand} {r : List SV}, mapO (opv fr) x.toList = some r → r.length ≤ 1 := fun {x r} he => by rw [mapO_length he]; cases x <;> simp
          refine ⟨?_, r.2⟩
          simp only [execOp, ho, h1.1, e1.1, e2.1, e3.1, toV_den I _ _ q1, toVO_den (I := I) q2 (len hl), toVO_den (I := I) q3 (len hh), toVO_den (I := I) q4 (len hm)]
          rw [Sem.run_bind, r.1]
          rfl
        · cases h
    · cases h
  case h_17 c ho =>
    split at h
    · rename_i b hb
      split at h
      · rename_i args hargs
        have h1 := opvL_den hf hargs
        have e1 : c.args.map a.eval = (denL I args).toArray := by rw [← h1.1, ← Array.toList_map, Array.toArray_toList]
        have r : (builtin b c.argTypes o.type (c.args.map fun | .const _ => true | _ => false) (denL I args).toArray).run P w = .ok (.value (v.den I)) w ∧ v.ok A I := by
          split at h
          · rename_i v' hv'
            cases h
            split at hv'
            · rename_i x y
              obtain ⟨m1, m2, m3, m4⟩ := findF_mem hv'
              have := hv.blt _ m1 c.argTypes o.type (c.args.map fun | .const _ => true | _ => false) w
              simp only [(kden_den m2 I A).1, (kden_den m3 I A).1, (kden_den m4 I A).1] at this
              exact ⟨this, (kden_den m4 I A).2⟩
            · cases hv'
          · exact bltS_run (A := A) (I := I) h w
        refine ⟨?_, r.2⟩
        simp only [execOp, ho, resolve, hb, Sem.run_bind, Sem.run_pure, Result.andThen_ok, invoke, e1]
        exact r.1
      · cases h
    · cases h
  case h_18 => cases h
end
end Go.Ev
