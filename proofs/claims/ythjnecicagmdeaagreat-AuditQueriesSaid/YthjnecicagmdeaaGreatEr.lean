/-
  The evaluator: rows of numbers that are as long as a term says: read, cut, appended to. No program is named here. No conditions.
-/
import Derived.Test.YthjnecicagmdeaaGreatEb
namespace Go.E2
open Go.RowKit Go.Al
set_option linter.unusedVariables false
set_option linter.unusedSectionVars false
variable [Th] [Facts]

def killL : List Nat → List (Nat × SO) → List (Nat × SO)
  | [], H => H
  | id :: l, H => killL l (del H id)
theorem look_killL (k : Nat) : ∀ (l : List Nat) (H : List (Nat × SO)), look (killL l H) k = if k ∈ l then none else look H k
  | [], H => by simp [killL]
  | id :: l, H => by
    rw [killL, look_killL k l, look_del]
    by_cases h1 : k ∈ l
    · simp [h1]
    · by_cases h2 : id = k
      · simp [h1, h2]
      · simp [h1, h2, Ne.symm h2]
/-- terms of a row of numbers -/
def tmL : List SV → Option (List Tm) := mapO tmI
theorem tmL_den {I : In} : ∀ {l : List SV} {r : List Tm}, tmL l = some r → denL I l = (tdenL I.val.r r).map fun d => Value.int .i64 (Th.toI d)
  | [], r, h => by cases h; rfl
  | x :: l, r, h => by
    obtain ⟨y, m, hy, hm, rfl⟩ := mapO_cons h
    simp only [denL, tmI_den hy, tmL_den hm, tdenL, List.map_cons]
section
variable {P : Program} {A : Nat → Prop} {I : In} {st : St} {w w' : World}
theorem In.putE_ext (n : Nat) (x : EX) (i : Nat) (h : i < n ∨ n + 1 ≤ i) : (I.putE n x).adr i = I.adr i ∧ (I.putE n x).cap i = I.cap i ∧ (I.putE n x).esl i = I.esl i := by
  have : ¬ i = n := by omega
  simp [In.putE, this]
/-- parts of memory that turn into one other -/
theorem Mv.turn (hok : Ok P A I st w) {ks : List Nat} {c : Nat} {t : Tm} (x : EX) (hks : ∀ k ∈ ks, look st.H k ≠ none) (hc : Chg (fun b => ∃ k ∈ ks, (I.esl k).fp b) w w')
    (hr : Th.holds c x.rt.1 (t.den I.val.r) x.fp w') (hfp : ∀ b, x.fp b → w.heap.size ≤ b ∨ ∃ k ∈ ks, (I.esl k).fp b) :
    Mv P A I st w (I.putE st.nx x) ⟨ins (killL ks st.H) st.nx (.blob c t), st.nx + 1, ks ++ st.wr⟩ w' := by
  have hagr := In.putE_agr hok x
  have hlk : ∀ k, look (ins (killL ks st.H) st.nx (.blob c t)) k = if st.nx = k then some (.blob c t) else if k ∈ ks then none else look st.H k := fun k => by rw [look_ins, look_killL]
  have hself : (I.putE st.nx x).esl st.nx = x := by simp [In.putE]
  have hesl : ∀ k, look st.H k ≠ none → (I.putE st.nx x).esl k = I.esl k := fun k h => (In.putE_ext _ _ k (.inl (hok.live_lt h))).2.2
  have key : ∀ k, look (ins (killL ks st.H) st.nx (.blob c t)) k ≠ none → (k = st.nx) ∨ (¬ st.nx = k ∧ k ∉ ks ∧ look st.H k ≠ none) := fun k h => by
    rw [hlk] at h
    by_cases e : st.nx = k
    · exact .inl e.symm
    · rw [if_neg e] at h
      split at h
      · exact absurd rfl h
      · rename_i e2
        exact .inr ⟨e, e2, h⟩
  refine ⟨Nat.le_succ _, fun i hi => In.putE_ext _ _ i hi, rfl, hc.mono fun k _ ⟨j, h1, h2⟩ => ⟨j, hks j h1, h2⟩, fun k hk hw => ?_, fun k hk => List.mem_append_right _ hk, fun k hk h b hb => ?_, fun k hk h0 => ?_, ⟨fun i hi => ?_, fun k o ho => ?_, fun k o ho => ?_, fun k k' h1 h2 b hb1 hb2 => ?_, hok.val⟩, fun b hb hn => hc.block b hb fun ⟨j, h1, h2⟩ => hn j (List.mem_append_left _ h1) (hks j h1) h2⟩
  · show look (ins (killL ks st.H) st.nx (.blob c t)) k = _
    rw [hlk, if_neg (by omega), if_neg (fun e => hw (List.mem_append_left _ e))]
  · rcases key k h with rfl | ⟨e, e2, e3⟩
    · rw [hself] at hb
      rcases hfp b hb with h1 | ⟨j, h1, h2⟩
      · exact .inl h1
      · refine .inr ⟨j, hks j h1, ?_, h2⟩
        show look (ins (killL ks st.H) st.nx (.blob c t)) j = none
        have := hok.live_lt (hks j h1)
        rw [hlk, if_neg (by omega), if_pos h1]
    · exact absurd (hok.live_lt e3) (by omega)
  · show look (ins (killL ks st.H) st.nx (.blob c t)) k = none
    rw [hlk, if_neg (by omega), h0]
    simp
  · exact hi.elim (fun h => Nat.lt_succ_of_lt (hok.lt i h)) fun h => h.2
  · have ho : look (ins (killL ks st.H) st.nx (.blob c t)) k = some o := ho
    rcases key k (by rw [ho]; simp) with rfl | ⟨e, e2, e3⟩
    · rw [hlk, if_pos rfl] at ho
      cases ho
      exact ⟨up_succ _, trivial⟩
    · rw [hlk, if_neg e, if_neg e2] at ho
      obtain ⟨h1, h2⟩ := hok.key k o ho
      exact ⟨.inl h1, SO.ok_mono (fun i hi => .inl hi) (SO.ok_agr hagr h2)⟩
  · have ho : look (ins (killL ks st.H) st.nx (.blob c t)) k = some o := ho
    rcases key k (by rw [ho]; simp) with rfl | ⟨e, e2, e3⟩
    · rw [hlk, if_pos rfl] at ho
      cases ho
      simp only [RealW, hself]
      exact hr
    · rw [hlk, if_neg e, if_neg e2] at ho
      refine RealW.agr hagr (hok.key k o ho).1 (hok.key k o ho).2 ((hok.real k o ho).frame fun b hb => hc.block _ ((hok.real k o ho).lt b hb) ?_)
      rintro ⟨j, h1, h2⟩
      have := hok.inj j k (hks j h1) e3 b h2 hb
      subst this
      exact e2 h1
  · have mix : ∀ k', ¬ st.nx = k' → k' ∉ ks → look st.H k' ≠ none → ((I.putE st.nx x).esl st.nx).fp b → ((I.putE st.nx x).esl k').fp b → False := fun k' e e2 e3 g1 g2 => by
      rw [hself] at g1
      rw [hesl k' e3] at g2
      rcases hfp b g1 with h1 | ⟨j, h1, h2⟩
      · have := hok.fp_lt e3 g2
        omega
      · have := hok.inj j k' (hks j h1) e3 b h2 g2
        subst this
        exact e2 h1
    rcases key k h1 with rfl | ⟨a1, a2, a3⟩ <;> rcases key k' h2 with rfl | ⟨b1, b2, b3⟩
    · rfl
    · exact (mix k' b1 b2 b3 hb1 hb2).elim
    · exact (mix k a1 a2 a3 hb2 hb1).elim
    · rw [hesl k a3] at hb1
      rw [hesl k' b3] at hb2
      exact hok.inj k k' a3 b3 b hb1 hb2
/-- a part of memory is told of otherwise, where it was -/
theorem Mv.alter (hok : Ok P A I st w) {k : Nat} {o : SO} {c : Nat} {t : Tm} (hl : look st.H k = some o) (hc : Chg (I.esl k).fp w w') (hr : Th.holds c (I.esl k).rt.1 (t.den I.val.r) (I.esl k).fp w') :
    Mv P A I st w I ⟨ins st.H k (.blob c t), st.nx, k :: st.wr⟩ w' := by
  have hlk : ∀ j, look (ins st.H k (.blob c t)) j = if k = j then some (.blob c t) else look st.H j := fun j => look_ins _ _ _ _
  have hlive : ∀ j, look (ins st.H k (.blob c t)) j ≠ none → look st.H j ≠ none := fun j h => by
    rw [hlk] at h
    by_cases e : k = j
    · subst e; rw [hl]; simp
    · rwa [if_neg e] at h
  refine ⟨Nat.le_refl _, fun _ _ => ⟨rfl, rfl, rfl⟩, rfl, hc.mono fun b _ e => ⟨k, by rw [hl]; simp, e⟩, fun j hj hw => ?_, fun j hj => List.mem_cons_of_mem _ hj, fun j hj h _ _ => absurd (hok.live_lt (hlive j h)) (by omega), fun j hj h0 => ?_, ⟨fun i hi => ?_, fun j o ho => ?_, fun j o ho => ?_, fun j j' h1 h2 he => hok.inj _ _ (hlive _ h1) (hlive _ h2) he, hok.val⟩, fun b hb hn => hc.block b hb fun e => hn k (List.mem_cons_self ..) (by rw [hl]; simp) e⟩
  · show look (ins st.H k (.blob c t)) j = _
    rw [hlk, if_neg (fun e => hw (by subst e; exact List.mem_cons_self ..))]
  · show look (ins st.H k (.blob c t)) j = _
    rw [hlk]
    split
    · rename_i e; subst e; rw [hl] at h0; cases h0
    · exact h0
  · exact hi.elim (hok.lt i) fun h => h.2
  · have ho : look (ins st.H k (.blob c t)) j = some o := ho
    rw [hlk] at ho
    by_cases e : k = j
    · rw [if_pos e] at ho
      cases ho
      exact ⟨.inl (e ▸ (hok.key k _ hl).1), trivial⟩
    · rw [if_neg e] at ho
      exact ⟨.inl (hok.key j o ho).1, SO.ok_mono (fun i hi => .inl hi) (hok.key j o ho).2⟩
  · have ho : look (ins st.H k (.blob c t)) j = some o := ho
    rw [hlk] at ho
    by_cases e : k = j
    · rw [if_pos e] at ho
      cases ho
      subst e
      exact hr
    · rw [if_neg e] at ho
      refine (hok.real j o ho).frame fun b hb => hc.block _ ((hok.real j o ho).lt b hb) fun e2 => e (hok.inj _ _ (by rw [hl]; simp) (by rw [ho]; simp) b e2 hb)
end

/-! ### rows of numbers -/
theorem cellsR_nil : cellsR [] = [] := rfl
theorem cellsR_cons (l : List Int) (L : List (List Int)) : cellsR (l :: L) = l.map (Value.int .i64) ++ cellsR L := by simp [cellsR]
theorem cellsR_append (L M : List (List Int)) : cellsR (L ++ M) = cellsR L ++ cellsR M := by simp [cellsR]
theorem cellsR_length {sz : Nat} : ∀ {L : List (List Int)}, (∀ l ∈ L, l.length = sz) → (cellsR L).length = L.length * sz
  | [], _ => by simp [cellsR]
  | l :: L, h => by
    rw [cellsR_cons, List.length_append, List.length_map, h l (List.mem_cons_self ..), cellsR_length fun m hm => h m (List.mem_cons_of_mem _ hm), List.length_cons, Nat.succ_mul, Nat.add_comm]
theorem cellsR_one (L : List (List Int)) : ∀ u ∈ cellsR L, u.oneCell' = true := by
  intro u hu
  simp only [cellsR, List.mem_flatMap, List.mem_map] at hu
  obtain ⟨l, _, z, _, rfl⟩ := hu
  rfl
theorem cellsR_get {sz : Nat} : ∀ {L : List (List Int)} {i q : Nat}, (∀ l ∈ L, l.length = sz) → i < L.length → q < sz → (cellsR L)[i * sz + q]? = some (.int .i64 (((L[i]?).bind fun l => l[q]?).getD 0))
  | l :: L, 0, q, h, _, hq => by
    have hl := h l (List.mem_cons_self ..)
    rw [cellsR_cons, Nat.zero_mul, Nat.zero_add, List.getElem?_append_left (by simpa [hl] using hq), List.getElem?_map, List.getElem?_eq_getElem (by rw [hl]; exact hq)]
    simp [List.getElem?_eq_getElem (show q < l.length by rw [hl]; exact hq)]
  | l :: L, i + 1, q, h, hi, hq => by
    have hl := h l (List.mem_cons_self ..)
    rw [cellsR_cons, List.getElem?_append_right (by rw [List.length_map, hl, Nat.succ_mul]; omega), List.length_map, hl, show (i + 1) * sz + q - sz = i * sz + q by rw [Nat.succ_mul]; omega]
    rw [cellsR_get (fun m hm => h m (List.mem_cons_of_mem _ hm)) (by simpa using hi) hq]
    simp
theorem cellsR_drop {sz : Nat} : ∀ {L : List (List Int)} {o : Nat}, (∀ l ∈ L, l.length = sz) → (cellsR L).drop (o * sz) = cellsR (L.drop o)
  | L, 0, _ => by simp
  | [], o + 1, _ => by simp [cellsR]
  | l :: L, o + 1, h => by
    have hl := h l (List.mem_cons_self ..)
    rw [cellsR_cons, List.drop_succ_cons, ← cellsR_drop (L := L) (fun m hm => h m (List.mem_cons_of_mem _ hm)), List.drop_append, List.drop_of_length_le (by rw [List.length_map, hl, Nat.succ_mul]; omega), List.nil_append, List.length_map, hl, show (o + 1) * sz - sz = o * sz by rw [Nat.succ_mul]; omega]
theorem cellsR_take {sz : Nat} : ∀ {L : List (List Int)} {n : Nat}, (∀ l ∈ L, l.length = sz) → (cellsR L).take (n * sz) = cellsR (L.take n)
  | L, 0, _ => by simp [cellsR]
  | [], n + 1, _ => by simp [cellsR]
  | l :: L, n + 1, h => by
    have hl := h l (List.mem_cons_self ..)
    rw [cellsR_cons, List.take_succ_cons, cellsR_cons, ← cellsR_take (L := L) (fun m hm => h m (List.mem_cons_of_mem _ hm)), List.take_append, List.take_of_length_le (by rw [List.length_map, hl, Nat.succ_mul]; omega), List.length_map, hl, show (n + 1) * sz - sz = n * sz by rw [Nat.succ_mul]; omega]
theorem RowAt.base {e : TypeId} {sz : Nat} {own : Bool} {r : Value} {L : List (List Int)} {fp : Nat → Prop} {w : World} (h : RowAt e sz own r L fp w) {i : Nat} (hi : i < L.length) :
    ∃ b off k, r = .slice (some ⟨b, off, none⟩) L.length k ∧ L.length ≤ k ∧ k ≤ maxLen ∧ ∀ j q, j < L.length → q < sz → w.cell? ⟨b, off + (j * sz + q), none⟩ = some (.int .i64 (((L[j]?).bind fun l => l[q]?).getD 0)) := by
  obtain ⟨h0, hl, A, k, h1, h2, h3, h4, h5, h6, h7⟩ := h
  have hlen := cellsR_length hl
  have hne : cellsR L ≠ [] := fun e => by
    rw [e] at hlen
    have : 0 < L.length * sz := Nat.mul_pos (by omega) h0
    simp at hlen
    omega
  obtain ⟨b, off, rfl, hc⟩ := h4 hne
  exact ⟨b, off, k, h1, h2, h3, fun j q hj hq => hc _ _ (cellsR_get hl hj hq)⟩
/-- a truth that is known -/
def decB : Tm → Option Bool
  | .app 3 [.lit a, .lit b] => some (ltI a b)
  | t => decY Facts.dec t
theorem decY_den {P : Program} {I : In} (hv : ValOk P I.val) {t : Tm} {b : Bool} (h : decY Facts.dec t = some b) : Th.toB (t.den I.val.r) = b := by
  unfold decY at h
  split at h
  · rename_i hd
    cases h
    exact hv.dec _ (decT_mem hd)
  · exact decX_spec hv.dec h
theorem decB_den {P : Program} {I : In} (hv : ValOk P I.val) {t : Tm} {b : Bool} (h : decB t = some b) : Th.toB (t.den I.val.r) = b := by
  unfold decB at h
  split at h
  · cases h
    simp only [Tm.den, tdenL, Th.lss_, Th.ofI_, ltI_eq]
  · exact decY_den hv h
def isT : Option Bool → Bool
  | some true => true
  | _ => false
def isF : Option Bool → Bool
  | some false => true
  | _ => false
theorem isT_eq {o : Option Bool} (h : isT o = true) : o = some true := by
  match o, h with
  | some true, _ => rfl
theorem isF_eq {o : Option Bool} (h : isF o = true) : o = some false := by
  match o, h with
  | some false, _ => rfl
/-- a number is not above another one -/
def leB (a b : Tm) : Bool := a.eqb b || isF (decB (.app 3 [b, a]))
def ltB (a b : Tm) : Bool := isT (decB (.app 3 [a, b]))
def bigT : Tm := .lit 1073741824
theorem leB_den {P : Program} {I : In} (hv : ValOk P I.val) {a b : Tm} (h : leB a b = true) : Th.toI (a.den I.val.r) ≤ Th.toI (b.den I.val.r) := by
  unfold leB at h
  rw [Bool.or_eq_true] at h
  rcases h with h | h
  · rw [eqb_eq _ _ h]; exact Int.le_refl _
  · have := decB_den hv (isF_eq h)
    simp only [Tm.den, tdenL, Th.lss_, decide_eq_false_iff_not] at this
    omega
theorem ltB_den {P : Program} {I : In} (hv : ValOk P I.val) {a b : Tm} (h : ltB a b = true) : Th.toI (a.den I.val.r) < Th.toI (b.den I.val.r) := by
  have := decB_den hv (isT_eq h)
  simpa only [Tm.den, tdenL, Th.lss_, decide_eq_true_eq] using this
theorem zero_den (r : Nat → Th.D) : Th.toI ((Tm.lit 0).den r) = 0 := by simp only [Tm.den, Th.ofI_]
/-- a sum, a difference, where nothing is added, taken -/
def addT (o i : Tm) : Tm := cond (o.eqb (.lit 0)) i (.app 0 [o, i])
def subT (h l : Tm) : Tm := cond (l.eqb (.lit 0)) h (.app 1 [h, l])
theorem addT_den (r : Nat → Th.D) {o i : Tm} (h0 : 0 ≤ Th.toI (o.den r)) (h1 : 0 ≤ Th.toI (i.den r)) (h2 : Th.toI (o.den r) + Th.toI (i.den r) ≤ maxLen) : Th.toI ((addT o i).den r) = Th.toI (o.den r) + Th.toI (i.den r) := by
  unfold addT
  cases hb : o.eqb (.lit 0)
  · simp only [cond_false, Tm.den, tdenL, Th.add_]
    exact IntWalk.i64_in _ (by unfold maxLen at h2; omega)
  · rw [cond_true, eqb_eq _ _ hb, zero_den]
    omega
theorem subT_den (r : Nat → Th.D) {h l : Tm} (h0 : 0 ≤ Th.toI (l.den r)) (h1 : Th.toI (l.den r) ≤ Th.toI (h.den r)) (h2 : Th.toI (h.den r) ≤ maxLen) : Th.toI ((subT h l).den r) = Th.toI (h.den r) - Th.toI (l.den r) := by
  unfold subT
  cases hb : l.eqb (.lit 0)
  · simp only [cond_false, Tm.den, tdenL, Th.sub_]
    exact IntWalk.i64_in _ (by unfold maxLen at h2; omega)
  · rw [cond_true, eqb_eq _ _ hb, zero_den]
    omega
/-- a row that a name stands for -/
def rowJ (st : St) (j : Nat) : Option (TypeId × Nat × Bool × Nat × Tm) := match look st.H j with
  | some (.blob c t) => match Th.rowc c with
    | some x => some (x.1, x.2.1, x.2.2, c, t)
    | none => none
  | _ => none
def slTyB (P : Program) (t e : TypeId) (sz : Nat) : Bool := match P.underlying t, P.info? e with
  | some (.slice e'), some i => Nat.beq e e' && Nat.beq i.size sz && Nat.blt 0 sz && Nat.ble i.bytes 65536 && (match i.zero with
    | some z => Nat.beq z.cells.size sz
    | none => false)
  | _, _ => false
theorem slTyB_spec {P : Program} {t e : TypeId} {sz : Nat} (h : slTyB P t e sz = true) : ∃ bytes, SlTy P t e sz bytes ∧ bytes ≤ 65536 ∧ szOf P e = some sz ∧ P.underlying t = some (.slice e) := by
  unfold slTyB at h
  split at h
  · rename_i e' i hu hi
    simp only [Bool.and_eq_true, Nat.beq_eq] at h
    obtain ⟨⟨⟨⟨rfl, h1⟩, h2⟩, h3⟩, h4⟩ := h
    split at h4
    · rename_i z hz
      rw [Nat.beq_eq] at h4
      refine ⟨i.bytes, ⟨hu, ⟨i, z, hi, hz, h1, rfl, h4⟩, Nat.le_of_ble_eq_true h2⟩, Nat.le_of_ble_eq_true h3, ?_, hu⟩
      unfold szOf
      rw [hi, ← h1]
    · cases h4
  · cases h
/-- a number that is known -/
def findLit : List (Tm × Bool) → Tm → Option Int
  | [], _ => none
  | f :: l, t => match f with
    | (.app 4 [u, .lit k], true) => cond (u.eqb t) (some k) (findLit l t)
    | _ => findLit l t
theorem findLit_spec {r : Nat → Th.D} {t : Tm} {k : Int} : ∀ {l : List (Tm × Bool)}, findLit l t = some k → (∀ f ∈ l, Th.toB (f.1.den r) = f.2) → Th.toI (t.den r) = k
  | [], h, _ => by cases h
  | f :: l, h, hl => by
    have tl : findLit l t = some k → Th.toI (t.den r) = k := fun h => findLit_spec (l := l) h fun g hg => hl g (List.mem_cons_of_mem _ hg)
    unfold findLit at h
    split at h
    · rename_i u z
      have h0 := hl _ (List.mem_cons_self ..)
      cases hb : u.eqb t
      · rw [hb] at h; exact tl h
      · rw [hb] at h
        cases h
        simp only [Tm.den, tdenL, Th.eql_, Th.ofI_, decide_eq_true_eq] at h0
        rw [← eqb_eq _ _ hb]
        exact h0
    · exact tl h
def litOf (v : SV) : Option SV := match v with
  | .ix t => (findLit Facts.dec t).map (.int .i64)
  | _ => none
theorem litOf_den {P : Program} {I : In} (hv : ValOk P I.val) {v v' : SV} (h : litOf v = some v') : v'.den I = v.den I := by
  unfold litOf at h
  split at h
  · obtain ⟨k, hk, rfl⟩ := Option.map_eq_some_iff.1 h
    have := findLit_spec (r := I.val.r) hk hv.dec
    simp only [SV.den, this]
  · cases h
def idxR (P : Program) (st : St) (ty : TypeId) (x ix : SV) : Option SV := match tmI ix with
  | some i => match x with
    | .ptr p => match litOf ix with
      | some v => indexS P ty (.ptr p) v
      | none => none
    | .root j => match rowJ st j with
      | some (e, sz, _, _, t) => cond (slTyB P ty e sz && leB (.lit 0) i && ltB i (.app 12 [t])) (some (.pel j sz i 0)) none
      | none => none
    | .vw j sz o n => match rowJ st j with
      | some (e, sz', _, _, _) => cond (slTyB P ty e sz && Nat.beq sz sz' && leB (.lit 0) i && ltB i n) (some (.pel j sz (addT o i) 0)) none
      | none => none
    | _ => none
  | none => none
def fieldR (P : Program) (s : TypeId) (x : SV) (f : Nat) : Option SV :=
  match P.underlying s, x with
  | some (.struct fs), .pel j sz i q => match fs[f]? with
    | some fd => match szOf P fd.type with
      | some (_ + 1) => some (.pel j sz i (q + fd.offset))
      | _ => none
    | none => none
  | _, _ => none
def cellT (t i : Tm) (q : Nat) : SV := .ix (.app 17 [t, i, .lit (q : Int)])
def cellsT (t i : Tm) (q : Nat) : Nat → List SV
  | 0 => []
  | n + 1 => cellT t i q :: cellsT t i (q + 1) n
def loadR (P : Program) (st : St) (ty : TypeId) (x : SV) : Option SV :=
  match x, P.underlying ty with
  | .pel j sz i q, some _ => match rowJ st j, szOf P ty with
    | some (_, sz', _, _, t), some n => cond (Nat.beq sz sz' && Nat.ble (q + n) sz) (cond (isAggB P ty) (some (.agg (cellsT t i q n))) (cond (Nat.beq n 1) (some (cellT t i q)) none)) none
    | _, _ => none
  | _, _ => none
def lenV (P : Program) (st : St) (t : TypeId) (x : SV) : Option SV :=
  match P.underlying t, x with
  | some (.slice _), .root j => match rowJ st j with
    | some (_, _, _, _, u) => some (.ix (.app 12 [u]))
    | none => none
  | some (.slice _), .vw _ _ _ n => some (.ix n)
  | _, _ => none
def cutR (P : Program) (st : St) (ty : TypeId) (x : SV) (lo hi mx : Option SV) : Option SV :=
  match x, mx with
  | .root j, none => match rowJ st j with
    | some (e, sz, _, _, t) => cond (slTyB P ty e sz) (match lo, hi with
      | some l, none => match tmI l with
        | some a => cond (leB (.lit 0) a && leB a (.app 12 [t])) (some (.vw j sz a (subT (.app 12 [t]) a))) none
        | none => none
      | none, some h => match tmI h with
        | some b => cond (leB (.lit 0) b && leB b (.app 12 [t])) (some (.vw j sz (.lit 0) b)) none
        | none => none
      | some l, some h => match tmI l, tmI h with
        | some a, some b => cond (leB (.lit 0) a && leB a b && leB b (.app 12 [t])) (some (.vw j sz a (subT b a))) none
        | _, _ => none
      | none, none => none) none
    | none => none
  | _, _ => none
section
variable {P : Program} {A : Nat → Prop} {I : In} {st : St} {w w' : World}
theorem rowJ_spec (hok : Ok P A I st w) {j : Nat} {e : TypeId} {sz : Nat} {own : Bool} {c : Nat} {t : Tm} (h : rowJ st j = some (e, sz, own, c, t)) :
    look st.H j = some (.blob c t) ∧ Th.rowc c = some (e, sz, own) ∧ A j ∧ RowLaws Th.D Th.toI Th.ap Th.rw_ ∧ RowAt e sz own (I.esl j).rt.1 (Th.rw_ (t.den I.val.r)) (I.esl j).fp w := by
  unfold rowJ at h
  split at h
  · rename_i c' t' hl
    split at h
    · rename_i x hx
      cases h
      refine ⟨hl, hx, (hok.key j _ hl).1, Th.rows_ hx, ?_⟩
      exact (Th.row_ hx).1 (hok.real j _ hl)
    · cases h
  · cases h
theorem idxR_run (hok : Ok P A I st w) {ty : TypeId} {x ix v : SV} (h : idxR P st ty x ix = some v) (hx : x.ok A I) : (Instr.indexAt ty (x.den I) (ix.den I)).run P w = .ok (v.den I) w ∧ v.ok A I := by
  unfold idxR at h
  split at h
  case h_2 => cases h
  rename_i i hi
  have hid := tmI_den (I := I) hi
  split at h
  · rename_i q
    split at h
    case h_2 => cases h
    rename_i v' hv'
    rw [← litOf_den hok.val hv']
    exact indexS_run h hx w
  · rename_i j
    split at h
    case h_2 => cases h
    rename_i e sz own c t hj
    rw [Bool.cond_eq_ite] at h
    split at h
    case isFalse => cases h
    rename_i hb
    cases h
    simp only [Bool.and_eq_true] at hb
    obtain ⟨⟨b1, b2⟩, b3⟩ := hb
    obtain ⟨bytes, hT, _, hz, hu⟩ := slTyB_spec b1
    obtain ⟨hl, hc, hA, hR, hrow⟩ := rowJ_spec hok hj
    have i0 := leB_den hok.val b2
    have i1 := ltB_den hok.val b3
    rw [zero_den] at i0
    simp only [Tm.den, tdenL, hR.len] at i1
    obtain ⟨n, hn⟩ := Int.eq_ofNat_of_zero_le i0
    rw [hn] at i1 hid i0
    obtain ⟨b, off, k, hr, _⟩ := hrow.base (i := n) (by omega)
    refine ⟨?_, hA, b, off, _, k, hr, by rw [hn]; exact i0, by rw [hn]; exact i1⟩
    have hlt : n < (Th.rw_ (t.den I.val.r)).length := by omega
    rw [hid]
    simp only [SV.den, hr, elV, hn, Int.toNat_natCast]
    simp [Instr.indexAt, asIntOf, run_underlying hu, szOf_run hz, add_lit, hlt]
  · rename_i j sz o n
    split at h
    case h_2 => cases h
    rename_i e sz' own c t hj
    rw [Bool.cond_eq_ite] at h
    split at h
    case isFalse => cases h
    rename_i hb
    cases h
    simp only [Bool.and_eq_true, Nat.beq_eq] at hb
    obtain ⟨⟨⟨b1, rfl⟩, b2⟩, b3⟩ := hb
    obtain ⟨bytes, hT, _, hz, hu⟩ := slTyB_spec b1
    obtain ⟨hl, hc, hA, hR, hrow⟩ := rowJ_spec hok hj
    have i0 := leB_den hok.val b2
    have i1 := ltB_den hok.val b3
    rw [zero_den] at i0
    obtain ⟨_, B, m, k, hB, o0, n0, on, mk, km⟩ := hx
    have hs := addT_den I.val.r (o := o) (i := i) o0 i0 (by omega)
    obtain ⟨i', hi'⟩ := Int.eq_ofNat_of_zero_le i0
    obtain ⟨o', ho'⟩ := Int.eq_ofNat_of_zero_le o0
    obtain ⟨n', hn'⟩ := Int.eq_ofNat_of_zero_le n0
    rw [hi', ho'] at hs
    rw [hi', hn'] at i1
    rw [ho', hn'] at on
    have hm : m = (Th.rw_ (t.den I.val.r)).length := by
      obtain ⟨_, _, A', k', h1, _⟩ := hrow
      rw [h1] at hB
      cases hB
      rfl
    obtain ⟨b, off, k2, hr, _⟩ := hrow.base (i := 0) (by omega)
    rw [hr] at hB
    cases hB
    have h1 : 0 ≤ Th.toI ((addT o i).den I.val.r) := by omega
    have h2 : Th.toI ((addT o i).den I.val.r) < ((Th.rw_ (t.den I.val.r)).length : Int) := by omega
    refine ⟨?_, hA, b, off, _, k, hr, h1, h2⟩
    have hlt : i' < n' := by omega
    have hne : ¬ k = o' := by omega
    rw [hid, hi']
    simp only [SV.den, hr, elV, subV, ho', hn', Int.toNat_natCast, if_neg hne, hs, Option.map_some, add_lit]
    have : ((o' : Int) + (i' : Int)).toNat = o' + i' := by omega
    rw [this]
    simp [Instr.indexAt, asIntOf, run_underlying hu, szOf_run hz, add_lit, hlt, Nat.add_mul, Nat.add_assoc]
  · cases h
theorem fieldR_run {t : TypeId} {x s : SV} {f : Nat} (h : fieldR P t x f = some s) (hx : x.ok A I) (w : World) : (Instr.fieldAt t (x.den I) f).run P w = .ok (s.den I) w ∧ s.ok A I := by
  unfold fieldR at h
  split at h
  · rename_i fs j sz i q hu
    split at h
    · rename_i fd hf
      split at h
      · rename_i n hn
        cases h
        refine ⟨?_, hx⟩
        obtain ⟨_, b, off, m, k, hr, _⟩ := hx
        simp only [SV.den, hr, elV, add_lit]
        simp [Instr.fieldAt, run_underlying hu, hf, Instr.sureAddr, fieldPlace, szOf_run hn, add_lit, Nat.add_assoc]
      · cases h
    · cases h
  · cases h
theorem cellsT_ok (t i : Tm) : ∀ (n q : Nat), okL A I (cellsT t i q n)
  | 0, q => trivial
  | n + 1, q => ⟨trivial, cellsT_ok t i n (q + 1)⟩
theorem cellsT_get (t i : Tm) : ∀ (n q k : Nat), k < n → (cellsT t i q n)[k]? = some (cellT t i (q + k))
  | n + 1, q, 0, _ => rfl
  | n + 1, q, k + 1, h => by
    simp only [cellsT, List.getElem?_cons_succ]
    rw [cellsT_get t i n (q + 1) k (by omega), show q + 1 + k = q + (k + 1) by omega]
theorem cellsT_len (t i : Tm) : ∀ (n q : Nat), (cellsT t i q n).length = n
  | 0, q => rfl
  | n + 1, q => by rw [cellsT, List.length_cons, cellsT_len t i n]
theorem loadR_run (hok : Ok P A I st w) {ty : TypeId} {x v : SV} (h : loadR P st ty x = some v) (hx : x.ok A I) : (Instr.loadAt ty (x.den I)).run P w = .ok (v.den I) w ∧ v.ok A I := by
  unfold loadR at h
  split at h
  case h_2 => cases h
  rename_i j sz i q d hu
  split at h
  case h_2 => cases h
  rename_i e sz' own c t n hj hn
  rw [Bool.cond_eq_ite] at h
  split at h
  case isFalse => cases h
  rename_i hb
  simp only [Bool.and_eq_true, Nat.beq_eq] at hb
  obtain ⟨rfl, hle⟩ := hb
  have hle := Nat.le_of_ble_eq_true hle
  obtain ⟨hl, hc, hA, hR, hrow⟩ := rowJ_spec hok hj
  obtain ⟨_, b, off, m, k, hr, i0, i1⟩ := hx
  obtain ⟨i', hi'⟩ := Int.eq_ofNat_of_zero_le i0
  have hm : m = (Th.rw_ (t.den I.val.r)).length := by
    obtain ⟨_, _, A', k', h1, _⟩ := hrow
    rw [h1] at hr
    cases hr
    rfl
  have hlt : i' < (Th.rw_ (t.den I.val.r)).length := by omega
  obtain ⟨b2, off2, k2, hr2, _, _, hcell⟩ := hrow.base hlt
  rw [hr] at hr2
  cases hr2
  have cell : ∀ p, p < sz → w.cell? ⟨b, off + (i' * sz + p), none⟩ = some ((cellT t i p).den I) := fun p hp => by
    rw [hcell i' p hlt hp]
    simp only [cellT, SV.den, Tm.den, tdenL, hR.cell, hi', Th.ofI_, Int.toNat_natCast]
  have hp : (SV.pel j sz i q).den I = .pointer (some ⟨b, off + (i' * sz + q), none⟩) := by
    simp only [SV.den, hr, elV, hi', Int.toNat_natCast, add_lit]
  rw [hp]
  cases hag : isAggB P ty
  · rw [hag, cond_false, Bool.cond_eq_ite] at h
    split at h
    case isFalse => cases h
    rename_i h1
    cases h
    rw [Nat.beq_eq] at h1
    refine ⟨?_, trivial⟩
    simp [Instr.loadAt, Instr.sureAddr, loadVar, isAggB_run hu, hag, cell q (by omega)]
  · rw [hag, cond_true] at h
    cases h
    refine ⟨?_, cellsT_ok t i n q⟩
    have hls := run_loadCells_list (P := P) w ⟨b, off + (i' * sz + q), none⟩ (denL I (cellsT t i q n)) (fun p u hp => by
      rw [denL_get] at hp
      have hpn : p < n := by
        rcases Nat.lt_or_ge p n with h | h
        · exact h
        · rw [List.getElem?_eq_none (by rw [cellsT_len]; exact h)] at hp
          cases hp
      rw [cellsT_get t i n q p hpn] at hp
      cases hp
      rw [add_lit, show off + (i' * sz + q) + p = off + (i' * sz + (q + p)) by omega]
      exact cell (q + p) (by omega))
    rw [denL_length, cellsT_len] at hls
    simp [Instr.loadAt, Instr.sureAddr, loadVar, isAggB_run hu, hag, szOf_run hn, hls, SV.den]
theorem lenV_run (hok : Ok P A I st w) {t : TypeId} {x v : SV} (h : lenV P st t x = some v) (hx : x.ok A I) {ts : Array TypeId} (ht : ts[0]? = some t) (ty : TypeId) (cs : Array Bool) : (builtin .len ts ty cs #[x.den I]).run P w = .ok (.value (v.den I)) w ∧ v.ok A I := by
  unfold lenV at h
  split at h
  · rename_i e j hu
    split at h
    case h_2 => cases h
    rename_i e' sz own c u hj
    cases h
    obtain ⟨hl, hc, hA, hR, hrow⟩ := rowJ_spec hok hj
    obtain ⟨_, _, B, k, hr, _⟩ := hrow
    refine ⟨?_, trivial⟩
    simp only [SV.den, hr, Tm.den, tdenL, hR.len]
    simp [builtin, Builtin.len_, ht, run_underlying hu, goInt]
  · rename_i e j sz o n hu
    cases h
    obtain ⟨_, B, m, k, hB, o0, n0, on, mk, km⟩ := hx
    refine ⟨?_, trivial⟩
    simp only [SV.den, hB, subV]
    simp [builtin, Builtin.len_, ht, run_underlying hu, goInt]
    omega
  · cases h
theorem cutR_run (hok : Ok P A I st w) {ty : TypeId} {x v : SV} {lo hi mx : Option SV} (h : cutR P st ty x lo hi mx = some v) :
    (Instr.sliceAt ty (x.den I) (lo.map (SV.den I)) (hi.map (SV.den I)) (mx.map (SV.den I))).run P w = .ok (v.den I) w ∧ v.ok A I := by
  unfold cutR at h
  split at h
  case h_2 => cases h
  rename_i j
  split at h
  case h_2 => cases h
  rename_i e sz own c t hj
  rw [Bool.cond_eq_ite] at h
  split at h
  case isFalse => cases h
  rename_i b1
  obtain ⟨bytes, hT, _, hz, hu⟩ := slTyB_spec b1
  obtain ⟨hl, hc, hA, hR, hrow⟩ := rowJ_spec hok hj
  obtain ⟨_, _, B, k, hr, hk, hkm, _⟩ := hrow
  generalize hn : (Th.rw_ (t.den I.val.r)).length = n at *
  have hlen : Th.toI ((Tm.app 12 [t]).den I.val.r) = n := by simp only [Tm.den, tdenL, hR.len, hn]
  have hsz := hT.run_size
  split at h
  · rename_i l
    split at h
    case h_2 => cases h
    rename_i a ha
    rw [Bool.cond_eq_ite] at h
    split at h
    case isFalse => cases h
    rename_i hb
    cases h
    rw [Bool.and_eq_true] at hb
    have a0 := leB_den hok.val hb.1
    have a1 := leB_den hok.val hb.2
    rw [zero_den] at a0
    rw [hlen] at a1
    have hs := subT_den I.val.r (h := .app 12 [t]) (l := a) a0 (by omega) (by omega)
    rw [hlen] at hs
    refine ⟨?_, hA, B, n, k, hr, a0, by omega, by omega, hk, hkm⟩
    simp only [Option.map_some, Option.map_none, tmI_den ha, SV.den, hr, Instr.sliceAt, Sem.run_bind, run_underlying hu, Result.andThen_ok]
    rw [run_slice_l w ty B n k hT.und' _ _ a0 a1, hsz]
    simp only [Result.andThen, sliced, subV, hs]
    congr 2
    omega
  · rename_i l
    split at h
    case h_2 => cases h
    rename_i b hb'
    rw [Bool.cond_eq_ite] at h
    split at h
    case isFalse => cases h
    rename_i hb
    cases h
    rw [Bool.and_eq_true] at hb
    have a0 := leB_den hok.val hb.1
    have a1 := leB_den hok.val hb.2
    rw [zero_den] at a0
    rw [hlen] at a1
    refine ⟨?_, hA, B, n, k, hr, by rw [zero_den]; omega, a0, by rw [zero_den]; omega, hk, hkm⟩
    simp only [Option.map_some, Option.map_none, tmI_den hb', SV.den, hr, Instr.sliceAt, Sem.run_bind, run_underlying hu, Result.andThen_ok]
    rw [run_slice_h w ty B n k hT.und' _ _ a0 (by omega), hsz]
    simp only [Result.andThen, sliced, subV, zero_den]
    simp
  · rename_i l h'
    split at h
    case h_2 => cases h
    rename_i a b ha hb'
    rw [Bool.cond_eq_ite] at h
    split at h
    case isFalse => cases h
    rename_i hb
    cases h
    rw [Bool.and_eq_true, Bool.and_eq_true] at hb
    have a0 := leB_den hok.val hb.1.1
    have a1 := leB_den hok.val hb.1.2
    have a2 := leB_den hok.val hb.2
    rw [zero_den] at a0
    rw [hlen] at a2
    have hs := subT_den I.val.r (h := b) (l := a) a0 a1 (by omega)
    refine ⟨?_, hA, B, n, k, hr, a0, by omega, by omega, hk, hkm⟩
    simp only [Option.map_some, Option.map_none, tmI_den ha, tmI_den hb', SV.den, hr, Instr.sliceAt, Sem.run_bind, run_underlying hu, Result.andThen_ok]
    rw [run_slice_lh w ty B n k hT.und' _ _ _ _ a0 a1 (by omega), hsz]
    simp only [Result.andThen, sliced, subV, hs]
    congr 2
    omega
  · cases h
end
/-- rows out of a row of numbers -/
def chunks (sz : Nat) : Nat → List Int → List (List Int)
  | 0, _ => []
  | m + 1, l => l.take sz :: chunks sz m (l.drop sz)
theorem chunks_len {sz : Nat} : ∀ {m : Nat} {l : List Int}, l.length = m * sz → (chunks sz m l).length = m ∧ ∀ x ∈ chunks sz m l, x.length = sz
  | 0, l, _ => ⟨rfl, fun x hx => by cases hx⟩
  | m + 1, l, h => by
    rw [Nat.succ_mul] at h
    have ih := chunks_len (sz := sz) (m := m) (l := l.drop sz) (by rw [List.length_drop]; omega)
    refine ⟨by simp [chunks, ih.1], fun x hx => ?_⟩
    rcases List.mem_cons.1 hx with rfl | hx
    · rw [List.length_take]; omega
    · exact ih.2 x hx
theorem chunks_cells {sz : Nat} : ∀ {m : Nat} {l : List Int}, l.length = m * sz → cellsR (chunks sz m l) = l.map (Value.int .i64)
  | 0, l, h => by
    have : l = [] := List.eq_nil_of_length_eq_zero (by omega)
    rw [this]
    rfl
  | m + 1, l, h => by
    rw [Nat.succ_mul] at h
    rw [chunks, cellsR_cons, chunks_cells (by rw [List.length_drop]; omega), ← List.map_append, List.take_append_drop]
def snocs (sz : Nat) : Nat → Tm → List Tm → Tm
  | 0, t, _ => t
  | m + 1, t, l => snocs sz m (.app 14 (t :: l.take sz)) (l.drop sz)
theorem tdenL_take (r : Nat → Th.D) : ∀ (l : List Tm) (n : Nat), tdenL r (l.take n) = (tdenL r l).take n
  | [], n => by simp [tdenL]
  | t :: l, 0 => by simp [tdenL]
  | t :: l, n + 1 => by simp only [List.take_succ_cons, tdenL, tdenL_take r l n]
theorem tdenL_drop (r : Nat → Th.D) : ∀ (l : List Tm) (n : Nat), tdenL r (l.drop n) = (tdenL r l).drop n
  | [], n => by simp [tdenL]
  | t :: l, 0 => by simp [tdenL]
  | t :: l, n + 1 => by simp only [List.drop_succ_cons, tdenL, tdenL_drop r l n]
theorem tdenL_length (r : Nat → Th.D) : ∀ l : List Tm, (tdenL r l).length = l.length
  | [] => rfl
  | t :: l => by simp [tdenL, tdenL_length r l]
theorem snocs_den (hR : RowLaws Th.D Th.toI Th.ap Th.rw_) (r : Nat → Th.D) {sz : Nat} : ∀ (m : Nat) (t : Tm) (l : List Tm), Th.rw_ ((snocs sz m t l).den r) = Th.rw_ (t.den r) ++ chunks sz m ((tdenL r l).map Th.toI)
  | 0, t, l => by simp [snocs, chunks]
  | m + 1, t, l => by
    rw [snocs, snocs_den hR r m, chunks, tdenL_drop, List.map_drop, ← List.map_take, ← tdenL_take]
    simp only [Tm.den, tdenL, hR.snoc, List.append_assoc, List.singleton_append]
/-- rows that are appended -/
def srcR (st : St) (sz : Nat) (x : SV) (t : Tm) : Option Tm := match x with
  | .slice none 0 _ => some t
  | .slice (some (id, off)) m _ => match look st.H id with
    | some (.cells _ cs _) => cond (Nat.ble (off + m * sz) cs.length && Nat.ble m 1000) (match tmL ((cs.drop off).take (m * sz)) with
      | some l => some (snocs sz m t l)
      | none => none) none
    | _ => none
  | .root j => match rowJ st j with
    | some (_, sz', _, _, u) => cond (Nat.beq sz sz' && leB (.app 12 [u]) bigT) (some (.app 15 [t, u])) none
    | none => none
  | .vw j sz1 o n => match rowJ st j with
    | some (_, sz', _, _, u) => cond (Nat.beq sz sz' && Nat.beq sz sz1 && leB n bigT) (some (.app 15 [t, .app 16 [u, o, n]])) none
    | none => none
  | _ => none
def ownJ (P : Program) (t : TypeId) : Option (TypeId × Nat × Nat) := match P.underlying t with
  | some (.slice e) => match Th.ownc e with
    | some c => match Th.rowc c with
      | some (e', sz, true) => cond (Nat.beq e e' && slTyB P t e sz) (some (e, sz, c)) none
      | _ => none
    | none => none
  | _ => none
def appendR (P : Program) (st : St) (t tx : TypeId) (s x : SV) : Option (SV × St) := match ownJ P t with
  | some (e, sz, c) => cond (Nat.beq t tx) (match s with
    | .root j => match rowJ st j with
      | some (_, _, _, c2, u) => cond (Nat.beq c c2 && leB (.app 12 [u]) bigT) (match srcR st sz x u with
        | some t' => some (.root st.nx, ⟨ins (killL [j] st.H) st.nx (.blob c t'), st.nx + 1, j :: st.wr⟩)
        | none => none) none
      | none => none
    | .slice none 0 (.lit 0) => match srcR st sz x (.app 13 []) with
      | some t' => some (.root st.nx, ⟨ins (killL [] st.H) st.nx (.blob c t'), st.nx + 1, st.wr⟩)
      | none => none
    | _ => none) none
  | none => none
def makeR (P : Program) (st : St) (t : TypeId) (len cap : SV) : Option (SV × St) := match ownJ P t, len, tmI cap with
  | some (e, sz, c), .int _ (.ofNat 0), some m => cond (leB (.lit 0) m && leB m bigT) (some (.root st.nx, ⟨ins (killL [] st.H) st.nx (.blob c (.app 13 [])), st.nx + 1, st.wr⟩)) none
  | _, _, _ => none
section
variable {P : Program} {A : Nat → Prop} {I : In} {st : St} {w w' : World}
theorem ownJ_spec {t e : TypeId} {sz c : Nat} (h : ownJ P t = some (e, sz, c)) : Th.rowc c = some (e, sz, true) ∧ slTyB P t e sz = true := by
  unfold ownJ at h
  split at h
  case h_2 => cases h
  rename_i e0 hu
  split at h
  case h_2 => cases h
  rename_i c0 hc0
  split at h
  case h_2 => cases h
  rename_i e1 sz1 hc1
  rw [Bool.cond_eq_ite] at h
  split at h
  case isFalse => cases h
  rename_i hb
  cases h
  rw [Bool.and_eq_true, Nat.beq_eq] at hb
  obtain ⟨rfl, hb⟩ := hb
  exact ⟨hc1, hb⟩
theorem srcR_spec (hok : Ok P A I st w) {sz : Nat} {x : SV} {t t' : Tm} (hR : RowLaws Th.D Th.toI Th.ap Th.rw_) (h : srcR st sz x t = some t') (hx : x.ok A I) :
    ∃ (N : List (List Int)) (B : Option Addr) (k : Nat), Th.rw_ (t'.den I.val.r) = Th.rw_ (t.den I.val.r) ++ N ∧ (∀ l ∈ N, l.length = sz) ∧ x.den I = .slice B N.length k ∧ Go.Al.Rd w B (cellsR N) ∧ N.length ≤ 1073741824 := by
  unfold srcR at h
  split at h
  · rename_i c
    cases h
    exact ⟨[], none, c.den I, (List.append_nil _).symm, fun l hl => (by cases hl), rfl, fun h => absurd rfl h, Nat.zero_le _⟩
  · rename_i id off m c
    split at h
    case h_2 => cases h
    rename_i e' cs ext hl
    rw [Bool.cond_eq_ite] at h
    split at h
    case isFalse => cases h
    rename_i hb
    split at h
    case h_2 => cases h
    rename_i l hm
    cases h
    rw [Bool.and_eq_true] at hb
    have b1 := Nat.le_of_ble_eq_true hb.1
    have b2 := Nat.le_of_ble_eq_true hb.2
    have hd := tmL_den (I := I) hm
    have hlen : ((tdenL I.val.r l).map Th.toI).length = m * sz := by
      have := congrArg List.length hd
      rw [denL_length, List.length_take, List.length_drop, List.length_map, tdenL_length] at this
      rw [List.length_map, tdenL_length]
      omega
    have hc := chunks_len hlen
    refine ⟨chunks sz m ((tdenL I.val.r l).map Th.toI), some ⟨I.adr id, off, none⟩, c.den I, snocs_den hR _ _ _ _, hc.2, ?_, fun _ => ⟨I.adr id, off, rfl, fun i u hu => ?_⟩, by rw [hc.1]; omega⟩
    · simp [SV.den, padr, hc.1]
    · have hr := hok.range hl (off := off) (n := m * sz) b1 i u
      rw [add_lit] at hr
      refine hr ?_
      rw [hd]
      rw [chunks_cells hlen, List.map_map] at hu
      exact hu
  · rename_i j
    split at h
    case h_2 => cases h
    rename_i e sz' own c u hj
    rw [Bool.cond_eq_ite] at h
    split at h
    case isFalse => cases h
    rename_i hb
    cases h
    rw [Bool.and_eq_true, Nat.beq_eq] at hb
    obtain ⟨rfl, hb⟩ := hb
    obtain ⟨hl, hc, hA, _, hrow⟩ := rowJ_spec hok hj
    obtain ⟨_, hlen, B, k, hr, hk, hkm, hrd, _⟩ := hrow
    have hbig := leB_den hok.val hb
    simp only [bigT, Tm.den, tdenL, hR.len, Th.ofI_] at hbig
    refine ⟨Th.rw_ (u.den I.val.r), B, k, by simp only [Tm.den, tdenL, hR.app], hlen, hr, hrd, by omega⟩
  · rename_i j sz1 o n
    split at h
    case h_2 => cases h
    rename_i e sz' own c u hj
    rw [Bool.cond_eq_ite] at h
    split at h
    case isFalse => cases h
    rename_i hb
    cases h
    rw [Bool.and_eq_true, Bool.and_eq_true, Nat.beq_eq, Nat.beq_eq] at hb
    obtain ⟨⟨rfl, rfl⟩, hb⟩ := hb
    obtain ⟨hl, hc, hA, _, hrow⟩ := rowJ_spec hok hj
    obtain ⟨_, hlen, B, k, hr, hk, hkm, hrd, _⟩ := hrow
    have hbig := leB_den hok.val hb
    simp only [bigT, Tm.den, Th.ofI_] at hbig
    obtain ⟨_, B', m', k', hB, o0, n0, on, mk, km⟩ := hx
    rw [hr] at hB
    injection hB with q1 q2 q3
    subst q2 q3
    have hN : (((Th.rw_ (u.den I.val.r)).drop (Th.toI (o.den I.val.r)).toNat).take (Th.toI (n.den I.val.r)).toNat).length = (Th.toI (n.den I.val.r)).toNat := by
      rw [List.length_take, List.length_drop]
      omega
    refine ⟨((Th.rw_ (u.den I.val.r)).drop (Th.toI (o.den I.val.r)).toNat).take (Th.toI (n.den I.val.r)).toNat, if k = (Th.toI (o.den I.val.r)).toNat then B else B.map (·.add ((Th.toI (o.den I.val.r)).toNat * sz)), k - (Th.toI (o.den I.val.r)).toNat, by simp only [Tm.den, tdenL, hR.app, hR.sub], fun l hl => hlen l (List.mem_of_mem_drop (List.mem_of_mem_take hl)), ?_, ?_, by rw [hN]; omega⟩
    · simp only [SV.den, hr, subV, hN]
    · have h1 : ∀ l ∈ (Th.rw_ (u.den I.val.r)).drop (Th.toI (o.den I.val.r)).toNat, l.length = sz := fun l hl => hlen l (List.mem_of_mem_drop hl)
      rw [← cellsR_take h1, ← cellsR_drop hlen]
      split
      · rename_i hko
        rw [List.drop_of_length_le (by rw [cellsR_length hlen]; exact Nat.mul_le_mul_right _ (by omega))]
        exact (Rd.nil w _).take _
      · exact (hrd.drop _).take _
  · cases h
/-- what append leaves of an own row -/
theorem RowAt.grown {e : TypeId} {sz : Nat} {v : Value} {L : List (List Int)} {w : World} (h0 : 0 < sz) (hl : ∀ l ∈ L, l.length = sz) (h : w.ownsRow 0 e sz v L.length (cellsR L)) : RowAt e sz true v L (fun b => v.ownBlock = some b) w := by
  obtain ⟨B, k, rfl, h1, h2, h3, h4, h5, h6⟩ := own_form h
  exact ⟨h0, hl, B, k, rfl, h1, h5, h2, fun b => by rw [h4], fun b hb => (h.lt b (by rw [← h4]; exact hb)).2, fun _ => h⟩
theorem appendR_run (hok : Ok P A I st w) {t tx : TypeId} {s x v : SV} {st' : St} (h : appendR P st t tx s x = some (v, st')) (hx : x.ok A I) (ty : TypeId) :
    ∃ I' w', (Builtin.append_ #[t, tx] ty #[s.den I, x.den I]).run P w = .ok (v.den I') w' ∧ Mv P A I st w I' st' w' ∧ v.ok (up A st.nx st'.nx) I' := by
  unfold appendR at h
  split at h
  case h_2 => cases h
  rename_i e sz c ho
  obtain ⟨hc, hsl⟩ := ownJ_spec ho
  obtain ⟨bytes, hT, hby, hz, hu⟩ := slTyB_spec hsl
  have hR := Th.rows_ hc
  rw [Bool.cond_eq_ite] at h
  split at h
  case isFalse => cases h
  rename_i htt
  rw [Nat.beq_eq] at htt
  subst htt
  split at h
  · rename_i j
    split at h
    case h_2 => cases h
    rename_i e2 sz2 own2 c2 u hj
    rw [Bool.cond_eq_ite] at h
    split at h
    case isFalse => cases h
    rename_i hb
    rw [Bool.and_eq_true, Nat.beq_eq] at hb
    obtain ⟨rfl, hb⟩ := hb
    split at h
    case h_2 => cases h
    rename_i t' hs
    cases h
    obtain ⟨hl, hc2, hA, _, hrow⟩ := rowJ_spec hok hj
    rw [hc] at hc2
    cases hc2
    obtain ⟨N, B, k, hN, hNl, hxd, hrd, hNb⟩ := srcR_spec hok hR hs hx
    obtain ⟨hpos, hlen, B0, k0, hr0, _, _, _, hfp, _, hown⟩ := hrow
    have hbig := leB_den hok.val hb
    simp only [bigT, Tm.den, tdenL, hR.len, Th.ofI_] at hbig
    obtain ⟨v', w', h1, h2, h3, h4⟩ := run_app (P := P) w (ty' := ty) hT (base := 0) _ _ _ (hown rfl) B N.length k (cellsR N) (cellsR_length hNl) hrd (cellsR_one N) (Nat.le_trans (Nat.mul_le_mul (show _ ≤ 2147483648 by omega) hby) (by decide)) (by omega) (Nat.zero_le _)
    have hfpo : ∀ b, (I.esl j).rt.1.ownBlock = some b ↔ (I.esl j).fp b := fun b => by rw [hfp, hr0, ownBlock_slice]
    rw [← cellsR_append, ← List.length_append] at h2
    have hrow' := RowAt.grown hpos (fun l hl => (List.mem_append.1 hl).elim (hlen l) (hNl l)) h2
    rw [← hN] at hrow'
    refine ⟨I.putE st.nx ⟨(none, 0), _, ⟨v', hrow'.one⟩⟩, w', ?_, Mv.turn (ks := [j]) hok ⟨(none, 0), _, ⟨v', hrow'.one⟩⟩ (fun k hk => by rw [List.mem_singleton.1 hk, hl]; simp) (h3.mono fun b _ hb => ⟨j, List.mem_singleton.2 rfl, (hfpo b).1 hb⟩) ((Th.row_ hc).2 hrow') (fun b hb => ?_), up_succ _⟩
    · simp only [SV.den] at h1 ⊢
      rw [hxd, h1]
      simp [In.putE]
    · have hb : v'.ownBlock = some b := hb
      rcases h4 with h4 | h4
      · exact .inr ⟨j, List.mem_singleton.2 rfl, (hfpo b).1 (h4 ▸ hb)⟩
      · rw [h4] at hb
        cases hb
        exact .inl (Nat.le_refl _)
  · split at h
    case h_2 => cases h
    rename_i t' hs
    cases h
    obtain ⟨N, B, k, hN, hNl, hxd, hrd, hNb⟩ := srcR_spec hok hR hs hx
    obtain ⟨v', w', h1, h2, h3, h4⟩ := run_app (P := P) w (ty' := ty) hT (base := 0) _ _ _ (World.ownsRow_nil w 0 e sz) B N.length k (cellsR N) (cellsR_length hNl) hrd (cellsR_one N) (Nat.le_trans (Nat.mul_le_mul (show _ ≤ 2147483648 by omega) hby) (by decide)) (by omega) (Nat.zero_le _)
    rw [List.nil_append, Nat.zero_add] at h2
    have hrow' := RowAt.grown hT.pos hNl h2
    have hN' : Th.rw_ (t'.den I.val.r) = N := by rw [hN]; simp only [Tm.den, tdenL, hR.nil, List.nil_append]
    rw [← hN'] at hrow'
    refine ⟨I.putE st.nx ⟨(none, 0), _, ⟨v', hrow'.one⟩⟩, w', ?_, Mv.turn (ks := []) hok ⟨(none, 0), _, ⟨v', hrow'.one⟩⟩ (fun k hk => by cases hk) (h3.mono fun b _ hb => by cases hb) ((Th.row_ hc).2 hrow') (fun b hb => ?_), up_succ _⟩
    · simp only [SV.den, Option.map_none, Cap.den] at h1 ⊢
      rw [hxd, h1]
      simp [In.putE]
    · have hb : v'.ownBlock = some b := hb
      rcases h4 with h4 | h4
      · rw [h4] at hb
        cases hb
      · rw [h4] at hb
        cases hb
        exact .inl (Nat.le_refl _)
  · cases h
end
theorem cellsR_set {sz : Nat} {L : List (List Int)} {i : Nat} {l : List Int} (hL : ∀ l ∈ L, l.length = sz) (hi : i < L.length) (hl : l.length = sz) :
    (cellsR L).take (i * sz) ++ l.map (Value.int .i64) ++ (cellsR L).drop (i * sz + sz) = cellsR (L.set i l) := by
  have h1 : L.set i l = L.take i ++ l :: L.drop (i + 1) := List.set_eq_take_append_cons_drop.trans (if_pos hi)
  rw [h1, cellsR_append, cellsR_cons, cellsR_take hL, show i * sz + sz = (i + 1) * sz by rw [Nat.succ_mul], cellsR_drop hL, List.append_assoc]
def storeR (P : Program) (st : St) (ty : TypeId) (x v : SV) : Option St := match x with
  | .pel j sz i 0 => match rowJ st j, cellsS v, szOf P ty with
    | some (_, sz', true, c, t), some vs, some n => cond (Nat.beq sz sz' && Nat.beq n sz && Nat.beq vs.length sz) (match tmL vs with
      | some l => some ⟨ins st.H j (.blob c (.app 18 (t :: i :: l))), st.nx, j :: st.wr⟩
      | none => none) none
    | _, _, _ => none
  | _ => none
section
variable {P : Program} {A : Nat → Prop} {I : In} {st : St} {w w' : World}
theorem makeR_run (hok : Ok P A I st w) {t : TypeId} {len cap v : SV} {st' : St} (h : makeR P st t len cap = some (v, st')) :
    ∃ I' w', (Instr.makeSlice t (len.den I) (cap.den I)).run P w = .ok (v.den I') w' ∧ Mv P A I st w I' st' w' ∧ v.ok (up A st.nx st'.nx) I' := by
  unfold makeR at h
  split at h
  case h_2 => cases h
  rename_i e sz c k m ho hm
  rw [Bool.cond_eq_ite] at h
  split at h
  case isFalse => cases h
  rename_i hb
  cases h
  rw [Bool.and_eq_true] at hb
  have m0 := leB_den hok.val hb.1
  have m1 := leB_den hok.val hb.2
  rw [zero_den] at m0
  simp only [bigT, Tm.den, Th.ofI_] at m1
  obtain ⟨hc, hsl⟩ := ownJ_spec ho
  obtain ⟨bytes, hT, hby, hz, hu⟩ := slTyB_spec hsl
  have hR := Th.rows_ hc
  obtain ⟨n, hn⟩ := Int.eq_ofNat_of_zero_le m0
  rw [hn] at m1
  obtain ⟨ht, ⟨i, z, hi, hiz, hsz, hbb, hzs⟩, hpos⟩ := hT
  have fin : ∀ cur : Array Value, cur.size = n * sz → (Instr.makeSlice t (.int k 0) (.int .i64 n)).run P w = .ok (.slice (some ⟨w.heap.size, 0, none⟩) 0 n) (w.alloc (.cells cur e)) →
      ∃ I' w', (Instr.makeSlice t (.int k 0) (.int .i64 n)).run P w = .ok ((SV.root st.nx).den I') w' ∧ Mv P A I st w I' ⟨ins (killL [] st.H) st.nx (.blob c (.app 13 [])), st.nx + 1, st.wr⟩ w' ∧ (SV.root st.nx).ok (up A st.nx (st.nx + 1)) I' := fun cur hcur hrun => by
    have hown := World.ownsRow_made (base := 0) (e := e) (size := sz) w cur n (Nat.zero_le _) (by unfold maxLen; omega) hcur
    have hrow' := RowAt.grown (L := []) hpos (fun l hl => (by cases hl)) hown
    have hN : Th.rw_ ((Tm.app 13 []).den I.val.r) = [] := by simp only [Tm.den, tdenL, hR.nil]
    rw [← hN] at hrow'
    refine ⟨I.putE st.nx ⟨(none, 0), _, ⟨_, hrow'.one⟩⟩, _, ?_, Mv.turn (ks := []) hok ⟨(none, 0), _, ⟨_, hrow'.one⟩⟩ (fun k hk => by cases hk) ((Chg.refl _ w).alloc _) ((Th.row_ hc).2 hrow') (fun b hb => ?_), up_succ _⟩
    · rw [hrun]
      simp [SV.den, In.putE]
    · cases hb
      exact .inl (Nat.le_refl _)
  have hlen : (SV.int k (.ofNat 0)).den I = .int k 0 := rfl
  rw [hlen, tmI_den hm, hn]
  have wn : IntKind.i64.wrap (n : Int) = n := IntWalk.i64_in _ (by omega)
  have w0 : IntKind.i64.wrap (0 : Int) = 0 := IntWalk.i64_in _ (by omega)
  have q1 : ¬ ((n : Int) < 0) := by omega
  have q2 : ¬ (281474976710656 < (i.bytes : Int) * (n : Int)) := by
    have : ((i.bytes * n : Nat) : Int) ≤ ((281474976710656 : Nat) : Int) := Int.ofNat_le.2 (Nat.le_trans (Nat.mul_le_mul (show i.bytes ≤ 65536 by omega) (show n ≤ 1073741824 by omega)) (by decide))
    rw [Int.natCast_mul] at this
    omega
  by_cases h0 : n * i.size = 0
  · refine fin #[] (by rw [← hsz, h0]; rfl) ?_
    have e0 : ∀ g : Nat → Value, Array.map g (Array.range 0) = #[] := fun g => by simp
    simp [Instr.makeSlice, run_underlying hu, asInt, asIntOf, typeInfo, hi, wn, w0, q1, q2, h0, e0, sizeOf, newRow]
  · refine fin ((Array.range (n * i.size)).map (z.cells[· % z.cells.size]!)) (by simp [hsz]) ?_
    have hzv : ∀ w : World, (zeroValue e).run P w = .ok z w := fun w => by simp [zeroValue, typeInfo, hi, hiz]
    simp [Instr.makeSlice, run_underlying hu, asInt, asIntOf, typeInfo, hi, wn, w0, q1, q2, h0, hzv, sizeOf, newRow]
theorem storeR_run (hok : Ok P A I st w) {ty : TypeId} {x v : SV} {st' : St} (h : storeR P st ty x v = some st') (hx : x.ok A I) (hv : v.ok A I) : ∃ w', (Instr.storeAt ty (x.den I) (v.den I)).run P w = .ok () w' ∧ Mv P A I st w I st' w' := by
  unfold storeR at h
  split at h
  case h_2 => cases h
  rename_i j sz i
  split at h
  case h_2 => cases h
  rename_i e sz' c t vs n hj hvs hn
  rw [Bool.cond_eq_ite] at h
  split at h
  case isFalse => cases h
  rename_i hb
  rw [Bool.and_eq_true, Bool.and_eq_true, Nat.beq_eq, Nat.beq_eq, Nat.beq_eq] at hb
  obtain ⟨⟨rfl, rfl⟩, hvl⟩ := hb
  split at h
  case h_2 => cases h
  rename_i l hl
  cases h
  obtain ⟨hlk, hc, hA, hR, hrow⟩ := rowJ_spec hok hj
  obtain ⟨_, b, off, m, k, hr, i0, i1⟩ := hx
  obtain ⟨i', hi'⟩ := Int.eq_ofNat_of_zero_le i0
  obtain ⟨hpos, hlen, B0, k0, hr0, hk0, hkm, hrd, hfp, hsz, hown⟩ := hrow
  rw [hr0] at hr
  injection hr with r1 r2 r3
  subst r1 r2 r3
  have hlt : i' < (Th.rw_ (t.den I.val.r)).length := by omega
  have ho := hown rfl
  rw [hr0] at ho
  obtain ⟨hxs, ho⟩ := ho
  rcases ho with ⟨ho, _⟩ | ⟨g, cap, cur, ho, _, hg, hn1, hn2, hcs, hck⟩
  · cases ho
  injection ho with o1 o2 o3
  injection o1 with o1
  injection o1 with o4 o5
  subst o4 o5 o3
  obtain ⟨c1, c2⟩ := cellsS_den (A := A) (I := I) hok.val.one hvs
  have hd := tmL_den (I := I) hl
  have hll : ((tdenL I.val.r l).map Th.toI).length = n := by
    have := congrArg List.length hd
    rw [denL_length, List.length_map, tdenL_length] at this
    rw [List.length_map, tdenL_length]
    omega
  have hdl : (denL I vs).length = n := by rw [denL_length, hvl]
  have hle : (i' + 1) * n ≤ (Th.rw_ (t.den I.val.r)).length * n := Nat.mul_le_mul_right _ (by omega)
  have hle2 : (Th.rw_ (t.den I.val.r)).length * n ≤ k0 * n := Nat.mul_le_mul_right _ hn1
  rw [Nat.succ_mul] at hle
  have one : ∀ u ∈ denL I vs, u.oneCell' = true := fun u hu => by
    rw [hd] at hu
    obtain ⟨d, _, rfl⟩ := List.mem_map.1 hu
    rfl
  have hrs := run_storeCells_at (P := P) b (i' * n) e (denL I vs) 0 _ w hg (by rw [hdl, hcs]; omega) one
  rw [Nat.add_zero, hdl] at hrs
  have hp : (SV.pel j n i 0).den I = .pointer (some ⟨b, i' * n, none⟩) := by
    simp only [SV.den, hr0, elV, hi', Int.toNat_natCast, add_lit, Nat.zero_add, Nat.add_zero]
  generalize hcur : (cur.toList.take (i' * n) ++ denL I vs ++ cur.toList.drop (i' * n + n)).toArray = cur' at hrs
  have hcs' : cur'.size = k0 * n := by
    rw [← hcur, List.size_toArray, List.length_append, List.length_append, List.length_take, List.length_drop, hdl, Array.length_toList, hcs]
    omega
  have hg' : (w.setRow b cur').heap[b]? = some (.cells cur' e (0, 0)) := setRow_heap w b _ _ e (0, 0) hg
  have hset : Th.rw_ ((Tm.app 18 (t :: i :: l)).den I.val.r) = (Th.rw_ (t.den I.val.r)).set i' ((tdenL I.val.r l).map Th.toI) := by
    simp only [Tm.den, tdenL, hR.set, hi', Int.toNat_natCast]
  have hL : ((Th.rw_ (t.den I.val.r)).set i' ((tdenL I.val.r l).map Th.toI)).length = (Th.rw_ (t.den I.val.r)).length := List.length_set
  have hck' : cur'.toList.take ((Th.rw_ (t.den I.val.r)).length * n) = cellsR ((Th.rw_ (t.den I.val.r)).set i' ((tdenL I.val.r l).map Th.toI)) := by
    rw [← cellsR_set hlen hlt hll, ← hck, ← hcur, hd, List.map_map]
    simp only [List.take_take, List.drop_take, Nat.min_eq_left (show i' * n ≤ (Th.rw_ (t.den I.val.r)).length * n by omega)]
    have ht : (cur.toList.take (i' * n)).length = i' * n := by rw [List.length_take, Array.length_toList, hcs]; omega
    have hm : ((tdenL I.val.r l).map fun d => Value.int .i64 (Th.toI d)).length = n := by rw [List.length_map] at hll ⊢; exact hll
    rw [List.take_append, List.take_append, List.take_of_length_le (l := cur.toList.take (i' * n)) (by omega), List.take_of_length_le (l := (tdenL I.val.r l).map fun d => Value.int .i64 (Th.toI d)) (by rw [hm, ht]; omega)]
    rw [List.length_append, ht, hm, Nat.sub_add_eq]
    rfl
  have hown' : (w.setRow b cur').ownsRow 0 e n (.slice (some ⟨b, 0, none⟩) ((Th.rw_ (t.den I.val.r)).set i' ((tdenL I.val.r l).map Th.toI)).length k0) ((Th.rw_ (t.den I.val.r)).set i' ((tdenL I.val.r l).map Th.toI)).length (cellsR ((Th.rw_ (t.den I.val.r)).set i' ((tdenL I.val.r l).map Th.toI))) := by
    have hl2 : ∀ x ∈ (Th.rw_ (t.den I.val.r)).set i' ((tdenL I.val.r l).map Th.toI), x.length = n := fun x hx => (List.mem_or_eq_of_mem_set hx).elim (hlen x) fun e => e ▸ hll
    refine ⟨cellsR_length hl2, .inr ⟨b, k0, cur', rfl, Nat.zero_le _, hg', by rw [hL]; exact hn1, hn2, hcs', by rw [hL]; exact hck'⟩⟩
  have hrow' := RowAt.grown hpos (fun x hx => (List.mem_or_eq_of_mem_set hx).elim (hlen x) fun e => e ▸ hll) hown'
  rw [hL, ← hr0, ← hset] at hrow'
  refine ⟨_, ?_, Mv.alter hok hlk (Go.Proofs.YthjnecicagmdeaaGreat.Chg.setRow (S := (I.esl j).fp) (Chg.refl _ w) (.inl ((hfp b).2 rfl)) cur') ((Th.row_ hc).2 ?_)⟩
  · rw [hp]
    simp [Instr.storeAt, Instr.sureAddr, storeVar, c1, szOf_run hn, hvl, hrs]
  · have he : (fun b => (I.esl j).rt.1.ownBlock = some b) = (I.esl j).fp := by
      funext b2
      rw [hr0, ownBlock_slice]
      exact propext (hfp b2).symm
    rw [← he]
    exact hrow'
end
/-- operations on rows of numbers -/
def isZ : Value → Bool
  | .int .i64 (.ofNat 0) => true
  | _ => false
def zerosB : List Value → Nat → Bool
  | [], 0 => true
  | v :: l, n + 1 => isZ v && zerosB l n
  | _, _ => false
theorem zerosB_eq : ∀ {l : List Value} {n : Nat}, zerosB l n = true → l = List.replicate n (.int .i64 0)
  | [], 0, _ => rfl
  | v :: l, n + 1, h => by
    simp only [zerosB, Bool.and_eq_true] at h
    rw [zerosB_eq h.2, List.replicate_succ]
    congr 1
    match v, h.1 with
    | .int .i64 (.ofNat 0), _ => rfl
  | [], _ + 1, h => by cases h
  | _ :: _, 0, h => by cases h
def zeroB (P : Program) (e : TypeId) (sz : Nat) : Bool := match P.info? e with
  | some i => match i.zero with
    | some z => zerosB z.cells.toList sz
    | none => false
  | none => false
/-- the end of an own row is cleared -/
def clearR (P : Program) (st : St) (t : TypeId) (x : SV) : Option St := match x with
  | .vw j sz o n => match rowJ st j with
    | some (e, sz', true, c, u) => cond (slTyB P t e sz && (Nat.beq sz sz' && (n.eqb (subT (.app 12 [u]) o) && zeroB P e sz))) (some ⟨ins st.H j (.blob c (.app 19 [u, o, .lit sz])), st.nx, j :: st.wr⟩) none
    | _ => none
  | _ => none
section
variable {P : Program} {A : Nat → Prop} {I : In} {st : St} {w w' : World}
theorem zeroCells_zeros {z : Array Value} {sz n : Nat} (h : z.toList = List.replicate sz (.int .i64 0)) : (Builtin.zeroCells z n).toList = cellsR (List.replicate n (List.replicate sz 0)) := by
  have hz : z.size = sz := by rw [← Array.length_toList, h, List.length_replicate]
  have h1 : cellsR (List.replicate n (List.replicate sz 0)) = List.replicate (n * sz) (Value.int .i64 0) := by
    induction n with
    | zero => simp [cellsR]
    | succ n ih => rw [List.replicate_succ, cellsR_cons, ih, List.map_replicate, List.replicate_append_replicate, Nat.succ_mul, Nat.add_comm]
  rw [h1]
  apply List.ext_getElem
  · simp [Builtin.zeroCells, hz]
  · intro i g1 g2
    have hi : i < n * sz := by simpa [Builtin.zeroCells, hz] using g1
    have hs : 0 < sz := Nat.pos_of_ne_zero fun e => by subst e; simp at hi
    have hm : i % sz < z.size := by rw [hz]; exact Nat.mod_lt _ hs
    have : z[i % sz]! = Value.int .i64 0 := by
      rw [getElem!_pos z (i % sz) hm]
      have h2 : z.toList[i % sz]? = some z[i % sz] := by rw [Array.getElem?_toList, Array.getElem?_eq_getElem hm]
      rw [h, List.getElem?_replicate, if_pos (Nat.mod_lt _ hs)] at h2
      exact (Option.some.inj h2).symm
    simp [Builtin.zeroCells, hz, this]
theorem clearR_run (hok : Ok P A I st w) {t ty : TypeId} {ts : Array TypeId} (ht : ts[0]? = some t) {x : SV} {st' : St} (h : clearR P st t x = some st') (hx : x.ok A I) : ∃ w', (Builtin.clear_ ts ty #[x.den I]).run P w = .ok (.tuple #[]) w' ∧ Mv P A I st w I st' w' := by
  unfold clearR at h
  split at h
  case h_2 => cases h
  rename_i j sz o n
  split at h
  case h_2 => cases h
  rename_i e sz' c u hj
  rw [Bool.cond_eq_ite] at h
  split at h
  case isFalse => cases h
  rename_i hb
  cases h
  simp only [Bool.and_eq_true, Nat.beq_eq] at hb
  obtain ⟨hsl, rfl, hn, hz⟩ := hb
  obtain ⟨bytes, hT, hby, hszo, hu⟩ := slTyB_spec hsl
  obtain ⟨hlk, hc, hA, hR, hrow⟩ := rowJ_spec hok hj
  obtain ⟨_, B, m, k, hr, o0, n0, honm, hmk, hkm⟩ := hx
  obtain ⟨hpos, hlen, B0, k0, hr0, hk0, hkm0, hrd, hfp, hsz, hown⟩ := hrow
  rw [hr0] at hr
  injection hr with r1 r2 r3
  subst r1 r2 r3
  obtain ⟨i', hi'⟩ := Int.eq_ofNat_of_zero_le o0
  obtain ⟨q, hq⟩ := Int.eq_ofNat_of_zero_le n0
  obtain ⟨L, hL⟩ : ∃ L, Th.rw_ (u.den I.val.r) = L := ⟨_, rfl⟩
  rw [hL] at hlen hr0 hk0 hrd hown honm
  have hlT : Th.toI ((Tm.app 12 [u]).den I.val.r) = (L.length : Int) := by simp only [Tm.den, tdenL, hR.len, hL]
  have hnq : (q : Int) = L.length - i' := by
    have h1 := subT_den I.val.r (h := .app 12 [u]) (l := o) o0 (by rw [hlT]; omega) (by rw [hlT]; omega)
    rw [← eqb_eq _ _ hn, hq, hlT, hi'] at h1
    exact h1
  have hqn : q = L.length - i' := by omega
  have hio : i' ≤ L.length := by omega
  have hclr : Th.rw_ ((Tm.app 19 [u, o, .lit sz]).den I.val.r) = L.take i' ++ List.replicate q (List.replicate sz 0) := by
    simp only [Tm.den, tdenL, hR.clr, hL, hi', Th.ofI_, Int.toNat_natCast]
    rw [hqn]
  have hlen' : ∀ l ∈ L.take i' ++ List.replicate q (List.replicate sz (0 : Int)), l.length = sz := fun l hl => (List.mem_append.1 hl).elim (fun h => hlen l (List.mem_of_mem_take h)) fun h => by rw [List.eq_of_mem_replicate h, List.length_replicate]
  have hll : (L.take i' ++ List.replicate q (List.replicate sz (0 : Int))).length = L.length := by rw [List.length_append, List.length_take, List.length_replicate]; omega
  have hden : (SV.vw j sz o n).den I = subV sz (.slice B0 L.length k0) i' q := by
    simp only [SV.den, hr0, hi', hq, Int.toNat_natCast]
  have he : (fun b => (I.esl j).rt.1.ownBlock = some b) = (I.esl j).fp := by
    funext b2
    rw [hr0, ownBlock_slice]
    exact propext (hfp b2).symm
  have fin : ∀ {w2 : World}, Chg (I.esl j).fp w w2 → w2.ownsRow 0 e sz (.slice B0 L.length k0) L.length (cellsR (L.take i' ++ List.replicate q (List.replicate sz 0))) → Mv P A I st w I ⟨ins st.H j (.blob c (.app 19 [u, o, .lit sz])), st.nx, j :: st.wr⟩ w2 := fun {w2} hch ho => by
    refine Mv.alter hok hlk hch ((Th.row_ hc).2 ?_)
    rw [← hll] at ho
    have hrow' := RowAt.grown hpos hlen' ho
    rw [hll, ← hr0, ← hclr, he] at hrow'
    exact hrow'
  by_cases h0 : q = 0
  · refine ⟨w, ?_, fin (Chg.refl _ w) ?_⟩
    · rw [hden, h0]
      simp only [subV]
      cases (if k0 = i' then B0 else B0.map (·.add (i' * sz))) <;> simp [Builtin.clear_, ht, run_underlying hu]
    · have hi2 : i' = L.length := by omega
      rw [h0, hi2, List.take_length, List.replicate_zero, List.append_nil]
      have := hown rfl
      rw [hr0] at this
      exact this
  · have ho := hown rfl
    rw [hr0] at ho
    obtain ⟨hxs, ho⟩ := ho
    rcases ho with ⟨ho, hl0⟩ | ⟨g, cap, cur, ho, _, hg, hn1, hn2, hcs, hck⟩
    · omega
    injection ho with o1 o2 o3
    subst o1 o3
    have hne : ¬ (k0 = i') := by omega
    unfold zeroB at hz
    split at hz
    case h_2 => cases hz
    rename_i info hinfo
    split at hz
    case h_2 => cases hz
    rename_i z hiz
    have hzl := zerosB_eq hz
    have hzv : ∀ w : World, (zeroValue e).run P w = .ok z w := fun w => by simp [zeroValue, typeInfo, hinfo, hiz]
    have hzc := zeroCells_zeros (n := q) hzl
    have hzlen : (cellsR (List.replicate q (List.replicate sz (0 : Int)))).length = q * sz := by
      rw [cellsR_length (sz := sz) fun l hl => by rw [List.eq_of_mem_replicate hl, List.length_replicate], List.length_replicate]
    have hle : (i' + q) * sz ≤ k0 * sz := Nat.mul_le_mul_right _ (by omega)
    rw [Nat.add_mul] at hle
    have hrs := run_storeCells_at (P := P) g (i' * sz) e (cellsR (List.replicate q (List.replicate sz (0 : Int)))) 0 cur w hg (by rw [hzlen, hcs]; omega) (cellsR_one _)
    rw [Nat.add_zero, hzlen] at hrs
    generalize hcur : (cur.toList.take (i' * sz) ++ cellsR (List.replicate q (List.replicate sz (0 : Int))) ++ cur.toList.drop (i' * sz + q * sz)).toArray = cur' at hrs
    have hcs' : cur'.size = k0 * sz := by
      rw [← hcur, List.size_toArray, List.length_append, List.length_append, List.length_take, List.length_drop, hzlen, Array.length_toList, hcs]
      omega
    have hg' : (w.setRow g cur').heap[g]? = some (.cells cur' e (0, 0)) := setRow_heap w g _ _ e (0, 0) hg
    have hLi : L.length * sz = i' * sz + q * sz := by rw [← Nat.add_mul]; congr 1; omega
    have hti : (cur.toList.take (i' * sz)).length = i' * sz := by rw [List.length_take, Array.length_toList, hcs]; omega
    have hck' : cur'.toList.take (L.length * sz) = cellsR (L.take i' ++ List.replicate q (List.replicate sz 0)) := by
      rw [cellsR_append, ← cellsR_take hlen, ← hck, List.take_take, Nat.min_eq_left (by omega), ← hcur, hLi, List.take_append, List.take_of_length_le (by rw [List.length_append, hti, hzlen]; omega), List.length_append, hti, hzlen, Nat.sub_self, List.take_zero, List.append_nil]
    refine ⟨w.setRow g cur', ?_, fin (Go.Proofs.YthjnecicagmdeaaGreat.Chg.setRow (S := (I.esl j).fp) (Chg.refl _ w) (.inl ((hfp g).2 rfl)) cur') ⟨?_, .inr ⟨g, k0, cur', rfl, Nat.zero_le _, hg', hn1, hn2, hcs', hck'⟩⟩⟩
    · rw [hden]
      obtain ⟨q', rfl⟩ : ∃ q', q = q' + 1 := ⟨q - 1, by omega⟩
      simp only [subV, hne, if_false, Option.map_some, add_lit, Nat.zero_add]
      simp [Builtin.clear_, ht, run_underlying hu, hzv, hzc, hrs]
    · rw [cellsR_length hlen', hll]
end
def hopR (P : Program) (o : Oper) (fr : List SV) (st : St) : Option (Option SV × St) :=
  match o.op with
  | .indexAddr t x i => match opv fr x, opv fr i with
    | some u, some v => match idxR P st t u v with
      | some r => some (some r, st)
      | none => none
    | _, _ => none
  | .fieldAddr s x f => match opv fr x with
    | some v => match fieldR P s v f with
      | some r => some (some r, st)
      | none => none
    | none => none
  | .load t x => match opv fr x with
    | some v => match loadR P st t v with
      | some r => some (some r, st)
      | none => none
    | none => none
  | .store t x y => match opv fr x, opv fr y with
    | some u, some v => match storeR P st t u v with
      | some st' => some (none, st')
      | none => none
    | _, _ => none
  | .slice t x lo hi mx => match opv fr x, mapO (opv fr) lo.toList, mapO (opv fr) hi.toList, mapO (opv fr) mx.toList with
    | some v, some l, some h, some m => match cutR P st t v l.head? h.head? m.head? with
      | some r => some (some r, st)
      | none => none
    | _, _, _, _ => none
  | .makeSlice t l c => match opv fr l, opv fr c with
    | some u, some v => match makeR P st t u v with
      | some (r, st') => some (some r, st')
      | none => none
    | _, _ => none
  | .call c => match c.callee with
    | .builtin b => match mapO (opv fr) c.args.toList with
      | some args => match b, c.argTypes.toList, args with
        | .len, t :: _, [m] => match lenV P st t m with
          | some r => some (some r, st)
          | none => none
        | .append, [t, tx], [s, x] => match appendR P st t tx s x with
          | some (r, st') => some (some r, st')
          | none => none
        | .clear, t :: _, [x] => match clearR P st t x with
          | some st' => some (some (.tup []), st')
          | none => none
        | _, _, _ => none
      | none => none
    | _ => none
  | _ => none
/-- an empty slice that was just made is an own row of none -/
def rowE (P : Program) (t : TypeId) (v : SV) (st : St) : SV × St := match v with
  | .slice (some (id, 0)) 0 (.lit 0) => match ownJ P t with
    | some (e, sz, c) => match look st.H id with
      | some (.cells e' [] none) => cond (Nat.beq e e') (.root st.nx, ⟨ins (killL [id] st.H) st.nx (.blob c (.app 13 [])), st.nx + 1, id :: st.wr⟩) (v, st)
      | _ => (v, st)
    | none => (v, st)
  | _ => (v, st)
def rowO (P : Program) (o : Oper) (r : Option SV × St) : Option SV × St := match o.op with
  | .buildSlice t 0 _ => match r.1 with
    | some v => (some (rowE P t v r.2).1, (rowE P t v r.2).2)
    | none => r
  | _ => r
def hop (P : Program) (o : Oper) (fr : List SV) (st : St) : Option (Option SV × St) := match hop0 P o fr st with
  | some r => some (rowO P o r)
  | none => hopR P o fr st
section
variable {P : Program} {A : Nat → Prop} {I : In} {st : St} {w w' : World} {fr : List SV} {a : Act}
theorem hopR_run (hok : Ok P A I st w) {o : Oper} {r : Option SV} {st' : St} (hf : Fr A I fr a) (h : hopR P o fr st = some (r, st')) :
    ∃ I' w', (execOp a.eval o).run P w = .ok (outOf I' r) w' ∧ Mv P A I st w I' st' w' ∧ ∀ v, r = some v → v.ok (up A st.nx st'.nx) I' := by
  have one : ∀ v : SV, v.ok A I → ∀ u, some v = some u → u.ok (up A st.nx st.nx) I := fun v hv u e => by cases e; exact ok_mono (fun i hi => .inl hi) v hv
  unfold hopR at h
  split at h
  case h_1 t x i ho =>
    split at h
    · rename_i u v hu hv
      split at h
      · rename_i r hr
        cases h
        have h1 := opv_den hf hu
        have h2 := opv_den hf hv
        have := idxR_run hok hr h1.2
        exact ⟨I, w, by simp [execOp, ho, h1.1, h2.1, this.1, outOf], Mv.refl hok, one _ this.2⟩
      · cases h
    · cases h
  case h_2 s x f ho =>
    split at h
    · rename_i v hv
      split at h
      · rename_i r hr
        cases h
        have h1 := opv_den hf hv
        have := fieldR_run hr h1.2 w
        exact ⟨I, w, by simp [execOp, ho, h1.1, this.1, outOf], Mv.refl hok, one _ this.2⟩
      · cases h
    · cases h
  case h_3 t x ho =>
    split at h
    · rename_i v hv
      split at h
      · rename_i r hr
        cases h
        have hd := opv_den hf hv
        have := loadR_run hok hr hd.2
        exact ⟨I, w, by simp [execOp, ho, hd.1, this.1, outOf], Mv.refl hok, one _ this.2⟩
      · cases h
    · cases h
  case h_4 t x y ho =>
    split at h
    · rename_i u v hu hv
      split at h
      · rename_i st1 hr
        cases h
        have h1 := opv_den hf hu
        have h2 := opv_den hf hv
        obtain ⟨w', hr, hm⟩ := storeR_run hok hr h1.2 h2.2
        exact ⟨I, w', by simp [execOp, ho, h1.1, h2.1, hr, outOf], hm, fun u e => by cases e⟩
      · cases h
    · cases h
  case h_5 t x lo hi mx ho =>
    split at h
    · rename_i y l h' m hy hl hh hm
      split at h
      · rename_i r hr
        cases h
        have h1 := opv_den hf hy
        have e1 := opvO_den hf hl
        have e2 := opvO_den hf hh
        have e3 := opvO_den hf hm
        have := cutR_run hok hr
        refine ⟨I, w, ?_, Mv.refl hok, one _ this.2⟩
        simp only [execOp, ho, h1.1, e1.1, e2.1, e3.1]
        rw [Sem.run_bind, this.1]
        rfl
      · cases h
    · cases h
  case h_6 t l c ho =>
    split at h
    · rename_i u v hu hv
      split at h
      · rename_i r st1 hr
        cases h
        have h1 := opv_den hf hu
        have h2 := opv_den hf hv
        obtain ⟨I', w', hr, hm, hv⟩ := makeR_run hok hr
        refine ⟨I', w', ?_, hm, fun u e => by cases e; exact hv⟩
        simp only [execOp, ho, h1.1, h2.1]
        rw [Sem.run_bind, hr]
        rfl
      · cases h
    · cases h
  case h_7 c ho =>
    split at h
    · rename_i b hb
      split at h
      · rename_i args hargs
        have h1 := opvL_den hf hargs
        have e1 : c.args.map a.eval = (denL I args).toArray := by rw [← h1.1, ← Array.toList_map, Array.toArray_toList]
        split at h
        · rename_i t l m hts
          split at h
          · rename_i r hr
            cases h
            have ht : c.argTypes[0]? = some t := by rw [← Array.getElem?_toList, hts]; rfl
            have := lenV_run hok hr h1.2.1 ht o.type (c.args.map fun | .const _ => true | _ => false)
            refine ⟨I, w, ?_, Mv.refl hok, one _ this.2⟩
            simp only [execOp, ho, resolve, hb, Sem.run_bind, Sem.run_pure, Result.andThen_ok, invoke, e1]
            exact this.1
          · cases h
        · rename_i t tx s x hts
          split at h
          · rename_i r st' hs
            cases h
            have ht : c.argTypes = #[t, tx] := by rw [← Array.toArray_toList (xs := c.argTypes), hts]
            obtain ⟨I', w', hr, hm, hv⟩ := appendR_run hok hs h1.2.2.1 o.type
            refine ⟨I', w', ?_, hm, fun u e => by cases e; exact hv⟩
            simp only [execOp, ho, resolve, hb, Sem.run_bind, Sem.run_pure, Result.andThen_ok, invoke, e1, builtin, ht, denL]
            rw [hr]
            rfl
          · cases h
        · rename_i t l x hts
          split at h
          · rename_i st' hs
            cases h
            have ht : c.argTypes[0]? = some t := by rw [← Array.getElem?_toList, hts]; rfl
            obtain ⟨w', hr, hm⟩ := clearR_run (ty := o.type) hok ht hs h1.2.1
            refine ⟨I, w', ?_, hm, fun u e => by cases e; trivial⟩
            simp only [execOp, ho, resolve, hb, Sem.run_bind, Sem.run_pure, Result.andThen_ok, invoke, e1, builtin, denL]
            rw [hr]
            rfl
          · cases h
        · cases h
      · cases h
    · cases h
  case h_8 => cases h
theorem rowE_run (hok : Ok P A I st w) {t : TypeId} {v : SV} (hv : v.ok A I) : ∃ I', (rowE P t v st).1.den I' = v.den I ∧ Mv P A I st w I' (rowE P t v st).2 w ∧ (rowE P t v st).1.ok (up A st.nx (rowE P t v st).2.nx) I' := by
  have triv : ∃ I', v.den I' = v.den I ∧ Mv P A I st w I' st w ∧ v.ok (up A st.nx st.nx) I' := ⟨I, rfl, Mv.same hok (Chg.refl _ w), ok_mono (fun i hi => .inl hi) v hv⟩
  unfold rowE
  split
  case h_2 => exact triv
  rename_i id
  split
  case h_2 => exact triv
  rename_i e sz c ho
  split
  case h_2 => exact triv
  rename_i e' hl
  rw [Bool.cond_eq_ite]
  split
  case isFalse => exact triv
  rename_i hb
  rw [Nat.beq_eq] at hb
  subst hb
  obtain ⟨hc, hsl⟩ := ownJ_spec ho
  obtain ⟨bytes, hT, hby, hz, hu⟩ := slTyB_spec hsl
  have hR := Th.rows_ hc
  obtain ⟨h1, ob, h2, h3⟩ := hok.real _ _ hl
  simp only [Real, denL] at h3
  subst h3
  have hown : w.ownsRow 0 e sz (.slice (some ⟨I.adr id, 0, none⟩) 0 0) 0 [] := ⟨by simp, .inr ⟨_, 0, #[], rfl, Nat.zero_le _, h2, Nat.le_refl _, Nat.zero_le _, by simp, by simp⟩⟩
  have hrow' := RowAt.grown (L := []) hT.pos (fun l hl => (by cases hl)) hown
  have hN : Th.rw_ ((Tm.app 13 []).den I.val.r) = [] := by simp only [Tm.den, tdenL, hR.nil]
  rw [← hN] at hrow'
  refine ⟨I.putE st.nx ⟨(none, 0), _, ⟨_, hrow'.one⟩⟩, ?_, Mv.turn (ks := [id]) hok ⟨(none, 0), _, ⟨_, hrow'.one⟩⟩ (fun k hk => by rw [List.mem_singleton.1 hk, hl]; simp) (Chg.refl _ w) ((Th.row_ hc).2 hrow') (fun b hb => ?_), up_succ _⟩
  · simp [SV.den, In.putE, padr, Cap.den]
  · cases hb
    exact .inr ⟨id, List.mem_singleton.2 rfl, by rw [h1]⟩
theorem hop_run (hok : Ok P A I st w) {o : Oper} {r : Option SV} {st' : St} (hf : Fr A I fr a) (h : hop P o fr st = some (r, st')) :
    ∃ I' w', (execOp a.eval o).run P w = .ok (outOf I' r) w' ∧ Mv P A I st w I' st' w' ∧ ∀ v, r = some v → v.ok (up A st.nx st'.nx) I' := by
  unfold hop at h
  split at h
  · rename_i r' hr
    obtain ⟨I', w', h1, h2, h3⟩ := hop0_run hok hf hr
    have triv : rowO P o r' = r' → ∃ I' w', (execOp a.eval o).run P w = .ok (outOf I' r) w' ∧ Mv P A I st w I' st' w' ∧ ∀ v, r = some v → v.ok (up A st.nx st'.nx) I' := fun e => by
      rw [e] at h
      cases h
      exact ⟨I', w', h1, h2, h3⟩
    unfold rowO at h triv
    split at h
    case h_2 => rename_i hn; exact triv (by split <;> first | rfl | (rename_i h0; exact absurd h0 (hn _ _)))
    rename_i t ps ho
    obtain ⟨rv, rs⟩ := r'
    cases rv with
    | none => cases h; exact ⟨I', w', h1, h2, h3⟩
    | some v =>
      cases h
      obtain ⟨I2, k1, k2, k3⟩ := rowE_run (t := t) h2.ok (h3 v rfl)
      refine ⟨I2, w', ?_, h2.trans hok k2, fun v' hv' => ?_⟩
      · rw [h1]
        simp only [outOf, k1]
      · cases hv'
        have n1 := h2.nx
        have n2 := k2.nx
        exact ok_mono (fun i hi => hi.elim (fun hi => hi.elim .inl fun hi => .inr ⟨hi.1, Nat.lt_of_lt_of_le hi.2 n2⟩) fun hi => .inr ⟨Nat.le_trans n1 hi.1, hi.2⟩) _ k3
  · exact hopR_run hok hf h
end
end Go.E2
