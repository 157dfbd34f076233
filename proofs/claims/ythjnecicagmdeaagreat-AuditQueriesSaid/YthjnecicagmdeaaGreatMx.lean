/-
  A region that draws its order: one walk in the order of the text serves every order, where each operation either has one value, or leaves something of which a fact is known that no other operation of the region can undo (a new block, a row that a call made). Letters stand for what is not known; what is said of an operation may name only the letters of those that it waits for. No program is named here. No conditions.
-/
import Derived.Test.YthjnecicagmdeaaGreatQs
import Derived.StillTail
namespace Go.Al
open Go.RowKit
set_option linter.unusedVariables false

/-- a value for each operation of a region -/
abbrev Env := Nat → Value
/-- hangs on some letters alone -/
def Loc {α : Sort _} (an : Nat → Bool) (f : Env → α) : Prop := ∀ e e' : Env, (∀ j, an j = true → e j = e' j) → f e = f e'
theorem Loc.const {α : Sort _} (an : Nat → Bool) (c : α) : Loc an (fun _ => c) := fun _ _ _ => rfl

section
variable (md : Region.Mode) (ops : Array Oper)
/-- does k wait for j, through whatever others? -/
def anc : Nat → Nat → Nat → Bool
  | 0, _, _ => false
  | f + 1, k, j => (ops[k]?).any fun o => o.after.any fun e => Region.binds md e && (e.on == j || anc f e.on j)
def dstAt (k : Nat) : Option Tmp := (ops[k]?).bind (·.dst)
/-- the first n wait for earlier ones alone, and any two are in order or apart -/
def mixB (n : Nat) : Bool :=
  (List.range n).all fun k => (ops[k]?).any fun ok =>
    (ok.after.all fun e => !Region.binds md e || decide (e.on < k)) &&
      (List.range ops.size).all fun j => decide (j ≤ k) || Region.waitsFor md ops j k || (ops[j]?).all fun oj => ok.apart ops oj
def heads (n : Nat) : Array Bool := Array.ofFn fun j : Fin ops.size => decide (j.1 < n)
def mixTailB (n : Nat) : Bool :=
  Region.noSelect ops && decide (n ≤ ops.size) && mixB md ops n && (decide (n = ops.size) || (Region.sinkB md ops n && Region.chainB md ops n)) && Region.seqB md ops (ops.size - n) n (heads ops n)
end

/-- the frame behind those of the first n of which p is true -/
def actP (ops : Array Oper) (a : Act) (val : Nat → Value) (p : Nat → Bool) (l : List Nat) : Act := l.foldl (fun a j => if p j then a.put (dstAt ops j) (val j) else a) a

section
variable {P : Program} {ops : Array Oper} {md : Region.Mode} {R : World → World → Prop} {Rk : Nat → World → World → Prop} {w0 : World}

/-- the walk in the order of the text -/
def wpMix (P : Program) (md : Region.Mode) (ops : Array Oper) (R : World → World → Prop) (Rk : Nat → World → World → Prop) (w0 : World) (Fin : Act → World → Prop) : List Oper → Nat → (Env → Act) → (Env → Nat → World → Prop) → Prop
  | [], k, A, F => ∀ e w, R w0 w → (∀ j, j < k → F e j w) → Fin (A e) w
  | o :: rest, k, A, F => ∃ (val : Env → Value → Value) (G : Env → Value → World → Prop),
      Loc (anc md ops ops.size k) val ∧ Loc (anc md ops ops.size k) G ∧ (∀ i, i ≠ k → anc md ops ops.size k i = false → ∀ e u w w', Rk i w w' → G e u w → G e u w') ∧
      (∀ e w, R w0 w → (∀ j, anc md ops ops.size k j = true → F e j w) →
        (Region.wanted o (yielded ops (A e).tmps) = true → o.wp P (A e) w (fun a' w' => ∃ u, a' = (A e).put o.dst (val e u) ∧ G e u w' ∧ Rk k w w') (fun _ _ _ => False)) ∧
        (Region.wanted o (yielded ops (A e).tmps) = false → (A e).put o.dst (val e undef) = (A e).put o.dst undef ∧ G e undef w)) ∧
      wpMix P md ops R Rk w0 Fin rest (k + 1) (fun e => (A e).put o.dst (val e (e k))) (fun e j w => if j = k then G e (e k) w else F e j w)

/-- the frames on the way -/
def actUp (ops : Array Oper) (val : Nat → Env → Value → Value) (A : Env → Act) (k : Nat) : Nat → Env → Act
  | 0, e => A e
  | m + 1, e => (actUp ops val A k m e).put (dstAt ops (k + m)) (val (k + m) e (e (k + m)))
def factUp (G : Nat → Env → Value → World → Prop) (F : Env → Nat → World → Prop) (k : Nat) : Nat → Env → Nat → World → Prop
  | 0, e, j, w => F e j w
  | m + 1, e, j, w => if j = k + m then G (k + m) e (e (k + m)) w else factUp G F k m e j w

theorem actUp_shift {val : Nat → Env → Value → Value} {A : Env → Act} {k : Nat} : ∀ (m : Nat) (e : Env), actUp ops val (fun e => (A e).put (dstAt ops k) (val k e (e k))) (k + 1) m e = actUp ops val A k (m + 1) e
  | 0, e => rfl
  | m + 1, e => by
    rw [actUp, actUp_shift m e]
    have h : k + 1 + m = k + (m + 1) := by omega
    rw [h]
    rfl
theorem factUp_shift {G : Nat → Env → Value → World → Prop} {F : Env → Nat → World → Prop} {k : Nat} : ∀ (m : Nat) (e : Env) (j : Nat) (w : World), factUp G (fun e j w => if j = k then G k e (e k) w else F e j w) (k + 1) m e j w = factUp G F k (m + 1) e j w
  | 0, e, j, w => by simp [factUp]
  | m + 1, e, j, w => by
    rw [factUp, factUp_shift m e j w]
    have h : k + 1 + m = k + (m + 1) := by omega
    rw [h]
    rfl
theorem actUp_congr {val val' : Nat → Env → Value → Value} {A : Env → Act} {k : Nat} : ∀ (m : Nat) (e : Env), (∀ i, k ≤ i → i < k + m → val i = val' i) → actUp ops val A k m e = actUp ops val' A k m e
  | 0, _, _ => rfl
  | m + 1, e, h => by
    rw [actUp, actUp, actUp_congr m e (fun i h1 h2 => h i h1 (by omega)), h (k + m) (by omega) (by omega)]
theorem factUp_congr {G G' : Nat → Env → Value → World → Prop} {F : Env → Nat → World → Prop} {k : Nat} : ∀ (m : Nat) (e : Env) (j : Nat) (w : World), (∀ i, k ≤ i → i < k + m → G i = G' i) → factUp G F k m e j w = factUp G' F k m e j w
  | 0, _, _, _, _ => rfl
  | m + 1, e, j, w, h => by
    rw [factUp, factUp, factUp_congr m e j w (fun i h1 h2 => h i h1 (by omega)), h (k + m) (by omega) (by omega)]

/-- what the walk shows of operation i -/
structure Obl (P : Program) (md : Region.Mode) (ops : Array Oper) (R : World → World → Prop) (Rk : Nat → World → World → Prop) (w0 : World) (o : Oper) (i : Nat) (val : Env → Value → Value) (G : Env → Value → World → Prop) (A : Env → Act) (F : Env → Nat → World → Prop) : Prop where
  lv : Loc (anc md ops ops.size i) val
  lg : Loc (anc md ops ops.size i) G
  st : ∀ j, j ≠ i → anc md ops ops.size i j = false → ∀ e u w w', Rk j w w' → G e u w → G e u w'
  go : ∀ e w, R w0 w → (∀ j, anc md ops ops.size i j = true → F e j w) →
        (Region.wanted o (yielded ops (A e).tmps) = true → o.wp P (A e) w (fun a' w' => ∃ u, a' = (A e).put o.dst (val e u) ∧ G e u w' ∧ Rk i w w') (fun _ _ _ => False)) ∧
        (Region.wanted o (yielded ops (A e).tmps) = false → (A e).put o.dst (val e undef) = (A e).put o.dst undef ∧ G e undef w)

theorem fam_of_mix {Fin : Act → World → Prop} : ∀ (l : List Oper) (k : Nat) (A : Env → Act) (F : Env → Nat → World → Prop), (∀ j, j < l.length → l[j]? = ops[k + j]?) → wpMix P md ops R Rk w0 Fin l k A F →
    ∃ (val : Nat → Env → Value → Value) (G : Nat → Env → Value → World → Prop), (∀ m (o : Oper), l[m]? = some o → Obl P md ops R Rk w0 o (k + m) (val (k + m)) (G (k + m)) (actUp ops val A k m) (factUp G F k m)) ∧
      ∀ e w, R w0 w → (∀ j, j < k + l.length → factUp G F k l.length e j w) → Fin (actUp ops val A k l.length e) w
  | [], k, A, F, _, h => ⟨fun _ _ v => v, fun _ _ _ _ => True, fun m o hm => by simp at hm, fun e w hR hF => h e w hR hF⟩
  | o :: l, k, A, F, hl, h => by
    obtain ⟨v0, G0, h1, h2, h3, h4, h5⟩ := h
    have hd : o.dst = dstAt ops k := by
      have := hl 0 (by simp)
      simp at this
      simp [dstAt, ← this]
    rw [hd] at h5
    obtain ⟨val, G, hf, hfin⟩ := fam_of_mix l (k + 1) _ _ (fun j hj => by have := hl (j + 1) (by simp; omega); simpa [Nat.add_assoc, Nat.add_comm 1 j] using this) h5
    have ev : ∀ i, k + 1 ≤ i → val i = (fun i => if i = k then v0 else val i) i := fun i hi => by simp [show i ≠ k by omega]
    have eg : ∀ i, k + 1 ≤ i → G i = (fun i => if i = k then G0 else G i) i := fun i hi => by simp [show i ≠ k by omega]
    have ek : (fun i => if i = k then v0 else val i) k = v0 := by simp
    have gk : (fun i => if i = k then G0 else G i) k = G0 := by simp
    have ea : ∀ (m : Nat), actUp ops val (fun e => (A e).put (dstAt ops k) (v0 e (e k))) (k + 1) m = actUp ops (fun i => if i = k then v0 else val i) A k (m + 1) := fun m => by
      funext e
      rw [← actUp_shift]
      simp only [if_true]
      exact actUp_congr m e fun i h1 _ => ev i h1
    have ef : ∀ (m : Nat), factUp G (fun e j w => if j = k then G0 e (e k) w else F e j w) (k + 1) m = factUp (fun i => if i = k then G0 else G i) F k (m + 1) := fun m => by
      funext e j w
      rw [← factUp_shift]
      simp only [if_true]
      exact factUp_congr m e j w fun i h1 _ => eg i h1
    refine ⟨fun i => if i = k then v0 else val i, fun i => if i = k then G0 else G i, fun m o' hm => ?_, fun e w hR hF => ?_⟩
    · cases m with
      | zero =>
        obtain rfl : o = o' := by simpa using hm
        simp only [Nat.add_zero, if_true]
        exact ⟨h1, h2, h3, h4⟩
      | succ m =>
        have := hf m o' (by simpa using hm)
        rw [ea, ef, ev (k + 1 + m) (by omega), eg (k + 1 + m) (by omega), show k + 1 + m = k + (m + 1) by omega] at this
        exact this
    · have := hfin e w hR (fun j hj => by rw [ef]; exact hF j (by simp only [List.length_cons]; omega))
      rw [ea] at this
      exact this

/-- two frames that agree at some slots -/
structure Agr (T : List Tmp) (a a' : Act) : Prop where
  size : a.tmps.size = a'.tmps.size
  eq : ∀ t ∈ T, a.tmps[t]? = a'.tmps[t]?
theorem Act.size_put (a : Act) (d : Option Tmp) (v : Value) : (a.put d v).tmps.size = a.tmps.size := by
  cases d <;> simp [Act.put]
theorem Agr.both {T : List Tmp} {a a' : Act} (h : Agr T a a') (d : Option Tmp) (v : Value) : Agr T (a.put d v) (a'.put d v) :=
  ⟨by rw [Act.size_put, Act.size_put]; exact h.size, fun t ht => by
    cases d with
    | none => exact h.eq t ht
    | some d =>
      simp only [Act.put, Array.getElem?_setIfInBounds, h.size]
      split
      · rfl
      · exact h.eq t ht⟩
theorem get_put_ne {a : Act} {d : Option Tmp} {v : Value} {t : Tmp} (h : d ≠ some t) : (a.put d v).tmps[t]? = a.tmps[t]? := by
  cases d with
  | none => rfl
  | some d => simp only [Act.put, Array.getElem?_setIfInBounds_ne (fun e => h (congrArg some e))]
theorem Agr.left {T : List Tmp} {a a' : Act} (h : Agr T a a') {d : Option Tmp} (v : Value) (hd : ∀ t, d = some t → t ∉ T) : Agr T (a.put d v) a' :=
  ⟨by rw [Act.size_put]; exact h.size, fun t ht => by rw [get_put_ne (fun e => hd t e ht)]; exact h.eq t ht⟩
theorem Agr.right {T : List Tmp} {a a' : Act} (h : Agr T a a') {d : Option Tmp} (v : Value) (hd : ∀ t, d = some t → t ∉ T) : Agr T a (a'.put d v) :=
  ⟨by rw [Act.size_put]; exact h.size, fun t ht => by rw [get_put_ne (fun e => hd t e ht)]; exact h.eq t ht⟩
theorem agr_actP {T : List Tmp} {val : Nat → Value} {p q : Nat → Bool} : ∀ (l : List Nat) (a a' : Act), (∀ j ∈ l, p j ≠ q j → ∀ t, dstAt ops j = some t → t ∉ T) → Agr T a a' → Agr T (actP ops a val p l) (actP ops a' val q l)
  | [], _, _, _, h => h
  | j :: l, a, a', hl, h => by
    unfold actP
    rw [List.foldl_cons, List.foldl_cons]
    refine agr_actP l _ _ (fun j' hj' => hl j' (List.mem_cons_of_mem _ hj')) ?_
    have hj := hl j (List.mem_cons_self ..)
    cases hp : p j <;> cases hq : q j
    · simpa [hp, hq] using h
    · simpa [hp, hq] using h.right (val j) (hj (by rw [hp, hq]; decide))
    · simpa [hp, hq] using h.left (val j) (hj (by rw [hp, hq]; decide))
    · simpa [hp, hq] using h.both (dstAt ops j) (val j)
theorem agr_exec {o : Oper} (hs : ∀ cs b, o.op ≠ .select cs b) {a a' : Act} (h : Agr (o.looksAt ops) a a') : execOp a.eval o = execOp a'.eval o :=
  execOp_congr o hs fun x hx => by
    cases x with
    | tmp t =>
      have ht : t ∈ o.looksAt ops := List.mem_append_left _ (List.mem_filterMap.2 ⟨.tmp t, by simpa using hx, rfl⟩)
      simp only [Act.eval, Array.getD_eq_getD_getElem?, h.eq t ht]
    | _ => rfl
theorem agr_wanted {o : Oper} {a a' : Act} (h : Agr (o.looksAt ops) a a') : Region.wanted o (yielded ops a.tmps) = Region.wanted o (yielded ops a'.tmps) := by
  unfold Region.wanted
  cases hg : o.guard with
  | none => rfl
  | some gw =>
    obtain ⟨g, want⟩ := gw
    have hy : yielded ops a.tmps g = yielded ops a'.tmps g := by
      unfold yielded
      cases ht : (ops[g]?).bind (·.dst) with
      | none => rfl
      | some t =>
        have hm : t ∈ o.looksAt ops := by simp [Oper.looksAt, hg, ht]
        simp only [Option.bind_some, h.eq t hm]
    simp only [hy]
theorem put_eq {a A : Act} {d : Option Tmp} {v x : Value} (hs : a.tmps.size = A.tmps.size) (h : A.put d v = A.put d x) : a.put d v = a.put d x := by
  cases d with
  | none => rfl
  | some d =>
    by_cases hd : d < A.tmps.size
    · have h2 := congrArg (fun b : Act => b.tmps[d]?) h
      simp [Act.put, hd] at h2
      rw [h2]
    · simp only [Act.put]
      rw [Array.setIfInBounds_eq_of_size_le (by rw [hs]; exact Nat.not_lt.1 hd), Array.setIfInBounds_eq_of_size_le (by rw [hs]; exact Nat.not_lt.1 hd)]
/-- an operation at a frame that agrees with the walk's -/
theorem wp_agr {o : Oper} (hs : ∀ cs b, o.op ≠ .select cs b) {a A : Act} (h : Agr (o.looksAt ops) a A) {w : World} {val : Value → Value} {G : Value → World → Prop} {K : Act → World → Prop} {Q : Exit → Act → World → Prop}
    (hw : o.wp P A w (fun a' w' => ∃ u, a' = A.put o.dst (val u) ∧ G u w' ∧ R w w') (fun _ _ _ => False)) (hK : ∀ u w', G u w' → R w w' → K (a.put o.dst (val u)) w') : o.wp P a w K Q := by
  unfold Oper.wp at *
  rw [agr_exec hs h]
  generalize (execOp A.eval o).run P w = r at *
  have fin : ∀ v w', (∃ u, A.put o.dst v = A.put o.dst (val u) ∧ G u w' ∧ R w w') → K (a.put o.dst v) w' := fun v w' ⟨u, e, h1, h2⟩ => by
    rw [put_eq h.size e]
    exact hK u w' h1 h2
  cases r with
  | ok n w' =>
    cases n <;> simp only [Oper.upon] at hw ⊢
    case value v => exact fin _ _ hw
    case skip => exact fin _ _ hw
    case defer d =>
      obtain ⟨u, e, _⟩ := hw
      have e2 := congrArg Act.defers e
      cases hd : o.dst <;> rw [hd] at e2 <;> simp [Act.put] at e2
    case enter f args =>
      refine Calls.mono hw fun e w'' he => ?_
      cases e with
      | returned v => exact fin _ _ he
      | panicked c => exact he.elim
      | outgrown =>
        obtain ⟨_, _, hf⟩ := he
        exact hf.elim
    case row row args => exact Rows.mono hw fun v w'' he => fin _ _ he
  | halt x w' =>
    cases x <;> simp only [Oper.upon] at hw

theorem actP_congr {val val' : Nat → Value} {p q : Nat → Bool} : ∀ (l : List Nat) (a : Act), (∀ j ∈ l, p j = q j ∧ (p j = true → val j = val' j)) → actP ops a val p l = actP ops a val' q l
  | [], _, _ => rfl
  | j :: l, a, h => by
    unfold actP
    rw [List.foldl_cons, List.foldl_cons]
    have hj := h j (List.mem_cons_self ..)
    have e : (if p j = true then a.put (dstAt ops j) (val j) else a) = if q j = true then a.put (dstAt ops j) (val' j) else a := by
      rw [← hj.1]
      split
      · rename_i hp; rw [hj.2 hp]
      · rfl
    rw [e]
    exact actP_congr l _ fun j' hj' => h j' (List.mem_cons_of_mem _ hj')
theorem actP_put {val : Nat → Value} {p : Nat → Bool} {d : Option Tmp} {v : Value} : ∀ (l : List Nat) (a : Act), (∀ j ∈ l, p j = true → ∀ t, d = some t → dstAt ops j ≠ some t) → actP ops (a.put d v) val p l = (actP ops a val p l).put d v
  | [], _, _ => rfl
  | j :: l, a, h => by
    have ih := fun a => actP_put (val := val) (p := p) (d := d) (v := v) l a (fun j' hj' => h j' (List.mem_cons_of_mem _ hj'))
    unfold actP at ih ⊢
    rw [List.foldl_cons, List.foldl_cons]
    by_cases hp : p j = true
    · rw [if_pos hp, if_pos hp, Act.put_comm a v (val j) (h j (List.mem_cons_self ..) hp)]
      exact ih _
    · rw [if_neg hp, if_neg hp]
      exact ih _
theorem actP_append (a : Act) (val : Nat → Value) (p : Nat → Bool) (l r : List Nat) : actP ops a val p (l ++ r) = actP ops (actP ops a val p l) val p r := List.foldl_append ..
theorem range_at {n i : Nat} (h : i < n) : List.range n = List.range i ++ i :: List.range' (i + 1) (n - (i + 1)) := by
  have h1 : n = i + (1 + (n - (i + 1))) := by omega
  conv => lhs; rw [h1, List.range_eq_range', ← List.range'_append_1]
  rw [List.range_eq_range', Nat.zero_add, Nat.add_comm 1 (n - (i + 1)), List.range'_succ]
theorem actUp_actP {val : Nat → Env → Value → Value} {a : Act} {e : Env} : ∀ m, actUp ops val (fun _ => a) 0 m e = actP ops a (fun j => val j e (e j)) (fun _ => true) (List.range m)
  | 0 => rfl
  | m + 1 => by
    rw [actUp, actUp_actP m, List.range_succ, actP_append, Nat.zero_add]
    rfl
theorem actP_lt {val : Nat → Value} {a : Act} {i n : Nat} (h : i ≤ n) : actP ops a val (fun j => decide (j < i)) (List.range n) = actP ops a val (fun _ => true) (List.range i) := by
  have e : List.range n = List.range i ++ List.range' i (n - i) := by
    have h1 : n = i + (n - i) := by omega
    conv => lhs; rw [h1, List.range_eq_range', ← List.range'_append_1]
    rw [List.range_eq_range', Nat.zero_add]
  rw [e, actP_append]
  rw [actP_congr (val' := val) (q := fun _ => true) (List.range i) a fun j hj => ⟨by simpa using hj, fun _ => rfl⟩]
  generalize actP ops a val (fun _ => true) (List.range i) = b
  have none : ∀ (l : List Nat) (b : Act), (∀ j ∈ l, i ≤ j) → actP ops b val (fun j => decide (j < i)) l = b := by
    intro l
    induction l with
    | nil => intro b _; rfl
    | cons j l ih =>
      intro b hl
      have hj := hl j (List.mem_cons_self ..)
      unfold actP at ih ⊢
      rw [List.foldl_cons, if_neg (by simp; omega)]
      exact ih b fun j' hj' => hl j' (List.mem_cons_of_mem _ hj')
  exact none _ b fun j hj => by simp at hj; omega

theorem fact_of_up {G : Nat → Env → Value → World → Prop} {e : Env} {w : World} {j : Nat} : ∀ m, (j < m → G j e (e j) w) → factUp G (fun _ _ _ => True) 0 m e j w
  | 0, _ => trivial
  | m + 1, h => by
    unfold factUp
    split
    · rename_i hj
      rw [Nat.zero_add] at hj ⊢
      subst hj
      exact h (by omega)
    · exact fact_of_up m fun hj => h (by omega)

theorem anc_listed {n : Nat} {listed : Array Bool} (inv : HeadInv md ops n listed) : ∀ (f k j : Nat) (o : Oper), ops[k]? = some o → (∀ e ∈ o.after, Region.binds md e = true → listed.getD e.on false = true) → anc md ops f k j = true → listed.getD j false = true := by
  intro f
  induction f with
  | zero => intro k j o _ _ h; cases h
  | succ f ih =>
    intro k j o ho hall h
    unfold anc at h
    rw [ho, Option.any_some, Array.any_eq_true'] at h
    obtain ⟨e, he, hb⟩ := h
    simp only [Bool.and_eq_true, Bool.or_eq_true, beq_iff_eq] at hb
    have hl := hall e he hb.1
    rcases hb.2 with h2 | h2
    · rw [← h2]; exact hl
    · cases ho' : ops[e.on]? with
      | none =>
        cases f with
        | zero => cases h2
        | succ f => unfold anc at h2; rw [ho'] at h2; cases h2
      | some o' => exact ih e.on j o' ho' (inv.closed e.on o' ho' hl) h2

theorem mix_spec {n : Nat} (h : mixB md ops n = true) {k : Nat} (hk : k < n) : ∃ ok, ops[k]? = some ok ∧ (∀ e ∈ ok.after, Region.binds md e = true → e.on < k) ∧
    ∀ j oj, ops[j]? = some oj → k < j → (∀ e ∈ oj.after, Region.binds md e = true → e.on ≠ k) → ok.apart ops oj = true := by
  have h1 := List.all_eq_true.1 h k (List.mem_range.2 hk)
  rw [Option.any_eq_true] at h1
  obtain ⟨ok, hok, h2⟩ := h1
  simp only [Bool.and_eq_true] at h2
  refine ⟨ok, hok, fun e he hb => ?_, fun j oj hoj hkj hno => ?_⟩
  · have := Array.all_eq_true_iff_forall_mem.1 h2.1 e he
    simp only [hb, Bool.not_true, Bool.false_or, decide_eq_true_eq] at this
    exact this
  · have := List.all_eq_true.1 h2.2 j (List.mem_range.2 (Array.getElem?_eq_some_iff.1 hoj).1)
    simp only [Bool.or_eq_true, decide_eq_true_eq, hoj, Option.all_some] at this
    rcases this with (h3 | h3) | h3
    · omega
    · obtain ⟨o', ho', e, he, hb, hon⟩ := Region.waitsFor_spec h3
      obtain rfl : o' = oj := Option.some.inj (ho'.symm.trans hoj)
      exact absurd hon (hno e he hb)
    · exact h3

theorem least_not {p : Nat → Bool} : ∀ n, (∃ j, j < n ∧ p j = false) → ∃ i, i < n ∧ p i = false ∧ ∀ j, j < i → p j = true
  | 0, ⟨j, hj, _⟩ => absurd hj (Nat.not_lt_zero j)
  | n + 1, ⟨j, hj, hp⟩ => by
    by_cases h : ∃ j, j < n ∧ p j = false
    · obtain ⟨i, h1, h2, h3⟩ := least_not n h
      exact ⟨i, by omega, h2, h3⟩
    · refine ⟨n, by omega, ?_, fun k hk => ?_⟩
      · rcases Nat.lt_or_ge j n with h' | h'
        · exact absurd ⟨j, h', hp⟩ h
        · obtain rfl : j = n := by omega
          exact hp
      · cases hpk : p k with
        | true => rfl
        | false => exact absurd ⟨k, hk, hpk⟩ h
def cntU (listed : Array Bool) (n : Nat) : Nat := (List.range n).countP fun j => !listed.getD j false
theorem cntU_set {listed : Array Bool} {n i : Nat} (hi : i < n) (hs : i < listed.size) (hu : listed.getD i false = false) : cntU listed n = cntU (listed.setIfInBounds i true) n + 1 := by
  unfold cntU
  rw [range_at hi, List.countP_append, List.countP_append, List.countP_cons, List.countP_cons]
  have e1 : ∀ l : List Nat, (∀ j ∈ l, j ≠ i) → l.countP (fun j => !listed.getD j false) = l.countP fun j => !(listed.setIfInBounds i true).getD j false := fun l hl => by
    apply List.countP_congr
    intro j hj
    rw [getD_set_ne false (Ne.symm (hl j hj))]
  rw [e1 (List.range i) fun j hj => by simp at hj; omega, e1 (List.range' (i + 1) (n - (i + 1))) fun j hj => by simp at hj; omega, hu]
  have : (listed.setIfInBounds i true).getD i false = true := by simp [hs]
  rw [this]
  simp
  omega

theorem run_mix {n g : Nat} {a0 : Act} {val : Nat → Env → Value → Value} {G : Nat → Env → Value → World → Prop} {Q : Exit → Act → World → Prop} (hT : ∀ a b c, R a b → R b c → R a c) (hsub : ∀ k w w', Rk k w w' → R w w') (hr : ∀ k w, Rk k w w)
    (chk : mixB md ops n = true) (hsel : ∀ (j : Nat) (o : Oper) cs b, ops[j]? = some o → o.op ≠ .select cs b) (hn : n ≤ ops.size)
    (tailW : ∀ listed, HeadInv md ops n listed → (∃ i, i < n ∧ listed.getD i true = false) → ∀ t ∈ Region.ready md ops listed, t < n)
    (fam : ∀ i o, i < n → ops[i]? = some o → Obl P md ops R Rk w0 o i (val i) (G i) (actUp ops val (fun _ => a0) 0 i) (factUp G (fun _ _ _ => True) 0 i))
    (fin : ∀ e w, R w0 w → (∀ j, j < n → G j e (e j) w) → wpAny P md ops Q g (heads ops n) (actUp ops val (fun _ => a0) 0 n e) w) :
    ∀ (m : Nat) (listed : Array Bool) (e : Env) (w : World), cntU listed n = m → HeadInv md ops n listed → R w0 w → (∀ j, j < n → listed.getD j false = true → G j e (e j) w) →
      wpAny P md ops Q (m + g) listed (actP ops a0 (fun j => val j e (e j)) (fun j => listed.getD j false) (List.range n)) w := by
  intro m
  induction m with
  | zero =>
    intro listed e w hc inv hw hG
    have hall : ∀ j, j < n → listed.getD j false = true := fun j hj => by
      have := List.countP_eq_zero.1 hc j (List.mem_range.2 hj)
      simpa using this
    have hl : listed = heads ops n := by
      apply Array.ext
      · rw [inv.size]; simp [heads]
      · intro j h1 h2
        simp only [heads, Array.getElem_ofFn]
        by_cases hjn : j < n
        · have := hall j hjn
          simp [h1] at this
          rw [this]
          simp [hjn]
        · have := inv.tail j (by omega) (by rw [← inv.size]; exact h1)
          simp [h1] at this
          rw [this]
          simp [hjn]
    rw [Nat.zero_add]
    have := fin e w hw fun j hj => hG j hj (hall j hj)
    rw [actUp_actP, ← hl] at this
    rw [actP_congr (val' := fun j => val j e (e j)) (q := fun _ => true) (List.range n) a0 fun j hj => ⟨hall j (List.mem_range.1 hj), fun _ => rfl⟩]
    exact this
  | succ m ih =>
    intro listed e w hc inv hw hG
    have hex : ∃ j, j < n ∧ listed.getD j false = false := by
      have : 0 < (List.range n).countP fun j => !listed.getD j false := by unfold cntU at hc; omega
      obtain ⟨j, hj, hp⟩ := List.countP_pos_iff.1 this
      exact ⟨j, List.mem_range.1 hj, by simpa using hp⟩
    rw [show m + 1 + g = (m + g) + 1 by omega]
    have hin : ∀ {j}, j < n → listed.getD j false = false → listed.getD j true = false := fun hj h => getD_in (by rw [inv.size]; omega) h
    refine ⟨fun h0 => ?_, fun i hi => ?_⟩
    · obtain ⟨i, h1, h2, h3⟩ := least_not n hex
      obtain ⟨oi, hoi, hd, _⟩ := mix_spec chk h1
      have : i ∈ Region.ready md ops listed := mem_ready.2 ⟨hin h1 h2, oi, hoi, fun e he hb => h3 _ (hd e he hb)⟩
      rw [h0] at this
      cases this
    · have hin' : i < n := tailW listed inv (by obtain ⟨j, hj, hu⟩ := hex; exact ⟨j, hj, hin hj hu⟩) i hi
      obtain ⟨hun, o, ho, hdeps⟩ := mem_ready.1 hi
      have hun' := getD_both hun
      obtain ⟨oi, hoi, hd, hap⟩ := mix_spec chk hin'
      obtain rfl : o = oi := Option.some.inj (ho.symm.trans hoi)
      have hob := fam i o hin' ho
      have hdst : o.dst = dstAt ops i := by simp [dstAt, ho]
      -- what i waits for is listed; whoever waits for i is not
      have hanc : ∀ j, anc md ops ops.size i j = true → listed.getD j false = true := fun j h => anc_listed inv _ i j o ho hdeps h
      have hancl : ∀ k, k < n → listed.getD k false = true → ∀ j, anc md ops ops.size k j = true → j ≠ i := fun k hk hl j h => by
        rintro rfl
        obtain ⟨ok, hok, _⟩ := mix_spec chk hk
        have := anc_listed inv _ k j ok hok (inv.closed k ok hok hl) h
        rw [hun'] at this
        cases this
      have hafter : ∀ j, i < j → j < n → listed.getD j false = true → ∃ oj, ops[j]? = some oj ∧ o.apart ops oj = true := fun j hij hj hl => by
        obtain ⟨oj, hoj, _⟩ := mix_spec chk hj
        refine ⟨oj, hoj, hap j oj hoj hij fun e he hb hon => ?_⟩
        have := inv.closed j oj hoj hl e he hb
        rw [hon, hun'] at this
        cases this
      have hagr : Agr (o.looksAt ops) (actP ops a0 (fun j => val j e (e j)) (fun j => listed.getD j false) (List.range n)) (actUp ops val (fun _ => a0) 0 i e) := by
        rw [actUp_actP, ← actP_lt (n := n) (by omega)]
        refine agr_actP _ _ _ (fun j hj hne t ht => ?_) ⟨rfl, fun _ _ => rfl⟩
        have hjn : j < n := List.mem_range.1 hj
        have hji : j ≠ i := by rintro rfl; rw [hun'] at hne; simp at hne
        by_cases hlt : j < i
        · have hul : listed.getD j false = false := by
            cases hl : listed.getD j false with
            | false => rfl
            | true => rw [hl] at hne; simp [hlt] at hne
          obtain ⟨oj, hoj, _, hapj⟩ := mix_spec chk hjn
          have := hapj i o ho hlt fun e he hb hon => by
            have := hdeps e he hb
            rw [hon, hul] at this
            cases this
          exact (Oper.apart_spec this).1 t (by simpa [dstAt, hoj] using ht)
        · have hl : listed.getD j false = true := by
            cases hl : listed.getD j false with
            | true => rfl
            | false => rw [hl] at hne; simp [hlt] at hne
          obtain ⟨oj, hoj, h⟩ := hafter j (by omega) hjn hl
          exact (Oper.apart_spec h).2.2 t (by simpa [dstAt, hoj] using ht)
      -- behind it
      have next : ∀ u w', G i e u w' → Rk i w w' → wpAny P md ops Q (m + g) (listed.setIfInBounds i true) ((actP ops a0 (fun j => val j e (e j)) (fun j => listed.getD j false) (List.range n)).put (dstAt ops i) (val i e u)) w' := fun u w' hg hww => by
        obtain ⟨e', he'⟩ : ∃ e' : Env, e' = fun j => if j = i then u else e j := ⟨_, rfl⟩
        have ei : e' i = u := by rw [he']; simp
        have ej : ∀ j, j ≠ i → e' j = e j := fun j hj => by rw [he']; simp [hj]
        have vi : val i e' = val i e := hob.lv e' e fun j h => ej j fun hji => by subst hji; have := hanc j h; rw [hun'] at this; cases this
        have gi : G i e' = G i e := hob.lg e' e fun j h => ej j fun hji => by subst hji; have := hanc j h; rw [hun'] at this; cases this
        have vj : ∀ k, k < n → listed.getD k false = true → val k e' = val k e := fun k hk hl => by
          obtain ⟨ok, hok, _⟩ := mix_spec chk hk
          exact (fam k ok hk hok).lv e' e fun j h => ej j (hancl k hk hl j h)
        have gj : ∀ k, k < n → listed.getD k false = true → G k e' = G k e := fun k hk hl => by
          obtain ⟨ok, hok, _⟩ := mix_spec chk hk
          exact (fam k ok hk hok).lg e' e fun j h => ej j (hancl k hk hl j h)
        have hki : ∀ k, listed.getD k false = true → k ≠ i := fun k hl hki => by subst hki; rw [hun'] at hl; cases hl
        have hset : ∀ k, k ≠ i → (listed.setIfInBounds i true).getD k false = listed.getD k false := fun k hk => getD_set_ne false (Ne.symm hk)
        have hseti : (listed.setIfInBounds i true).getD i false = true := by simp [inv.size, show i < ops.size by omega]
        have hact : (actP ops a0 (fun j => val j e (e j)) (fun j => listed.getD j false) (List.range n)).put (dstAt ops i) (val i e u) = actP ops a0 (fun j => val j e' (e' j)) (fun j => (listed.setIfInBounds i true).getD j false) (List.range n) := by
          have cong : ∀ (l : List Nat) (b : Act), (∀ j ∈ l, j ≠ i ∧ j < n) → actP ops b (fun j => val j e' (e' j)) (fun j => (listed.setIfInBounds i true).getD j false) l = actP ops b (fun j => val j e (e j)) (fun j => listed.getD j false) l := fun l b hl =>
            actP_congr l b fun j hj => ⟨hset j (hl j hj).1, fun h => by
              have h' : listed.getD j false = true := by exact (hset j (hl j hj).1).symm.trans h
              show val j e' (e' j) = val j e (e j)
              rw [vj j (hl j hj).2 h', ej j (hl j hj).1]⟩
          rw [range_at hin', actP_append, actP_append]
          have c1 : ∀ (b : Act) (r : List Nat), actP ops b (fun j => val j e (e j)) (fun j => listed.getD j false) (i :: r) = actP ops b (fun j => val j e (e j)) (fun j => listed.getD j false) r := fun b r => by
            unfold actP
            rw [List.foldl_cons, if_neg (show ¬ ((fun j => listed.getD j false) i = true) by show ¬ (listed.getD i false = true); rw [hun']; decide)]
          have c2 : ∀ (b : Act) (r : List Nat), actP ops b (fun j => val j e' (e' j)) (fun j => (listed.setIfInBounds i true).getD j false) (i :: r) = actP ops (b.put (dstAt ops i) (val i e u)) (fun j => val j e' (e' j)) (fun j => (listed.setIfInBounds i true).getD j false) r := fun b r => by
            unfold actP
            rw [List.foldl_cons, if_pos (show (fun j => (listed.setIfInBounds i true).getD j false) i = true from hseti)]
            show List.foldl _ (b.put (dstAt ops i) (val i e' (e' i))) r = _
            rw [vi, ei]
          rw [c1, c2, cong (List.range i) _ fun j hj => by simp at hj; omega, cong (List.range' (i + 1) (n - (i + 1))) _ fun j hj => by simp at hj; omega]
          refine (actP_put _ _ fun j hj hl t ht => ?_).symm
          have hj2 : i < j ∧ j < n := by simp at hj; omega
          obtain ⟨oj, hoj, h⟩ := hafter j hj2.1 hj2.2 hl
          have := (Oper.apart_spec h).2.1 t (by rw [hdst]; exact ht)
          simpa [dstAt, hoj] using this
        rw [hact]
        refine ih _ e' w' ?_ (inv.set hi hin') (hT _ _ _ hw (hsub _ _ _ hww)) fun j hj hl => ?_
        · have := cntU_set hin' (by rw [inv.size]; omega) hun'
          omega
        · by_cases hji : j = i
          · subst hji
            rw [ei, gi]
            exact hg
          · rw [hset j hji] at hl
            rw [ej j hji, gj j hj hl]
            obtain ⟨ok, hok, _⟩ := mix_spec chk hj
            exact (fam j ok hj hok).st i (Ne.symm hji) (by cases h : anc md ops ops.size j i with | false => rfl | true => exact absurd rfl (hancl j hj hl i h)) e (e j) w w' hww (hG j hj hl)
      have hgo := hob.go e w hw fun j hj => fact_of_up i fun hji => hG j (by omega) (hanc j hj)
      unfold wpOp
      rw [ho]
      simp only
      rw [agr_wanted hagr]
      split
      · rename_i hwt
        refine .inl (wp_agr (fun cs b => hsel i o cs b ho) hagr (hgo.1 hwt) fun u w' hg hww => ?_)
        rw [hdst]
        exact next u w' hg hww
      · rename_i hwt
        obtain ⟨h1, h2⟩ := hgo.2 (by simpa using hwt)
        rw [hdst]
        have := next undef w h2 (hr i w)
        rw [hdst] at h1
        rw [put_eq hagr.size h1] at this
        exact this

/-- **the law**: the first n operations in whatever order, each with its own fact; the others in turn behind them -/
theorem wp_region_mix {id : Nat} {Q : Exit → Act → World → Prop} {a : Act} {w : World} {l : List Oper} (R : World → World → Prop) (Rk : Nat → World → World → Prop) (n : Nat) (hsub : ∀ k w w', Rk k w w' → R w w') (hr : ∀ k w, Rk k w w) (hT : ∀ a b c, R a b → R b c → R a c) (hd : R w w.drew)
    (hm : P.follows .mixedOrders = true) (hB : mixTailB .any l.toArray n = true)
    (h : wpMix P .any l.toArray R Rk w (fun a' w' => wpList P l.toArray Q (l.drop n) a' w') (l.take n) 0 (fun _ => a) (fun _ _ _ => True)) : (Code.region id l.toArray true).wp P Q a w := by
  simp only [mixTailB, Bool.and_eq_true, Bool.or_eq_true, decide_eq_true_eq] at hB
  obtain ⟨⟨⟨⟨hsel, hn⟩, hmix⟩, htail⟩, hseq⟩ := hB
  have hn' : n ≤ l.length := by simpa using hn
  have htl : (l.take n).length = n := by simp; omega
  have hdl : (l.drop n).length = l.toArray.size - n := by simp
  obtain ⟨val, G, fam, fin⟩ := fam_of_mix (l.take n) 0 _ _ (fun j hj => by
    have hj' : j < n := by rw [htl] at hj; exact hj
    simp [hj']) h
  have inv0 : HeadInv .any l.toArray n (Array.replicate l.toArray.size false) :=
    ⟨by simp, fun j oj _ hl => (by rw [getD_replicate_false] at hl; cases hl), fun t _ ht => getD_in (by simpa using ht) (getD_replicate_false _ _)⟩
  have hcnt : cntU (Array.replicate l.toArray.size false) n = n := by
    unfold cntU
    rw [List.countP_eq_length.2 fun j _ => by rw [getD_replicate_false]; rfl]
    simp
  have H := run_mix (md := .any) (P := P) (ops := l.toArray) (R := R) (Rk := Rk) (w0 := w) (n := n) (g := l.toArray.size - n) (a0 := a) (val := val) (G := G) (Q := Q) hT hsub hr hmix (Region.noSelect_spec hsel) hn
    (fun listed inv ⟨i, hi, hu⟩ t ht => by
      rcases htail with h1 | h1
      · obtain ⟨_, ot, hot, _⟩ := mem_ready.1 ht
        have := (Array.getElem?_eq_some_iff.1 hot).1
        omega
      · rcases Nat.lt_or_ge n l.toArray.size with h2 | h2
        · exact Nat.lt_of_not_le fun h => tail_waits h1.1 h1.2 h2 inv _ i rfl hi hu t h ht
        · obtain ⟨_, ot, hot, _⟩ := mem_ready.1 ht
          have := (Array.getElem?_eq_some_iff.1 hot).1
          omega)
    (fun i o hi ho => by
      have := fam i o (by
        have h1 : l[i]? = some o := by simpa using ho
        rw [List.getElem?_take, if_pos hi, h1])
      rw [Nat.zero_add] at this
      exact this)
    (fun e w' hw hG => by
      have := fin e w' hw fun j hj => fact_of_up _ fun hj' => hG j (by rw [htl] at hj'; exact hj')
      rw [htl] at this
      have h2 := wpAny_of_seq (md := .any) (Q' := Q) (l.drop n) n (heads l.toArray n) _ w' (fun j => by simp [List.getElem?_drop]) (by rw [hdl]; exact hseq) this
      rwa [hdl] at h2)
    n (Array.replicate l.toArray.size false) (fun _ => undef) w.drew hcnt inv0 hd (fun j _ hl => (by rw [getD_replicate_false] at hl; cases hl))
  refine wp_region_any hm ?_
  rw [show n + (l.toArray.size - n) = l.toArray.size by omega] at H
  have ea : ∀ (val : Nat → Value) (r : List Nat) (a : Act), actP l.toArray a val (fun j => (Array.replicate l.toArray.size false).getD j false) r = a := by
    intro val r
    induction r with
    | nil => intro a; rfl
    | cons j r ih =>
      intro a
      unfold actP at ih ⊢
      rw [List.foldl_cons, if_neg (show ¬ ((fun j => (Array.replicate l.toArray.size false).getD j false) j = true) by show ¬ ((Array.replicate l.toArray.size false).getD j false = true); rw [getD_replicate_false]; decide)]
      exact ih a
  rw [ea] at H
  exact H

section
variable {Fin : Act → World → Prop} {o : Oper} {rest : List Oper} {k : Nat} {A : Env → Act} {F : Env → Nat → World → Prop}
/-- one value, whatever the world; A': the frame behind it -/
theorem mix_lit (v : Env → Value) (A' : Env → Act) (hr : ∀ w, Rk k w w)
    (hv : ∀ e w, R w0 w → (∀ j, anc md ops ops.size k j = true → F e j w) → ∀ K : Act → World → Prop, (∀ a' w', Rk k w w' → a' = A' e → K a' w') →
      if Region.wanted o (yielded ops (A e).tmps) = true then o.wp P (A e) w K (fun _ _ _ => False) else K ((A e).put o.dst undef) w)
    (hA : ∀ e, (A e).put o.dst (v e) = A' e) (hl : Loc (anc md ops ops.size k) v)
    (h : wpMix P md ops R Rk w0 Fin rest (k + 1) A' (fun e j w => if j = k then True else F e j w)) : wpMix P md ops R Rk w0 Fin (o :: rest) k A F := by
  obtain rfl : A' = fun e => (A e).put o.dst (v e) := funext fun e => (hA e).symm
  refine ⟨fun e _ => v e, fun _ _ _ => True, fun e e' he => (by show (fun _ => v e) = fun _ => v e'; rw [hl e e' he]), Loc.const _ _, fun _ _ _ _ _ _ _ _ _ => trivial, fun e w hR hF => ⟨fun hw => ?_, fun hw => ?_⟩, h⟩
  · have := hv e w hR hF (fun a' w' => ∃ u, a' = (A e).put o.dst (v e) ∧ True ∧ Rk k w w') fun a' w' hw' ha => ⟨undef, ha, trivial, hw'⟩
    rw [if_pos hw] at this
    exact this
  · have := hv e w hR hF (fun a' w' => a' = (A e).put o.dst (v e)) fun a' w' hw' ha => ha
    rw [if_neg (by rw [hw]; decide)] at this
    exact ⟨this.symm, trivial⟩
/-- what is known of it, under a letter -/
theorem mix_let (G : Env → Value → World → Prop) (A' : Env → Act) (hg : Loc (anc md ops ops.size k) G) (st : ∀ i, i ≠ k → anc md ops ops.size k i = false → ∀ e u w w', Rk i w w' → G e u w → G e u w') (hw : ∀ e, Region.wanted o (yielded ops (A e).tmps) = true)
    (hv : ∀ e w, R w0 w → (∀ j, anc md ops ops.size k j = true → F e j w) → ∀ K : Act → World → Prop, (∀ a' u w', Rk k w w' → G e u w' → a' = (A e).put o.dst u → K a' w') →
      if Region.wanted o (yielded ops (A e).tmps) = true then o.wp P (A e) w K (fun _ _ _ => False) else K ((A e).put o.dst undef) w)
    (hA : ∀ e, (A e).put o.dst (e k) = A' e)
    (h : wpMix P md ops R Rk w0 Fin rest (k + 1) A' (fun e j w => if j = k then G e (e k) w else F e j w)) : wpMix P md ops R Rk w0 Fin (o :: rest) k A F := by
  obtain rfl : A' = fun e => (A e).put o.dst (e k) := funext fun e => (hA e).symm
  refine ⟨fun _ u => u, G, Loc.const _ _, hg, st, fun e w hR hF => ⟨fun _ => ?_, fun hn => by rw [hw e] at hn; cases hn⟩, h⟩
  have := hv e w hR hF (fun a' w' => ∃ u, a' = (A e).put o.dst u ∧ G e u w' ∧ Rk k w w') fun a' u w' hw' hg ha => ⟨u, ha, hg, hw'⟩
  rw [if_pos (hw e)] at this
  exact this
/-- the same where every operation leaves what it finds alike -/
theorem mix_letS (G : Env → Value → World → Prop) (A' : Env → Act) (hg : Loc (anc md ops ops.size k) G) (st : ∀ e u w w', R w w' → G e u w → G e u w') (hw : ∀ e, Region.wanted o (yielded ops (A e).tmps) = true)
    (hv : ∀ e w, R w0 w → (∀ j, anc md ops ops.size k j = true → F e j w) → ∀ K : Act → World → Prop, (∀ a' u w', R w w' → G e u w' → a' = (A e).put o.dst u → K a' w') →
      if Region.wanted o (yielded ops (A e).tmps) = true then o.wp P (A e) w K (fun _ _ _ => False) else K ((A e).put o.dst undef) w)
    (hA : ∀ e, (A e).put o.dst (e k) = A' e)
    (h : wpMix P md ops R (fun _ => R) w0 Fin rest (k + 1) A' (fun e j w => if j = k then G e (e k) w else F e j w)) : wpMix P md ops R (fun _ => R) w0 Fin (o :: rest) k A F :=
  mix_let (Rk := fun _ => R) G A' hg (fun _ _ _ => st) hw hv hA h
/-- a load of several cells -/
theorem mix_ld (cs : List Value) (A' : Env → Act) (hr : ∀ w, Rk k w w) (hgd : ∀ e, Region.wanted o (yielded ops (A e).tmps) = true) (ty : TypeId) (x : Operand) (ho : o.op = .load ty x) (b ofs : Nat) (hx : ∀ e, (A e).eval x = .pointer (some ⟨b, ofs, none⟩)) (d : TypeDesc)
    (hc : ∀ w, R w0 w → w.rangeAt b ofs cs) (hu : P.underlying ty = some d) (hd : d.isRow = true) (hi : (P.info? ty).map (·.size) = some cs.length) (hA : ∀ e, (A e).put o.dst (.agg cs.toArray) = A' e)
    (h : wpMix P md ops R Rk w0 Fin rest (k + 1) A' (fun e j w => if j = k then True else F e j w)) : wpMix P md ops R Rk w0 Fin (o :: rest) k A F :=
  mix_lit (fun _ => .agg cs.toArray) A' hr (fun e w hR _ K hK => by
    rw [if_pos (hgd e)]
    exact wp_load_mid ty x ho b ofs (hx e) cs d (hc w hR) hu hd hi (hK _ _ (hr w) (hA e))) hA (Loc.const _ _) h
theorem mix_nil (h : ∀ e w, R w0 w → (∀ j, j < k → F e j w) → Fin (A e) w) : wpMix P md ops R Rk w0 Fin [] k A F := h
/-- at 'nothing has changed'; what comes behind: under a letter -/
theorem wp_region_mixS {id : Nat} {Q : Exit → Act → World → Prop} {a : Act} {w : World} {l : List Oper} (n : Nat) (hm : P.follows .mixedOrders = true) (hB : mixTailB .any l.toArray n = true)
    (h : ∀ Fin : Act → World → Prop, (∀ a' w', wpList P l.toArray Q (l.drop n) a' w' → Fin a' w') → wpMix P .any l.toArray Same (fun _ => Same) w Fin (l.take n) 0 (fun _ => a) (fun _ _ _ => True)) : (Code.region id l.toArray true).wp P Q a w :=
  wp_region_mix Same (fun _ => Same) n (fun _ _ _ h => h) (fun _ w => Chg.refl _ w) (fun _ _ _ h h' => Same.trans h h') ((Chg.refl _ w).drew) hm hB (h _ fun _ _ h => h)
end
end
end Go.Al
