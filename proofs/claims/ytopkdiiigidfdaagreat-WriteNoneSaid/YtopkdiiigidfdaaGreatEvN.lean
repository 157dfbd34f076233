/-
  The evaluator: every order of a region, by what holds whichever operations are done; who waits for whom. No program is named here. No conditions.
-/
import Derived.Test.YtopkdiiigidfdaaGreatEvM
namespace Go.Ev
open Go.RowKit Go.Al
set_option linter.unusedVariables false

/-- what holds whichever operations are done -/
theorem wpAny_inv {P : Program} {ops : Array Oper} {Q : Exit → Act → World → Prop} (back : ∀ i o, ops[i]? = some o → ∀ e ∈ o.after, Region.binds .any e = true → e.on < i) (Inv : (Nat → Bool) → Act → World → Prop)
    (step : ∀ L i o a w, ops[i]? = some o → L i = false → (∀ k, L k = true → k < ops.size) → (∀ k ok, L k = true → ops[k]? = some ok → ∀ e ∈ ok.after, Region.binds .any e = true → L e.on = true) → (∀ e ∈ o.after, Region.binds .any e = true → L e.on = true) → Inv L a w →
      wpOp P ops Q i (Inv fun k => L k || Nat.beq k i) a w)
    (fin : ∀ L a w, (∀ k, k < ops.size → L k = true) → Inv L a w → Q .normal a w) :
    ∀ (m : Nat) (listed : Array Bool) (a : Act) (w : World), cntU listed ops.size = m → listed.size = ops.size → (∀ k ok, listed.getD k false = true → ops[k]? = some ok → ∀ e ∈ ok.after, Region.binds .any e = true → listed.getD e.on false = true) →
      Inv (fun k => listed.getD k false) a w → wpAny P .any ops Q m listed a w := by
  intro m
  induction m with
  | zero =>
    intro listed a w hc hs hcl hI
    have hall : ∀ j, j < ops.size → listed.getD j false = true := fun j hj => by
      have := List.countP_eq_zero.1 hc j (List.mem_range.2 hj)
      simpa using this
    refine ⟨?_, fin _ a w hall hI⟩
    cases hr : Region.ready .any ops listed with
    | nil => rfl
    | cons i l =>
      have := mem_ready.1 (show i ∈ Region.ready .any ops listed by rw [hr]; exact List.mem_cons_self ..)
      obtain ⟨hun, o, ho, _⟩ := this
      have hi : i < ops.size := (Array.getElem?_eq_some_iff.1 ho).1
      have h2 := hall i hi
      have h3 : i < listed.size := by omega
      simp [h3] at hun h2
      rw [h2] at hun
      cases hun
  | succ m ih =>
    intro listed a w hc hs hcl hI
    have hex : ∃ j, j < ops.size ∧ listed.getD j false = false := by
      have : 0 < (List.range ops.size).countP fun j => !listed.getD j false := by unfold cntU at hc; omega
      obtain ⟨j, hj, hp⟩ := List.countP_pos_iff.1 this
      exact ⟨j, List.mem_range.1 hj, by simpa using hp⟩
    refine ⟨fun h0 => ?_, fun i hi => ?_⟩
    · obtain ⟨i, h1, h2, h3⟩ := least_not ops.size hex
      have ho : ops[i]? = some ops[i] := Array.getElem?_eq_getElem h1
      have h4 : i < listed.size := by omega
      have h5 : listed.getD i true = false := by simp [h4] at h2 ⊢; exact h2
      have : i ∈ Region.ready .any ops listed := mem_ready.2 ⟨h5, ops[i], ho, fun e he hb => h3 _ (back i _ ho e he hb)⟩
      rw [h0] at this
      cases this
    · obtain ⟨hun, o, ho, hdeps⟩ := mem_ready.1 hi
      have hin : i < ops.size := (Array.getElem?_eq_some_iff.1 ho).1
      have hil : i < listed.size := by omega
      have hun' : listed.getD i false = false := by simp [hil] at hun ⊢; exact hun
      have hset : ∀ k, (listed.setIfInBounds i true).getD k false = (listed.getD k false || Nat.beq k i) := fun k => by
        by_cases hk : k = i
        · subst hk
          rw [beq_t rfl, Bool.or_true]
          simp [hil]
        · rw [beq_f hk, Bool.or_false]
          simp only [Array.getD_eq_getD_getElem?, Array.getElem?_setIfInBounds_ne (Ne.symm hk)]
      have h0 := step (fun k => listed.getD k false) i o a w ho hun' (fun k hk => by
        rcases Nat.lt_or_ge k listed.size with h | h
        · omega
        · have hk : listed.getD k false = true := hk
          rw [Array.getD_eq_getD_getElem?, Array.getElem?_eq_none h] at hk
          cases hk) hcl hdeps hI
      refine wpOp_mono (fun a' w' hI' => ih _ a' w' ?_ (by simpa using hs) ?_ ?_) h0
      · have := cntU_set hin hil hun'
        omega
      · intro k ok hk hok e he hb
        rw [hset] at hk ⊢
        rw [Bool.or_eq_true] at hk ⊢
        rcases hk with hk | hk
        · exact .inl (hcl k ok hk hok e he hb)
        · rw [Nat.beq_eq] at hk
          subst hk
          rw [ho] at hok
          cases hok
          exact .inl (hdeps e he hb)
      · have : (fun k => (listed.setIfInBounds i true).getD k false) = fun k => listed.getD k false || Nat.beq k i := funext hset
        rw [this]
        exact hI'
def nthN : List Nat → Nat → Nat
  | [], _ => 0
  | x :: _, 0 => x
  | _ :: l, n + 1 => nthN l n
theorem nthN_get : ∀ (l : List Nat) (n : Nat), nthN l n = (l[n]?).getD 0
  | [], n => by simp [nthN]
  | x :: l, 0 => by simp [nthN]
  | x :: l, n + 1 => by simp [nthN, nthN_get l n]
/-- those for whom one waits, as bits -/
def maskE (ms : List Nat) : List Edge → Nat → Nat
  | [], s => s
  | e :: l, s => maskE ms l (cond (Region.binds .any e) (s ||| (1 <<< e.on) ||| nthN ms e.on) s)
theorem maskE_bit (ms : List Nat) (j : Nat) : ∀ (l : List Edge) (s : Nat), (maskE ms l s).testBit j = true ↔ s.testBit j = true ∨ ∃ e ∈ l, Region.binds .any e = true ∧ (e.on = j ∨ (nthN ms e.on).testBit j = true)
  | [], s => by simp [maskE]
  | e :: l, s => by
    unfold maskE
    rw [maskE_bit ms j l]
    have hb : (1 <<< e.on).testBit j = true ↔ e.on = j := by
      rw [Nat.shiftLeft_eq, Nat.one_mul, Nat.testBit_two_pow]
      simp
    cases hbd : Region.binds .any e
    · simp [hbd]
    · simp only [cond_true, Nat.testBit_or, Bool.or_eq_true, hb, List.mem_cons, exists_eq_or_imp, hbd, true_and]
      constructor
      · rintro (((h | h) | h) | h)
        · exact .inl h
        · exact .inr (.inl (.inl h))
        · exact .inr (.inl (.inr h))
        · exact .inr (.inr h)
      · rintro (h | (h | h) | h)
        · exact .inl (.inl (.inl h))
        · exact .inl (.inl (.inr h))
        · exact .inl (.inr h)
        · exact .inr h
def masks : List Oper → List Nat → List Nat
  | [], ms => ms
  | o :: l, ms => masks l (ms ++ [maskE ms o.after.toList 0])
theorem masks_ext : ∀ (l : List Oper) (ms : List Nat), ∃ r, masks l ms = ms ++ r ∧ r.length = l.length
  | [], ms => ⟨[], by simp [masks], rfl⟩
  | o :: l, ms => by
    obtain ⟨r, h1, h2⟩ := masks_ext l (ms ++ [maskE ms o.after.toList 0])
    exact ⟨maskE ms o.after.toList 0 :: r, by rw [masks, h1]; simp, by simp [h2]⟩
theorem masks_at : ∀ (l : List Oper) (ms : List Nat) (i : Nat) (o : Oper), l[i]? = some o → ∃ pre post, masks l ms = pre ++ [maskE pre o.after.toList 0] ++ post ∧ pre.length = ms.length + i
  | [], ms, i, o, h => by cases h
  | o :: l, ms, 0, o', h => by
    cases h
    obtain ⟨r, h1, h2⟩ := masks_ext l (ms ++ [maskE ms o.after.toList 0])
    exact ⟨ms, r, by rw [masks, h1], by simp⟩
  | o :: l, ms, i + 1, o', h => by
    obtain ⟨pre, post, h1, h2⟩ := masks_at l (ms ++ [maskE ms o.after.toList 0]) i o' (by simpa using h)
    exact ⟨pre, post, by rw [masks, h1], by rw [h2]; simp; omega⟩
def ancM (ms : List Nat) (i j : Nat) : Bool := (nthN ms i).testBit j
theorem ancM_iff {l : List Oper} {i : Nat} {o : Oper} (h : l[i]? = some o) (hb : ∀ e ∈ o.after, Region.binds .any e = true → e.on < i) (j : Nat) :
    ancM (masks l []) i j = true ↔ ∃ e ∈ o.after, Region.binds .any e = true ∧ (e.on = j ∨ ancM (masks l []) e.on j = true) := by
  obtain ⟨pre, post, h1, h2⟩ := masks_at l [] i o h
  simp only [List.length_nil, Nat.zero_add] at h2
  have hi : nthN (masks l []) i = maskE pre o.after.toList 0 := by
    rw [nthN_get, h1, List.append_assoc, List.getElem?_append_right (by omega)]
    simp [h2]
  have hlt : ∀ k, k < i → nthN (masks l []) k = nthN pre k := fun k hk => by
    rw [nthN_get, nthN_get, h1, List.append_assoc, List.getElem?_append_left (by omega)]
  unfold ancM
  rw [hi, maskE_bit]
  simp only [Nat.zero_testBit, Bool.false_eq_true, false_or, Array.mem_toList_iff]
  constructor
  · rintro ⟨e, he, hbd, hr⟩
    exact ⟨e, he, hbd, hr.imp id fun h => by rwa [hlt _ (hb e he hbd)]⟩
  · rintro ⟨e, he, hbd, hr⟩
    exact ⟨e, he, hbd, hr.imp id fun h => by rwa [hlt _ (hb e he hbd)] at h⟩
section
variable {l : List Oper} (back : ∀ i o, l[i]? = some o → ∀ e ∈ o.after, Region.binds .any e = true → e.on < i)
include back
theorem ancM_lt : ∀ (i j : Nat), i < l.length → ancM (masks l []) i j = true → j < i := fun i => by
  induction i using Nat.strongRecOn with
  | _ i ih =>
    intro j hi h
    have ho : l[i]? = some l[i] := List.getElem?_eq_getElem hi
    obtain ⟨e, he, hb, hr⟩ := (ancM_iff ho (back i _ ho) j).1 h
    have hlt := back i _ ho e he hb
    rcases hr with rfl | hr
    · exact hlt
    · exact Nat.lt_trans (ih e.on hlt j (by omega) hr) hlt
theorem ancM_trans : ∀ (i k j : Nat), i < l.length → ancM (masks l []) i k = true → ancM (masks l []) k j = true → ancM (masks l []) i j = true := fun i => by
  induction i using Nat.strongRecOn with
  | _ i ih =>
    intro k j hi h h'
    have ho : l[i]? = some l[i] := List.getElem?_eq_getElem hi
    obtain ⟨e, he, hb, hr⟩ := (ancM_iff ho (back i _ ho) k).1 h
    have hlt := back i _ ho e he hb
    refine (ancM_iff ho (back i _ ho) j).2 ⟨e, he, hb, .inr ?_⟩
    rcases hr with rfl | hr
    · exact h'
    · exact ih e.on hlt k j (by omega) hr h'
theorem ancM_closed {L : Nat → Bool} (hcl : ∀ k o, L k = true → l[k]? = some o → ∀ e ∈ o.after, Region.binds .any e = true → L e.on = true) : ∀ (i j : Nat) (o : Oper), l[i]? = some o → (∀ e ∈ o.after, Region.binds .any e = true → L e.on = true) → ancM (masks l []) i j = true → L j = true := fun i => by
  induction i using Nat.strongRecOn with
  | _ i ih =>
    intro j o ho hd h
    obtain ⟨e, he, hb, hr⟩ := (ancM_iff ho (back i _ ho) j).1 h
    have hlt := back i _ ho e he hb
    have hl := hd e he hb
    rcases hr with rfl | hr
    · exact hl
    · have hi : i < l.length := (List.getElem?_eq_some_iff.1 ho).1
      have ho2 : l[e.on]? = some l[e.on] := List.getElem?_eq_getElem (by omega)
      exact ih e.on hlt j _ ho2 (hcl e.on _ hl ho2) hr
end
end Go.Ev
