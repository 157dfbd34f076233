/-
  The evaluator: what the operations of a region that draws its order leave together, whichever of them are done. No program is named here. No conditions.
-/
import Derived.Test.YtopkdiiigidfdaaGreatEvL
import Derived.Test.YtopkdiiigidfdaaGreatMx
namespace Go.Ev
open Go.RowKit Go.Al
set_option linter.unusedVariables false

/-- what one operation (its number) leaves: a value in a slot, blocks written, blocks of its own (names a to b), the memory behind it -/
structure RR where
  i : Nat
  ds : Option Tmp
  v : SV
  W : List Nat
  a : Nat
  b : Nat
  H : List (Nat × SO)
def memN (x : Nat) : List Nat → Bool
  | [] => false
  | y :: l => cond (Nat.beq y x) true (memN x l)
theorem memN_iff {x : Nat} : ∀ {l : List Nat}, memN x l = true ↔ x ∈ l
  | [] => by simp [memN]
  | y :: l => by
    unfold memN
    rw [beq_cond, List.mem_cons]
    split
    · rename_i h; simp [h]
    · rename_i h; rw [memN_iff]; exact ⟨.inr, fun h2 => h2.resolve_left (Ne.symm h)⟩
def RR.dom (r : RR) (id : Nat) : Bool := memN id r.W || (Nat.ble r.a id && Nat.blt id r.b)
theorem RR.dom_iff {r : RR} {id : Nat} : r.dom id = true ↔ id ∈ r.W ∨ (r.a ≤ id ∧ id < r.b) := by
  simp [RR.dom, memN_iff, Nat.blt, Nat.succ_le_iff]
def setH (H src : List (Nat × SO)) (id : Nat) : List (Nat × SO) := match look src id with
  | some so => ins H id so
  | none => del H id
theorem look_setH (H src : List (Nat × SO)) (id k : Nat) : look (setH H src id) k = if id = k then look src k else look H k := by
  unfold setH
  split
  · rename_i so h
    rw [look_ins]
    split
    · rename_i e; subst e; exact h.symm
    · rfl
  · rename_i h
    rw [look_del]
    split
    · rename_i e; subst e; exact h.symm
    · rfl
def setHs (src : List (Nat × SO)) : List Nat → List (Nat × SO) → List (Nat × SO)
  | [], H => H
  | id :: l, H => setHs src l (setH H src id)
theorem look_setHs (src : List (Nat × SO)) (k : Nat) : ∀ (l : List Nat) (H : List (Nat × SO)), look (setHs src l H) k = if k ∈ l then look src k else look H k
  | [], H => by simp [setHs]
  | id :: l, H => by
    rw [setHs, look_setHs src k l, look_setH]
    by_cases h1 : k ∈ l
    · simp [h1]
    · by_cases h2 : id = k
      · simp [h1, h2]
      · simp [h1, h2, Ne.symm h2]
/-- names from a, n of them -/
def fromN : Nat → Nat → List Nat
  | _, 0 => []
  | a, n + 1 => a :: fromN (a + 1) n
theorem mem_fromN {x : Nat} : ∀ {n a : Nat}, x ∈ fromN a n ↔ a ≤ x ∧ x < a + n
  | 0, a => by simp [fromN]
  | n + 1, a => by rw [fromN, List.mem_cons, mem_fromN]; omega
def applyR (H : List (Nat × SO)) (r : RR) : List (Nat × SO) := setHs r.H r.W (setHs r.H (fromN r.a (r.b - r.a)) H)
theorem look_applyR (H : List (Nat × SO)) (r : RR) (k : Nat) : look (applyR H r) k = if r.dom k = true then look r.H k else look H k := by
  unfold applyR
  rw [look_setHs, look_setHs]
  have e : r.dom k = true ↔ (k ∈ r.W ∨ k ∈ fromN r.a (r.b - r.a)) := by
    rw [RR.dom_iff, mem_fromN]
    constructor
    · rintro (h | h)
      · exact .inl h
      · exact .inr ⟨h.1, by omega⟩
    · rintro (h | h)
      · exact .inl h
      · exact .inr ⟨h.1, by omega⟩
  by_cases h1 : k ∈ r.W <;> by_cases h2 : k ∈ fromN r.a (r.b - r.a) <;> simp [h1, h2, e]
def killL : List Nat → List (Nat × SO) → List (Nat × SO)
  | [], H => H
  | id :: l, H => killL l (del H id)
theorem look_killL (k : Nat) : ∀ (l : List Nat) (H : List (Nat × SO)), look (killL l H) k = if k ∈ l then none else look H k
  | [], H => by simp [killL]
  | id :: l, H => by
    rw [killL, look_killL k l, look_del]
    by_cases h1 : k ∈ l
    · simp [h1]
    · by_cases h2 : id = k
      · simp [h1, h2]
      · simp [h1, h2, Ne.symm h2]
/-- the memory behind those operations of which L is true; the last one stands first -/
def mergeH (L : Nat → Bool) (H : List (Nat × SO)) : List RR → List (Nat × SO)
  | [] => H
  | r :: rs => cond (L r.i) (applyR (mergeH L H rs) r) (mergeH L H rs)
def mergeF (L : Nat → Bool) (fr : List SV) : List RR → List SV
  | [] => fr
  | r :: rs => cond (L r.i) (putF (mergeF L fr rs) r.ds r.v) (mergeF L fr rs)
/-- numbers that fall -/
def Falls (rs : List RR) : Prop := rs.Pairwise fun r r' => r'.i < r.i
section
variable {L L' : Nat → Bool} {H : List (Nat × SO)} {fr : List SV}
theorem mergeH_congr {id : Nat} : ∀ {rs : List RR}, (∀ r ∈ rs, L r.i ≠ L' r.i → r.dom id = false) → look (mergeH L H rs) id = look (mergeH L' H rs) id
  | [], _ => rfl
  | r :: rs, hd => by
    unfold mergeH
    have ih := mergeH_congr (rs := rs) fun r' hr => hd r' (List.mem_cons_of_mem _ hr)
    have h0 := hd r (List.mem_cons_self ..)
    cases e1 : L r.i <;> cases e2 : L' r.i
    · exact ih
    · rw [cond_false, cond_true, look_applyR, h0 (by rw [e1, e2]; decide), if_neg (by decide)]
      exact ih
    · rw [cond_false, cond_true, look_applyR, h0 (by rw [e1, e2]; decide), if_neg (by decide)]
      exact ih
    · rw [cond_true, cond_true, look_applyR, look_applyR, ih]
theorem mergeH_src {id : Nat} {so : SO} : ∀ {rs : List RR}, look (mergeH L H rs) id = some so → (∃ r ∈ rs, L r.i = true ∧ r.dom id = true ∧ look r.H id = some so) ∨ look H id = some so
  | [], h => .inr h
  | r :: rs, h => by
    unfold mergeH at h
    have more : look (mergeH L H rs) id = some so → (∃ r' ∈ r :: rs, L r'.i = true ∧ r'.dom id = true ∧ look r'.H id = some so) ∨ look H id = some so := fun h => by
      rcases mergeH_src h with ⟨r', h1, h2⟩ | h1
      · exact .inl ⟨r', List.mem_cons_of_mem _ h1, h2⟩
      · exact .inr h1
    cases e : L r.i
    · rw [e] at h; exact more h
    · rw [e, cond_true, look_applyR] at h
      split at h
      · rename_i hd; exact .inl ⟨r, List.mem_cons_self .., e, hd, h⟩
      · exact more h
theorem mergeH_at {id : Nat} {r : RR} : ∀ {rs : List RR}, Falls rs → r ∈ rs → L r.i = true → r.dom id = true → (∀ r' ∈ rs, r.i < r'.i → L r'.i = true → r'.dom id = false) → look (mergeH L H rs) id = look r.H id
  | [], _, h1, _, _, _ => by cases h1
  | r0 :: rs, hf, h1, h2, h3, h4 => by
    unfold mergeH
    rcases List.mem_cons.1 h1 with rfl | h1
    · rw [h2, cond_true, look_applyR, if_pos h3]
    · have hlt : r.i < r0.i := (List.pairwise_cons.1 hf).1 r h1
      have ih := mergeH_at (List.pairwise_cons.1 hf).2 h1 h2 h3 fun r' hr => h4 r' (List.mem_cons_of_mem _ hr)
      cases e : L r0.i
      · exact ih
      · rw [cond_true, look_applyR, h4 r0 (List.mem_cons_self ..) hlt e, if_neg (by decide)]
        exact ih
theorem putF_length (fr : List SV) (d : Option Tmp) (v : SV) : (putF fr d v).length = fr.length := by cases d <;> simp [putF]
theorem putF_get_ne {fr : List SV} {d : Option Tmp} {v : SV} {t : Nat} (h : d ≠ some t) : (putF fr d v)[t]? = fr[t]? := by
  cases d with
  | none => rfl
  | some d => exact List.getElem?_set_ne fun e => h (by rw [e])
theorem putF_congr {fr fr' : List SV} (d : Option Tmp) (v : SV) {t : Nat} (hl : fr.length = fr'.length) (h : fr[t]? = fr'[t]?) : (putF fr d v)[t]? = (putF fr' d v)[t]? := by
  cases d with
  | none => exact h
  | some d =>
    simp only [putF, List.getElem?_set, hl]
    split
    · rfl
    · exact h
theorem mergeF_length : ∀ (rs : List RR), (mergeF L fr rs).length = fr.length
  | [] => rfl
  | r :: rs => by
    unfold mergeF
    cases L r.i
    · exact mergeF_length rs
    · rw [cond_true, putF_length]; exact mergeF_length rs
theorem mergeF_congr {t : Nat} : ∀ {rs : List RR}, (∀ r ∈ rs, L r.i ≠ L' r.i → r.ds ≠ some t) → (mergeF L fr rs)[t]? = (mergeF L' fr rs)[t]?
  | [], _ => rfl
  | r :: rs, hd => by
    unfold mergeF
    have h0 := hd r (List.mem_cons_self ..)
    have ih := mergeF_congr (rs := rs) fun r' hr => hd r' (List.mem_cons_of_mem _ hr)
    cases e1 : L r.i <;> cases e2 : L' r.i
    · exact ih
    · rw [cond_false, cond_true, putF_get_ne (h0 (by rw [e1, e2]; decide))]
      exact ih
    · rw [cond_false, cond_true, putF_get_ne (h0 (by rw [e1, e2]; decide))]
      exact ih
    · exact putF_congr _ _ (by rw [mergeF_length, mergeF_length]) ih
theorem mergeF_mem {A : Nat → Prop} {I : In} (h : okL A I fr) : ∀ {rs : List RR}, (∀ r ∈ rs, L r.i = true → r.v.ok A I) → okL A I (mergeF L fr rs)
  | [], _ => h
  | r :: rs, hv => by
    unfold mergeF
    have ih := mergeF_mem h (rs := rs) fun r' hr => hv r' (List.mem_cons_of_mem _ hr)
    cases e : L r.i
    · exact ih
    · rw [cond_true]
      cases hd : r.ds with
      | none => exact ih
      | some d => exact ih.set d (hv r (List.mem_cons_self ..) e)
theorem putF_comm (fr : List SV) {d d' : Option Tmp} (v v' : SV) (h : d' ≠ none → d ≠ d') : putF (putF fr d v) d' v' = putF (putF fr d' v') d v := by
  cases d with
  | none => rfl
  | some d =>
    cases d' with
    | none => rfl
    | some d' => exact List.set_comm v v' fun e => h (by simp) (by rw [e])
theorem mergeF_same : ∀ {rs : List RR}, (∀ r ∈ rs, L r.i = L' r.i) → mergeF L fr rs = mergeF L' fr rs
  | [], _ => rfl
  | r :: rs, h => by
    unfold mergeF
    rw [mergeF_same fun r' hr => h r' (List.mem_cons_of_mem _ hr), h r (List.mem_cons_self ..)]
/-- one more -/
theorem mergeF_more {r : RR} : ∀ {rs : List RR}, Falls rs → r ∈ rs → L r.i = false → (∀ r' ∈ rs, r'.i ≠ r.i → r.ds ≠ none → r'.ds ≠ r.ds) →
    mergeF (fun k => L k || Nat.beq k r.i) fr rs = putF (mergeF L fr rs) r.ds r.v
  | [], _, h1, _, _ => by cases h1
  | r0 :: rs, hf, h1, h2, h3 => by
    have hp := List.pairwise_cons.1 hf
    unfold mergeF
    rcases List.mem_cons.1 h1 with rfl | h1
    · rw [beq_t rfl, Bool.or_true, cond_true, h2, cond_false]
      rw [mergeF_same (L' := L) fun r' hr => by
        have := hp.1 r' hr
        rw [beq_f (by omega), Bool.or_false]]
    · have hlt : r.i < r0.i := hp.1 r h1
      rw [beq_f (show ¬ r0.i = r.i by omega), Bool.or_false]
      have ih := mergeF_more hp.2 h1 h2 fun r' hr => h3 r' (List.mem_cons_of_mem _ hr)
      rw [ih]
      cases e : L r0.i
      · rfl
      · rw [cond_true, cond_true, putF_comm]
        intro hd e2
        exact h3 r0 (List.mem_cons_self ..) (by omega) (by rw [e2]; exact hd) e2.symm
end
end Go.Ev
