/-
  The evaluator: regions that draw their order: each operation in the memory of those for whom it waits. No program is named here. No conditions.
-/
import Derived.Test.YtopkdiiigidfdaaGreatEvN
namespace Go.Ev
open Go.RowKit Go.Al
set_option linter.unusedVariables false

/-- the operations of a region that draws, the last one first -/
def evD (P : Program) (call : Caller) (ops : Array Oper) (ms : List Nat) (fr : List SV) (H : List (Nat × SO)) : List Oper → Nat → Nat → List RR → Option (List RR)
  | [], _, _, rs => some rs
  | o :: l, i, nx, rs => match wantS ops o (mergeF (ancM ms i) fr rs) with
    | some true => match evOp P call o (mergeF (ancM ms i) fr rs) ⟨mergeH (ancM ms i) H rs, nx, []⟩ with
      | some (.val v, st') => cond (Nat.ble nx st'.nx) (evD P call ops ms fr H l (i + 1) st'.nx (⟨i, o.dst, v, st'.wr, nx, st'.nx, st'.H⟩ :: rs)) none
      | some (.skip, st') => cond (Nat.ble nx st'.nx) (evD P call ops ms fr H l (i + 1) st'.nx (⟨i, o.dst, .tup [], st'.wr, nx, st'.nx, st'.H⟩ :: rs)) none
      | _ => none
    | some false => evD P call ops ms fr H l (i + 1) nx (⟨i, o.dst, .tup [], [], nx, nx, []⟩ :: rs)
    | none => none
structure OpF (P : Program) (call : Caller) (ops : Array Oper) (ms : List Nat) (fr : List SV) (H : List (Nat × SO)) (rs : List RR) (o : Oper) (r : RR) : Prop where
  ds : r.ds = o.dst
  le : r.a ≤ r.b
  run : (wantS ops o (mergeF (ancM ms r.i) fr rs) = some true ∧ ∃ res S, evOp P call o (mergeF (ancM ms r.i) fr rs) ⟨mergeH (ancM ms r.i) H rs, r.a, []⟩ = some (res, S) ∧ r.W = S.wr ∧ r.b = S.nx ∧ r.H = S.H ∧ (res = .val r.v ∨ (res = .skip ∧ r.v = .tup []))) ∨
    (wantS ops o (mergeF (ancM ms r.i) fr rs) = some false ∧ r.W = [] ∧ r.b = r.a ∧ r.v = .tup [])
def Sp (P : Program) (call : Caller) (ops : Array Oper) (ms : List Nat) (fr : List SV) (H : List (Nat × SO)) (l : List Oper) (nx0 : Nat) : List RR → Nat → Prop
  | [], nx => nx = nx0
  | r :: rs, nx => nx = r.b ∧ r.i = rs.length ∧ (∃ o, l[r.i]? = some o ∧ OpF P call ops ms fr H rs o r) ∧ Sp P call ops ms fr H l nx0 rs r.a
section
variable {P : Program} {call : Caller} {ops : Array Oper} {ms : List Nat} {fr : List SV} {H : List (Nat × SO)} {l : List Oper} {nx0 : Nat}
theorem evD_spec : ∀ {l' : List Oper} {i nx : Nat} {rs rs' : List RR}, evD P call ops ms fr H l' i nx rs = some rs' → i = rs.length → Sp P call ops ms fr H l nx0 rs nx → l.drop i = l' → ∃ nx', Sp P call ops ms fr H l nx0 rs' nx' ∧ rs'.length = rs.length + l'.length
  | [], i, nx, rs, rs', h, hi, hs, hl => by cases h; exact ⟨nx, hs, rfl⟩
  | o :: l', i, nx, rs, rs', h, hi, hs, hl => by
    have hlt : l.drop i ≠ [] := by rw [hl]; simp
    have ho : l[i]? = some o := by
      have := congrArg List.head? hl
      simpa [List.head?_drop] using this
    have hl' : l.drop (i + 1) = l' := by
      have := congrArg List.tail hl
      simpa [List.tail_drop] using this
    have next : ∀ (r : RR) (nx' : Nat), r.i = i → r.b = nx' → r.a = nx → OpF P call ops ms fr H rs o r → evD P call ops ms fr H l' (i + 1) nx' (r :: rs) = some rs' → ∃ nx', Sp P call ops ms fr H l nx0 rs' nx' ∧ rs'.length = rs.length + (o :: l').length := fun r nx' h1 h2 h3 h4 h5 => by
      obtain ⟨nx2, hs2, hl2⟩ := evD_spec h5 (by simp [hi]) ⟨h2.symm, h1.trans hi, ⟨o, h1 ▸ ho, h4⟩, h3 ▸ hs⟩ hl'
      exact ⟨nx2, hs2, by rw [hl2]; simp; omega⟩
    unfold evD at h
    split at h
    · rename_i hw
      split at h
      · rename_i v st' he
        cases hb : Nat.ble nx st'.nx
        · rw [hb] at h; cases h
        rw [hb] at h
        exact next ⟨i, o.dst, v, st'.wr, nx, st'.nx, st'.H⟩ st'.nx rfl rfl rfl ⟨rfl, Nat.le_of_ble_eq_true hb, .inl ⟨hw, _, _, he, rfl, rfl, rfl, .inl rfl⟩⟩ h
      · rename_i st' he
        cases hb : Nat.ble nx st'.nx
        · rw [hb] at h; cases h
        rw [hb] at h
        exact next ⟨i, o.dst, .tup [], st'.wr, nx, st'.nx, st'.H⟩ st'.nx rfl rfl rfl ⟨rfl, Nat.le_of_ble_eq_true hb, .inl ⟨hw, _, _, he, rfl, rfl, rfl, .inr ⟨rfl, rfl⟩⟩⟩ h
      · cases h
    · rename_i hw
      exact next ⟨i, o.dst, .tup [], [], nx, nx, []⟩ nx rfl rfl rfl ⟨rfl, Nat.le_refl _, .inr ⟨hw, rfl, rfl, rfl⟩⟩ h
    · cases h
/-- what the numbers and names of all are -/
structure Rng (l : List Oper) (nx0 : Nat) (rs : List RR) (nx : Nat) : Prop where
  le : nx0 ≤ nx
  falls : Falls rs
  rng : ∀ r ∈ rs, r.i < rs.length ∧ nx0 ≤ r.a ∧ r.a ≤ r.b ∧ r.b ≤ nx
  ord : ∀ r ∈ rs, ∀ r' ∈ rs, r.i < r'.i → r.b ≤ r'.a
  cover : ∀ x, nx0 ≤ x → x < nx → ∃ r ∈ rs, r.a ≤ x ∧ x < r.b
  one : ∀ i, i < rs.length → ∃ r ∈ rs, r.i = i
theorem Sp.rng : ∀ {rs : List RR} {nx : Nat}, Sp P call ops ms fr H l nx0 rs nx → Rng l nx0 rs nx
  | [], nx, h => by
    cases h
    exact ⟨Nat.le_refl _, List.Pairwise.nil, fun r hr => (by cases hr), fun r hr => (by cases hr), fun x h1 h2 => (by omega), fun i hi => (by cases hi)⟩
  | r :: rs, nx, ⟨h1, h2, ⟨o, ho, hop⟩, h3⟩ => by
    have ih := Sp.rng h3
    have hle := hop.le
    subst h1
    refine ⟨Nat.le_trans ih.le hle, List.pairwise_cons.2 ⟨fun r' hr => by rw [h2]; exact (ih.rng r' hr).1, ih.falls⟩, fun r' hr => ?_, fun r1 hr1 r2 hr2 hlt => ?_, fun x hx1 hx2 => ?_, fun i hi => ?_⟩
    · rcases List.mem_cons.1 hr with rfl | hr
      · exact ⟨by simp [h2], ih.le, hle, Nat.le_refl _⟩
      · have := ih.rng r' hr
        exact ⟨by simp; omega, this.2.1, this.2.2.1, by omega⟩
    · rcases List.mem_cons.1 hr1 with e1 | m1
      · rcases List.mem_cons.1 hr2 with e2 | m2
        · rw [e1, e2] at hlt; omega
        · have := (ih.rng r2 m2).1; rw [e1] at hlt; omega
      · rcases List.mem_cons.1 hr2 with e2 | m2
        · have := ih.rng r1 m1; rw [e2]; exact this.2.2.2
        · exact ih.ord r1 m1 r2 m2 hlt
    · by_cases hx : x < r.a
      · obtain ⟨r', hr, hx'⟩ := ih.cover x hx1 hx
        exact ⟨r', List.mem_cons_of_mem _ hr, hx'⟩
      · exact ⟨r, List.mem_cons_self .., by omega, hx2⟩
    · by_cases he : i = rs.length
      · exact ⟨r, List.mem_cons_self .., by omega⟩
      · obtain ⟨r', hr, hx'⟩ := ih.one i (by simp at hi; omega)
        exact ⟨r', List.mem_cons_of_mem _ hr, hx'⟩
theorem OpF.more {rs : List RR} {o : Oper} {r r0 : RR} (h : OpF P call ops ms fr H rs o r) (hr : ancM ms r.i r0.i = false) : OpF P call ops ms fr H (r0 :: rs) o r := by
  have e1 : mergeF (ancM ms r.i) fr (r0 :: rs) = mergeF (ancM ms r.i) fr rs := by simp [mergeF, hr]
  have e2 : mergeH (ancM ms r.i) H (r0 :: rs) = mergeH (ancM ms r.i) H rs := by simp [mergeH, hr]
  exact ⟨h.ds, h.le, by rw [e1, e2]; exact h.run⟩
theorem Sp.op (hlt : ∀ i j, i < l.length → ancM ms i j = true → j < i) : ∀ {rs : List RR} {nx : Nat}, Sp P call ops ms fr H l nx0 rs nx → ∀ r ∈ rs, ∃ o, l[r.i]? = some o ∧ OpF P call ops ms fr H rs o r
  | [], nx, h, r, hr => by cases hr
  | r0 :: rs, nx, h, r, hr => by
    obtain ⟨h1, h2, ⟨o, ho, hop⟩, h3⟩ := h
    have no : ∀ i, i < l.length → i ≤ r0.i → ancM ms i r0.i = false := fun i hi hle => by
      rw [← Bool.not_eq_true]
      intro he
      have := hlt i r0.i hi he
      omega
    rcases List.mem_cons.1 hr with rfl | hr
    · exact ⟨o, ho, hop.more (no _ (List.getElem?_eq_some_iff.1 ho).1 (Nat.le_refl _))⟩
    · obtain ⟨o', ho', hop'⟩ := Sp.op hlt h3 r hr
      have := (Sp.rng h3).rng r hr
      exact ⟨o', ho', hop'.more (no _ (List.getElem?_eq_some_iff.1 ho').1 (by omega))⟩
end
/-- what is written by those that neither wait for one nor are waited for by it -/
def forb (ms : List Nat) (i : Nat) : List RR → List Nat
  | [] => []
  | r :: rs => cond (Nat.beq r.i i || ancM ms i r.i || ancM ms r.i i) (forb ms i rs) (r.W ++ forb ms i rs)
theorem mem_forb {ms : List Nat} {i x : Nat} : ∀ {rs : List RR} {r : RR}, r ∈ rs → r.i ≠ i → ancM ms i r.i = false → ancM ms r.i i = false → x ∈ r.W → x ∈ forb ms i rs
  | r0 :: rs, r, hr, h1, h2, h3, hx => by
    unfold forb
    rcases List.mem_cons.1 hr with rfl | hr
    · rw [beq_f h1, h2, h3]
      exact List.mem_append_left _ hx
    · have := mem_forb hr h1 h2 h3 hx
      cases (Nat.beq r0.i i || ancM ms i r0.i || ancM ms r0.i i)
      · exact List.mem_append_right _ this
      · exact this
/-- does an operation go as it goes in a memory without these blocks? -/
def freeB (P : Program) (o : Oper) (fr : List SV) (F : List Nat) : Bool := match F with
  | [] => true
  | x :: F => match o.op with
    | .load _ y => match opv fr y with
      | some (.ptr (some (id, _))) => !memN id (x :: F)
      | _ => false
    | .store _ y _ => match opv fr y with
      | some (.ptr (some (id, _))) => !memN id (x :: F)
      | _ => false
    | .alloc _ => true
    | .box _ _ => true
    | .buildSlice _ _ _ => true
    | .makeSlice _ _ _ => true
    | .call c => match targetS fr c with
      | none => (pu P o fr).isSome
      | some _ => false
    | .panic _ => false
    | _ => (pu P o fr).isSome
theorem loadS_kill {P : Program} {st st' : St} {t : TypeId} {id off : Nat} (h : look st'.H id = look st.H id) : loadS P st' t (.ptr (some (id, off))) = loadS P st t (.ptr (some (id, off))) := by
  unfold loadS
  cases P.underlying t with
  | none => rfl
  | some d => simp only [h]
theorem storeS_kill {P : Program} {H H' : List (Nat × SO)} {nx : Nat} {t : TypeId} {id off : Nat} {v : SV} {S : St} (h : look H' id = look H id) (hs : storeS P ⟨H, nx, []⟩ t (.ptr (some (id, off))) v = some S) :
    ∃ S', storeS P ⟨H', nx, []⟩ t (.ptr (some (id, off))) v = some S' ∧ S'.nx = S.nx ∧ S'.wr = S.wr ∧ S.nx = nx ∧ S.wr = [id] ∧ look S'.H id = look S.H id := by
  unfold storeS at hs ⊢
  simp only [h] at hs ⊢
  split at hs
  · rename_i e cs ext vs n q1 q2 q3
    cases hb : (Nat.beq vs.length n && Nat.ble (off + n) cs.length && vs.all oneB)
    · rw [hb] at hs; cases hs
    rw [hb] at hs
    cases hs
    refine ⟨⟨ins H' id (.cells e (setR cs off vs) ext), nx, [id]⟩, ?_, rfl, rfl, rfl, rfl, ?_⟩
    · first
        | rfl
        | simp [hb]
    · rw [look_ins, look_ins, if_pos rfl, if_pos rfl]
  · cases hs
theorem newS_kill (H H' : List (Nat × SO)) (nx : Nat) (e : TypeId) (cs : List SV) : (newS ⟨H', nx, []⟩ e cs).2.nx = (newS ⟨H, nx, []⟩ e cs).2.nx ∧ (newS ⟨H', nx, []⟩ e cs).2.wr = (newS ⟨H, nx, []⟩ e cs).2.wr ∧
    ∀ k, k ∈ (newS ⟨H, nx, []⟩ e cs).2.wr ∨ (nx ≤ k ∧ k < (newS ⟨H, nx, []⟩ e cs).2.nx) → look (newS ⟨H', nx, []⟩ e cs).2.H k = look (newS ⟨H, nx, []⟩ e cs).2.H k := by
  refine ⟨rfl, rfl, fun k hk => ?_⟩
  simp only [newS] at hk ⊢
  rw [look_ins, look_ins, if_pos (hk.elim (fun h => by cases h) fun h => by omega), if_pos (hk.elim (fun h => by cases h) fun h => by omega)]
theorem evOp_kill {P : Program} {call : Caller} {o : Oper} {fr : List SV} {H : List (Nat × SO)} {nx : Nat} {r : OR} {S : St} {F : List Nat} (h : evOp P call o fr ⟨H, nx, []⟩ = some (r, S)) (hf : freeB P o fr F = true) :
    ∃ S', evOp P call o fr ⟨killL F H, nx, []⟩ = some (r, S') ∧ S'.nx = S.nx ∧ S'.wr = S.wr ∧ ∀ id, id ∈ S.wr ∨ (nx ≤ id ∧ id < S.nx) → look S'.H id = look S.H id := by
  have quiet : (pu P o fr).isSome = true → (match pu P o fr with
      | some v => some (OR.val v, (⟨H, nx, []⟩ : St))
      | none => match hop P o fr ⟨H, nx, []⟩ with
        | some (some v, st') => some (.val v, st')
        | some (none, st') => some (.skip, st')
        | none => none) = some (r, S) → ∃ S', (match pu P o fr with
      | some v => some (OR.val v, (⟨killL F H, nx, []⟩ : St))
      | none => match hop P o fr ⟨killL F H, nx, []⟩ with
        | some (some v, st') => some (.val v, st')
        | some (none, st') => some (.skip, st')
        | none => none) = some (r, S') ∧ S'.nx = S.nx ∧ S'.wr = S.wr ∧ ∀ id, id ∈ S.wr ∨ (nx ≤ id ∧ id < S.nx) → look S'.H id = look S.H id := fun hp h => by
    obtain ⟨v, hv⟩ := Option.isSome_iff_exists.1 hp
    rw [hv] at h ⊢
    cases h
    exact ⟨_, rfl, rfl, rfl, fun id hid => hid.elim (fun h => by cases h) fun h => by have := h.2; simp only at this; omega⟩
  unfold freeB at hf
  split at hf
  · exact ⟨S, h, rfl, rfl, fun _ _ => rfl⟩
  rename_i x F
  split at hf
  · -- load
    rename_i t y ho
    split at hf
    · rename_i id off hy
      have hl : look (killL (x :: F) H) id = look H id := by
        rw [look_killL, if_neg (fun hm => by rw [memN_iff.2 hm] at hf; cases hf)]
      simp only [evOp, ho, pu, hop, hy] at h ⊢
      rw [loadS_kill (st := ⟨H, nx, []⟩) hl]
      cases hv : loadS P ⟨H, nx, []⟩ t (.ptr (some (id, off))) with
      | none => rw [hv] at h; cases h
      | some v =>
        rw [hv] at h
        cases h
        exact ⟨_, rfl, rfl, rfl, fun id hid => hid.elim (fun h => by cases h) fun h => by have := h.2; simp only at this; omega⟩
    · cases hf
  · rename_i t y z ho
    split at hf
    · rename_i id off hy
      have hl : look (killL (x :: F) H) id = look H id := by
        rw [look_killL, if_neg (fun hm => by rw [memN_iff.2 hm] at hf; cases hf)]
      simp only [evOp, ho, pu, hop, hy] at h ⊢
      cases hz : opv fr z with
      | none => rw [hz] at h; cases h
      | some v =>
        rw [hz] at h
        simp only at h ⊢
        cases hs : storeS P ⟨H, nx, []⟩ t (.ptr (some (id, off))) v with
        | none => rw [hs] at h; cases h
        | some S1 =>
          rw [hs] at h
          cases h
          obtain ⟨S', e1, e2, e3, e4, e5, e6⟩ := storeS_kill hl hs
          rw [e1]
          refine ⟨S', rfl, e2, e3, fun k hk => ?_⟩
          rcases hk with hk | hk
          · rw [e5] at hk
            simp at hk
            subst hk
            exact e6
          · omega
    · cases hf
  · rename_i t ho
    simp only [evOp, ho, pu, hop] at h ⊢
    cases hz : zeroS P t with
    | none => rw [hz] at h; cases h
    | some zs =>
      rw [hz] at h
      cases h
      exact ⟨_, rfl, newS_kill H _ nx t zs⟩
  · rename_i t y ho
    simp only [evOp, ho, pu, hop] at h ⊢
    cases hz : opv fr y with
    | none => rw [hz] at h; cases h
    | some v =>
      rw [hz] at h
      simp only at h ⊢
      cases hc : cellsS v with
      | none => rw [hc] at h; cases h
      | some cs =>
        rw [hc] at h
        cases h
        exact ⟨_, rfl, newS_kill H _ nx t cs⟩
  · rename_i t n ps ho
    simp only [evOp, ho, pu, hop] at h ⊢
    cases hz : partsS fr ps.toList with
    | none => rw [hz] at h; cases h
    | some v =>
      rw [hz] at h
      simp only [buildSliceS] at h ⊢
      cases hc : buildSliceC P t n v with
      | none => rw [hc] at h; cases h
      | some er =>
        rw [hc] at h
        cases h
        exact ⟨_, rfl, newS_kill H _ nx er.1 er.2⟩
  · rename_i t y z ho
    simp only [evOp, ho, pu, hop] at h ⊢
    cases hy : opv fr y with
    | none => rw [hy] at h; cases h
    | some v =>
      rw [hy] at h
      cases hz : opv fr z with
      | none => rw [hz] at h; cases h
      | some u =>
        rw [hz] at h
        simp only [makeSliceS] at h ⊢
        cases hc : makeSliceC P t v u with
        | none => rw [hc] at h; cases h
        | some er =>
          rw [hc] at h
          cases h
          exact ⟨_, rfl, newS_kill H _ nx er.1 er.2.1⟩
  · rename_i c ho
    unfold evOp at h ⊢
    rw [ho] at h ⊢
    simp only at h ⊢
    split at hf
    · rename_i ht
      rw [ht] at h ⊢
      exact quiet hf h
    · cases hf
  · cases hf
  · rename_i h1 h2 h3 h4 h5 h6 h7 h8
    have e : ∀ st, evOp P call o fr st = (match pu P o fr with
      | some v => some (OR.val v, st)
      | none => match hop P o fr st with
        | some (some v, st') => some (.val v, st')
        | some (none, st') => some (.skip, st')
        | none => none) := fun st => by
      unfold evOp
      split
      · rename_i y hy; exact absurd hy (h8 _)
      · rename_i c hc; exact absurd hc (h7 _)
      · rfl
    rw [e] at h ⊢
    exact quiet hf h
end Go.Ev
