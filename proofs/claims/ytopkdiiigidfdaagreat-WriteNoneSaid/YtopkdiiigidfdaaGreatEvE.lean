/-
  The evaluator: structs and arrays that are built; all operations that touch no memory, in one. No program is named here. No conditions.
-/
import Derived.Test.YtopkdiiigidfdaaGreatEvD
import Derived.Great.BuildSlice
namespace Go.Ev
open Go.RowKit Go.Al
set_option linter.unusedVariables false

/-- the cells of a value -/
def cellsS : SV → Option (List SV)
  | .agg l => some l
  | .tup _ => none
  | v => some [v]
/-- a value that lies in one cell, or in several that all do -/
def oneB : SV → Bool
  | .agg _ => false
  | .tup _ => false
  | _ => true
def setR (cells : List SV) (off : Nat) (vs : List SV) : List SV := cells.take off ++ vs ++ cells.drop (off + vs.length)
def fillS (place : Nat → Option (Nat × Nat)) (cells : List SV) : List (Nat × SV) → Option (List SV)
  | [] => some cells
  | (i, v) :: rest => match place i, cellsS v with
    | some (off, size), some vs => cond (Nat.beq vs.length size && Nat.ble (off + size) cells.length) (fillS place (setR cells off vs) rest) none
    | _, _ => none
section
variable {P : Program} {A : Nat → Prop} {I : In}
theorem cells_one (hv : ∀ n, (I.val n).oneCell' = true) {v : SV} (h : oneB v = true) : (v.den I).cells = #[v.den I] ∧ (v.den I).oneCell' = true := by
  cases v <;> first
    | exact ⟨rfl, rfl⟩
    | (simp [oneB] at h; done)
    | skip
  rename_i n
  have := hv n
  simp only [SV.den]
  generalize I.val n = u at *
  cases u <;> first
    | exact ⟨rfl, rfl⟩
    | (simp [Value.oneCell'] at this)
theorem cellsS_den (hv : ∀ n, (I.val n).oneCell' = true) {v : SV} {l : List SV} (h : cellsS v = some l) : (v.den I).cells = (denL I l).toArray ∧ (v.ok A I → okL A I l) := by
  cases hb : oneB v with
  | true =>
    have : l = [v] := by cases v <;> first | (cases h; rfl) | cases hb
    subst this
    exact ⟨(cells_one hv hb).1, fun h => ⟨h, trivial⟩⟩
  | false => cases v <;> first | (cases h; done) | (cases h; exact ⟨rfl, fun h => h⟩) | (cases hb; done)
theorem setR_den (cells : List SV) (off : Nat) (vs : List SV) : denL I (setR cells off vs) = (denL I cells).take off ++ denL I vs ++ (denL I cells).drop (off + vs.length) := by
  simp [setR, denL_append, denL_take, denL_drop]
theorem setR_ok {cells vs : List SV} (off : Nat) (h : okL A I cells) (h' : okL A I vs) : okL A I (setR cells off vs) := ((h.take off).append h').append (h.drop _)
theorem foldl_set (off : Nat) : ∀ (vs : List Value) (i : Nat) (l : List Value), off + i + vs.length ≤ l.length →
    (vs.zipIdx i).foldl (fun (cs : Array Value) (x : Value × Nat) => cs.setIfInBounds (off + x.2) x.1) l.toArray = (l.take (off + i) ++ vs ++ l.drop (off + i + vs.length)).toArray
  | [], i, l, h => by simp
  | v :: vs, i, l, h => by
    simp only [List.length_cons] at h
    simp only [List.zipIdx_cons, List.foldl_cons, List.setIfInBounds_toArray]
    rw [foldl_set off vs (i + 1) (l.set (off + i) v) (by simp; omega)]
    congr 1
    have hlt : off + i < l.length := by omega
    rw [show off + (i + 1) = off + i + 1 by omega]
    rw [List.take_set, List.drop_set]
    rw [if_pos (by omega)]
    rw [show off + i + 1 + vs.length = off + i + (v :: vs).length by simp; omega]
    simp only [List.append_assoc, List.cons_append]
    rw [List.take_succ_eq_append_getElem hlt]
    rw [List.set_append]
    simp [List.length_take, Nat.min_eq_left (Nat.le_of_lt hlt)]
theorem fillS_run (hv : ∀ n, (I.val n).oneCell' = true) {place : Nat → Option (Nat × Nat)} : ∀ {parts : List (Nat × SV)} {cells r : List SV}, fillS place cells parts = some r → okL A I cells → (∀ x ∈ parts, x.2.ok A I) →
    Instr.fill place (denL I cells).toArray (parts.map fun x => (x.1, x.2.den I)) = some (denL I r).toArray ∧ okL A I r
  | [], cells, r, h, hc, _ => by cases h; exact ⟨rfl, hc⟩
  | (i, v) :: rest, cells, r, h, hc, hp => by
    unfold fillS at h
    split at h
    · rename_i off size vs hpl hcs
      cases hb : (Nat.beq vs.length size && Nat.ble (off + size) cells.length)
      · rw [hb] at h; cases h
      · rw [hb] at h
        simp only [Bool.and_eq_true, Nat.beq_eq] at hb
        obtain ⟨h1, h4⟩ := cellsS_den (A := A) hv hcs
        have h2 := hb.1
        have h3 := Nat.le_of_ble_eq_true hb.2
        have ih := fillS_run hv h (setR_ok off hc (h4 (hp _ (List.mem_cons_self ..)))) (fun x hx => hp x (List.mem_cons_of_mem _ hx))
        refine ⟨?_, ih.2⟩
        rw [setR_den] at ih
        simp only [List.map_cons, Instr.fill, hpl, h1]
        rw [if_neg (by simp [h2]; omega)]
        have := foldl_set off (denL I vs) 0 (denL I cells) (by simp; omega)
        simp only [Nat.add_zero, denL_length] at this
        rw [← ih.1]
        congr 1
        rw [← this]
        simp
    · cases h
end
def zeroS (P : Program) (t : TypeId) : Option (List SV) := match P.info? t with
  | some it => match it.zero with
    | some z => mapO (ofV 6) z.cells.toList
    | none => none
  | none => none
def buildS (P : Program) (t : TypeId) (parts : List (Nat × SV)) : Option SV :=
  match P.info? t, P.underlying t with
  | some it, some (.array _ e) => match it.zero, P.info? e with
    | some z, some ie => match mapO (ofV 6) z.cells.toList with
      | some zs => match fillS (fun i => some (i * ie.size, ie.size)) zs parts with
        | some r => some (.agg r)
        | none => none
      | none => none
    | _, _ => none
  | some it, some (.struct fields) => match it.zero, fields.toList.mapM (fun f => (P.info? f.type).map fun i => (f.offset, i.size)) with
    | some z, some places => match mapO (ofV 6) z.cells.toList with
      | some zs => match fillS (places.toArray[·]?) zs parts with
        | some r => some (.agg r)
        | none => none
      | none => none
    | _, _ => none
  | _, _ => none
def partsS (fr : List SV) : List (Nat × Operand) → Option (List (Nat × SV)) := mapO fun x => match opv fr x.2 with
  | some v => some (x.1, v)
  | none => none
section
variable {P : Program} {A : Nat → Prop} {I : In} {fr : List SV} {a : Act}
theorem partsS_den (hf : Fr A I fr a) : ∀ {l : List (Nat × Operand)} {r : List (Nat × SV)}, partsS fr l = some r → (l.map fun x => (x.1, a.eval x.2)) = (r.map fun x => (x.1, x.2.den I)) ∧ ∀ x ∈ r, x.2.ok A I
  | [], r, h => by cases h; exact ⟨rfl, fun x hx => by cases hx⟩
  | x :: l, r, h => by
    obtain ⟨y, m, hy, hm, rfl⟩ := mapO_cons h
    have ih := partsS_den hf hm
    split at hy
    · rename_i v hv
      cases hy
      have := opv_den hf hv
      refine ⟨by simp [this.1, ih.1], fun z hz => ?_⟩
      rcases List.mem_cons.1 hz with rfl | hz
      · exact this.2
      · exact ih.2 z hz
    · cases hy
theorem buildS_run (hv : ∀ n, (I.val n).oneCell' = true) {t : TypeId} {parts : List (Nat × SV)} {s : SV} (h : buildS P t parts = some s) (hp : ∀ x ∈ parts, x.2.ok A I) (pa : Array (Nat × Value)) (hpa : pa.toList = parts.map fun x => (x.1, x.2.den I)) (w : World) :
    (Instr.build t pa).run P w = .ok (s.den I) w ∧ s.ok A I := by
  unfold buildS at h
  split at h
  · rename_i it n e hi hu
    split at h
    · rename_i z ie hz hie
      split at h
      · rename_i zs hzs
        split at h
        · rename_i r hr
          cases h
          have hd := mapO_den (A := A) (I := I) (ofV_den 6) hzs
          have := fillS_run hv hr hd.2 hp
          refine ⟨run_build w t pa _ ?_, this.2⟩
          rw [hd.1, Array.toArray_toList] at this
          simp only [Program.built, hi, hu, hz, hie, hpa]
          exact this.1
        · cases h
      · cases h
    · cases h
  · rename_i it fs hi hu
    split at h
    · rename_i z places hz hpl
      split at h
      · rename_i zs hzs
        split at h
        · rename_i r hr
          cases h
          have hd := mapO_den (A := A) (I := I) (ofV_den 6) hzs
          have := fillS_run hv hr hd.2 hp
          refine ⟨run_build w t pa _ ?_, this.2⟩
          rw [hd.1, Array.toArray_toList] at this
          simp only [Program.built, hi, hu, hz, hpl, hpa]
          exact this.1
        · cases h
      · cases h
    · cases h
  · cases h
end
/-- what touches nothing, at values without names -/
def gen (P : Program) (s : Sem Value) : Option SV := match runP P s with
  | some v => ofV 6 v
  | none => none
theorem gen_run {P : Program} {A : Nat → Prop} {I : In} {s : Sem Value} {v : SV} (h : gen P s = some v) (w : World) : s.run P w = .ok (v.den I) w ∧ v.ok A I := by
  unfold gen at h
  split at h
  · rename_i x hx
    have := ofV_den (A := A) (I := I) 6 _ _ h
    exact ⟨by rw [runP_run hx w, this.1], this.2⟩
  · cases h
end Go.Ev
