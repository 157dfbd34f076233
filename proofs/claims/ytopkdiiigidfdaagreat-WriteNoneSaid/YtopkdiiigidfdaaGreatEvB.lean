/-
  The evaluator: values out of constants, operands, and operations that touch no memory. No program is named here. No conditions.
-/
import Derived.Test.YtopkdiiigidfdaaGreatEvA
namespace Go.Ev
open Go.RowKit Go.Al
set_option linter.unusedVariables false

def mapO {α β : Type} (f : α → Option β) : List α → Option (List β)
  | [] => some []
  | x :: l => match f x, mapO f l with
    | some y, some m => some (y :: m)
    | _, _ => none
theorem mapO_cons {α β : Type} {f : α → Option β} {x : α} {l : List α} {r : List β} (h : mapO f (x :: l) = some r) : ∃ y m, f x = some y ∧ mapO f l = some m ∧ r = y :: m := by
  unfold mapO at h
  split at h
  · cases h; exact ⟨_, _, by assumption, by assumption, rfl⟩
  · cases h
theorem mapO_length {α β : Type} {f : α → Option β} : ∀ {l : List α} {r : List β}, mapO f l = some r → r.length = l.length
  | [], r, h => by cases h; rfl
  | x :: l, r, h => by
    obtain ⟨y, m, _, hm, rfl⟩ := mapO_cons h
    simp [mapO_length hm]
/-- a constant as a value of ours -/
def ofV : Nat → Value → Option SV
  | 0, _ => none
  | n + 1, v => match v with
    | .bool b => some (.bool b)
    | .int k i => some (.int k i)
    | .string s => some (.str s.data.toList)
    | .pointer none => some (.ptr none)
    | .slice none k c => cond (Nat.ble k c) (some (.slice none k (.lit c))) none
    | .map none => some (.map none)
    | .nilFunc => some .nilFunc
    | .nilIface => some .nilIface
    | .iface t x => (ofV n x).map (.iface t)
    | .agg cs => (mapO (ofV n) cs.toList).map .agg
    | .tuple cs => (mapO (ofV n) cs.toList).map .tup
    | .func fn f c => match mapO (ofV n) f.toList, mapO (ofV n) c.toList with
      | some f', some c' => some (.func fn f' c')
      | _, _ => none
    | _ => none
section
variable {A : Nat → Prop} {I : In}
theorem mapO_den {f : Value → Option SV} (hf : ∀ v s, f v = some s → s.den I = v ∧ s.ok A I) : ∀ {l : List Value} {r : List SV}, mapO f l = some r → denL I r = l ∧ okL A I r
  | [], r, h => by cases h; exact ⟨rfl, trivial⟩
  | x :: l, r, h => by
    obtain ⟨y, m, hy, hm, rfl⟩ := mapO_cons h
    have a := hf x y hy
    have b := mapO_den hf hm
    exact ⟨by simp only [denL, a.1, b.1], a.2, b.2⟩
theorem ofV_den : ∀ (n : Nat) (v : Value) (s : SV), ofV n v = some s → s.den I = v ∧ s.ok A I
  | 0, v, s, h => by cases h
  | n + 1, v, s, h => by
    have ih := ofV_den n
    unfold ofV at h
    split at h
    · cases h; exact ⟨rfl, trivial⟩
    · cases h; exact ⟨rfl, trivial⟩
    · cases h; exact ⟨rfl, trivial⟩
    · cases h; exact ⟨rfl, fun q hq => by cases hq⟩
    · rename_i k c
      cases hb : Nat.ble k c
      · rw [hb] at h; cases h
      · rw [hb] at h
        cases h
        exact ⟨rfl, ⟨fun q hq => (by cases hq), Nat.le_of_ble_eq_true hb⟩⟩
    · cases h; exact ⟨rfl, fun q hq => by cases hq⟩
    · cases h; exact ⟨rfl, trivial⟩
    · cases h; exact ⟨rfl, trivial⟩
    · obtain ⟨x, hx, rfl⟩ := Option.map_eq_some_iff.1 h
      have a := ih _ _ hx
      exact ⟨by simp only [SV.den, a.1], a.2⟩
    · obtain ⟨x, hx, rfl⟩ := Option.map_eq_some_iff.1 h
      have a := mapO_den (A := A) (I := I) ih hx
      exact ⟨by simp only [SV.den, a.1, Array.toArray_toList], a.2⟩
    · obtain ⟨x, hx, rfl⟩ := Option.map_eq_some_iff.1 h
      have a := mapO_den (A := A) (I := I) ih hx
      exact ⟨by simp only [SV.den, a.1, Array.toArray_toList], a.2⟩
    · split at h
      · rename_i hf hc
        cases h
        have a := mapO_den (A := A) (I := I) ih hf
        have b := mapO_den (A := A) (I := I) ih hc
        exact ⟨by simp only [SV.den, a.1, b.1, Array.toArray_toList], a.2, b.2⟩
      · cases h
    · cases h
end
mutual
/-- a value without names -/
def toV : SV → Option Value
  | .bool b => some (.bool b)
  | .int k n => some (.int k n)
  | .str s => some (.string ⟨s.toArray⟩)
  | .ptr none => some (.pointer none)
  | .slice none n (.lit c) => some (.slice none n c)
  | .map none => some (.map none)
  | .nilFunc => some .nilFunc
  | .nilIface => some .nilIface
  | .iface t v => match toV v with
    | some x => some (.iface t x)
    | none => none
  | .agg l => match toVL l with
    | some x => some (.agg x.toArray)
    | none => none
  | .tup l => match toVL l with
    | some x => some (.tuple x.toArray)
    | none => none
  | _ => none
def toVL : List SV → Option (List Value)
  | [] => some []
  | v :: l => match toV v, toVL l with
    | some x, some m => some (x :: m)
    | _, _ => none
end
mutual
theorem toV_den (I : In) : ∀ (s : SV) (v : Value), toV s = some v → s.den I = v
  | .bool b, v, h => by cases h; rfl
  | .int k n, v, h => by cases h; rfl
  | .str s, v, h => by cases h; rfl
  | .ptr none, v, h => by cases h; rfl
  | .ptr (some p), v, h => by cases h
  | .slice none n (.lit c), v, h => by cases h; rfl
  | .slice none n (.sym j k), v, h => by cases h
  | .slice (some p) n c, v, h => by cases h
  | .esl j, v, h => by cases h
  | .map none, v, h => by cases h; rfl
  | .map (some r), v, h => by cases h
  | .func fn f c, v, h => by cases h
  | .nilFunc, v, h => by cases h; rfl
  | .nilIface, v, h => by cases h; rfl
  | .atom n, v, h => by cases h
  | .iface t x, v, h => by
    unfold toV at h
    split at h
    · rename_i hx; cases h; simp only [SV.den, toV_den I x _ hx]
    · cases h
  | .agg l, v, h => by
    unfold toV at h
    split at h
    · rename_i hx; cases h; simp only [SV.den, toVL_den I l _ hx]
    · cases h
  | .tup l, v, h => by
    unfold toV at h
    split at h
    · rename_i hx; cases h; simp only [SV.den, toVL_den I l _ hx]
    · cases h
theorem toVL_den (I : In) : ∀ (l : List SV) (v : List Value), toVL l = some v → denL I l = v
  | [], v, h => by cases h; rfl
  | x :: l, v, h => by
    unfold toVL at h
    split at h
    · rename_i hx hl; cases h; simp only [denL, toV_den I x _ hx, toVL_den I l _ hl]
    · cases h
end
/-- what a piece of the machine's work answers, if it touches nothing -/
def runP {α : Type} (P : Program) : Sem α → Option α
  | .pure a => some a
  | .program k => runP P (k P)
  | _ => none
theorem runP_run {α : Type} {P : Program} : ∀ {s : Sem α} {a : α}, runP P s = some a → ∀ w, s.run P w = .ok a w
  | .pure x, a, h, w => by cases h; rfl
  | .program k, a, h, w => by
    unfold runP at h
    exact runP_run h w
  | .load .., a, h, w => by cases h
  | .store .., a, h, w => by cases h
  | .new .., a, h, w => by cases h
  | .shape .., a, h, w => by cases h
  | .freeze .., a, h, w => by cases h
  | .frozen .., a, h, w => by cases h
  | .getObj .., a, h, w => by cases h
  | .setObj .., a, h, w => by cases h
  | .choose .., a, h, w => by cases h
  | .sys .., a, h, w => by cases h
  | .mark .., a, h, w => by cases h
  | .halt .., a, h, w => by cases h

def nth : List SV → Nat → SV
  | [], _ => .tup []
  | v :: _, 0 => v
  | _ :: l, n + 1 => nth l n
theorem nth_get : ∀ (l : List SV) (n : Nat), nth l n = (l[n]?).getD (.tup [])
  | [], n => by simp [nth]
  | v :: l, 0 => by simp [nth]
  | v :: l, n + 1 => by simp [nth, nth_get l n]
/-- a frame -/
structure Fr (A : Nat → Prop) (I : In) (fr : List SV) (a : Act) : Prop where
  defers : a.defers = []
  tmps : a.tmps = (denL I fr).toArray
  ok : okL A I fr
def opv (fr : List SV) : Operand → Option SV
  | .tmp t => some (nth fr t)
  | .const v => ofV 6 v
  | .global _ => none
  | .func f => some (.func (.func f) [] [])
section
variable {A : Nat → Prop} {I : In} {fr : List SV} {a : Act}
theorem opv_den (hf : Fr A I fr a) {x : Operand} {s : SV} (h : opv fr x = some s) : a.eval x = s.den I ∧ s.ok A I := by
  cases x with
  | tmp t =>
    simp only [opv, Option.some.injEq] at h
    subst h
    simp only [Act.eval, hf.tmps, Array.getD_eq_getD_getElem?, List.getElem?_toArray, denL_get, nth_get]
    cases ht : fr[t]? with
    | none => exact ⟨rfl, trivial⟩
    | some v => exact ⟨rfl, hf.ok.get ht⟩
  | const v =>
    have := ofV_den (A := A) (I := I) 6 v s h
    exact ⟨this.1.symm, this.2⟩
  | global g => cases h
  | func f =>
    simp only [opv, Option.some.injEq] at h
    subst h
    exact ⟨rfl, trivial, trivial⟩
def putF (fr : List SV) (d : Option Tmp) (v : SV) : List SV := match d with
  | some d => fr.set d v
  | none => fr
theorem Fr.put (hf : Fr A I fr a) (d : Option Tmp) {v : SV} (hv : v.ok A I) : Fr A I (putF fr d v) (a.put d (v.den I)) := by
  cases d with
  | none => exact hf
  | some d => exact ⟨hf.defers, by simp [Act.put, putF, hf.tmps, denL_set], hf.ok.set d hv⟩
theorem Fr.agr {I' : In} (hf : Fr A I fr a) (h : Agrees A I I') : Fr A I' fr a := ⟨hf.defers, by rw [denL_agr h fr hf.ok]; exact hf.tmps, okL_agr h fr hf.ok⟩
theorem Fr.mono {B : Nat → Prop} (hf : Fr A I fr a) (h : ∀ i, A i → B i) : Fr B I fr a := ⟨hf.defers, hf.tmps, okL_mono h fr hf.ok⟩
end
end Go.Ev
