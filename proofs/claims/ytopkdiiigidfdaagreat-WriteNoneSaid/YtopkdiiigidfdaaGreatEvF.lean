/-
  The evaluator: all operations that touch no memory, in one. No program is named here. No conditions.
-/
import Derived.Test.YtopkdiiigidfdaaGreatEvE
namespace Go.Ev
open Go.RowKit Go.Al
set_option linter.unusedVariables false

def genV (P : Program) (s : Value → Sem Value) (x : SV) : Option SV := match toV x with
  | some v => gen P (s v)
  | none => none
def genV2 (P : Program) (s : Value → Value → Sem Value) (x y : SV) : Option SV := match toV x, toV y with
  | some v, some u => gen P (s v u)
  | _, _ => none
def binS (P : Program) (op : BinOp) (t : TypeId) (xo yo : Operand) (x y : SV) : Option SV :=
  match x, y with
  | .int k a, .int k' b => match cond (decide (k = k')) (ibin op k a b) none with
    | some s => some s
    | none => gen P (do eqGuard op t xo yo (.int k a) (.int k' b); binOp op t (.int k a) (.int k' b))
  | x, y => match genV2 P (fun a b => do eqGuard op t xo yo a b; binOp op t a b) x y with
    | some s => some s
    | none => match op, nilEq P t x y with
      | .eql, some b => some (.bool b)
      | .neq, some b => some (.bool !b)
      | _, _ => none
def nilCk : SV → Option SV
  | .ptr (some p) => some (.ptr (some p))
  | .func (.func k) f c => some (.func (.func k) f c)
  | .iface t v => some (.iface t v)
  | .slice p n c => some (.slice p n c)
  | .map r => some (.map r)
  | _ => none
def intOf (n : Nat) : SV := .int .i64 (n : Int)
/-- built-in functions that touch nothing -/
def bltS (P : Program) (b : Builtin) (ts : Array TypeId) (ty : TypeId) (cs : Array Bool) (args : List SV) : Option SV :=
  match b, args with
  | .len, [.slice p n c] => match (ts[0]?).bind P.underlying with
    | some (.slice _) => some (intOf n)
    | _ => none
  | .len, [.esl j] => match (ts[0]?).bind P.underlying with
    | some (.slice _) => some (intOf 0)
    | _ => none
  | .cap, [.slice p n (.lit m)] => match (ts[0]?).bind P.underlying with
    | some (.slice _) => some (intOf m)
    | _ => none
  | .len, [.map none] => match (ts[0]?).bind P.underlying with
    | some (.map _ _) => some (intOf 0)
    | _ => none
  | b, args => match toVL args with
    | some vs => match runP P (builtin b ts ty cs vs.toArray) with
      | some (.value v) => ofV 6 v
      | _ => none
    | none => none
def pu (P : Program) (o : Oper) (fr : List SV) : Option SV :=
  match o.op with
  | .move x => opv fr x
  | .assign x => opv fr x
  | .pick c a b => match opv fr c with
    | some (.bool t) => cond t (opv fr a) (opv fr b)
    | _ => none
  | .extract x i => match opv fr x with
    | some (.tup l) => l[i]?
    | _ => none
  | .makeFunc fn f c => match mapO (opv fr) f.toList, mapO (opv fr) c.toList with
    | some f', some c' => some (.func fn f' c')
    | _, _ => none
  | .nilCheck x => match opv fr x with
    | some v => nilCk v
    | none => none
  | .fieldAddr s x f => match opv fr x with
    | some v => fieldS P s v f
    | none => none
  | .field s x f => match opv fr x with
    | some v => fieldV P s v f
    | none => none
  | .indexAddr t x i => match opv fr x, opv fr i with
    | some v, some j => indexS P t v j
    | _, _ => none
  | .index t x i => match opv fr x, opv fr i with
    | some v, some j => indexV P t v j
    | _, _ => none
  | .binOp op t x y _ => match opv fr x, opv fr y with
    | some a, some b => binS P op t x y a b
    | _, _ => none
  | .unOp op _ x => match opv fr x with
    | some v => genV P (Op.unary op) v
    | none => none
  | .convert s d x => match opv fr x with
    | some v => genV P (convert s d) v
    | none => none
  | .makeInterface t x => match opv fr x, P.concrete t with
    | some v, true => some (.iface t v)
    | _, _ => none
  | .build t parts => match partsS fr parts.toList with
    | some ps => buildS P t ps
    | none => none
  | .slice t x lo hi mx => match opv fr x, mapO (opv fr) lo.toList, mapO (opv fr) hi.toList, mapO (opv fr) mx.toList with
    | some v, some l, some h, some m => match sliceS P t v l.head? h.head? m.head? with
      | some s => some s
      | none => match toV v, mapO toV l, mapO toV h, mapO toV m with
        | some v', some l', some h', some m' => gen P (Instr.sliceAt t v' l'.head? h'.head? m'.head?)
        | _, _, _, _ => none
    | _, _, _, _ => none
  | .call c => match c.callee with
    | .builtin b => match mapO (opv fr) c.args.toList with
      | some args => bltS P b c.argTypes o.type (c.args.map fun | .const _ => true | _ => false) args
      | none => none
    | _ => none
  | _ => none
section
variable {P : Program} {A : Nat → Prop} {I : In} {fr : List SV} {a : Act}
theorem genV_run {s : Value → Sem Value} {x v : SV} (h : genV P s x = some v) (w : World) : (s (x.den I)).run P w = .ok (v.den I) w ∧ v.ok A I := by
  unfold genV at h
  split at h
  · rename_i u hu; rw [toV_den I x u hu]; exact gen_run h w
  · cases h
theorem genV2_run {s : Value → Value → Sem Value} {x y v : SV} (h : genV2 P s x y = some v) (w : World) : (s (x.den I) (y.den I)).run P w = .ok (v.den I) w ∧ v.ok A I := by
  unfold genV2 at h
  split at h
  · rename_i u u' hu hu'; rw [toV_den I x u hu, toV_den I y u' hu']; exact gen_run h w
  · cases h
theorem binS_run {op : BinOp} {t : TypeId} {xo yo : Operand} {x y v : SV} (h : binS P op t xo yo x y = some v) (w : World) :
    (do eqGuard op t xo yo (x.den I) (y.den I); binOp op t (x.den I) (y.den I) : Sem Value).run P w = .ok (v.den I) w ∧ v.ok A I := by
  unfold binS at h
  split at h
  · rename_i k a k' b
    split at h
    · rename_i s hs
      cases h
      by_cases hk : k = k'
      · subst hk
        simp only [decide_true, cond_true] at hs
        exact ibin_run hs t xo yo w
      · simp [hk] at hs
    · exact gen_run h w
  · split at h
    · rename_i hs
      cases h
      exact genV2_run hs w
    · split at h
      · cases h
        exact ⟨(nilEq_run (by assumption) w xo yo).1, trivial⟩
      · cases h
        exact ⟨(nilEq_run (by assumption) w xo yo).2, trivial⟩
      · cases h
theorem opvL_den (hf : Fr A I fr a) : ∀ {l : List Operand} {r : List SV}, mapO (opv fr) l = some r → l.map a.eval = denL I r ∧ okL A I r
  | [], r, h => by cases h; exact ⟨rfl, trivial⟩
  | x :: l, r, h => by
    obtain ⟨y, m, hy, hm, rfl⟩ := mapO_cons h
    have h1 := opv_den hf hy
    have h2 := opvL_den hf hm
    exact ⟨by simp only [List.map_cons, denL, h1.1, h2.1], h1.2, h2.2⟩
theorem opvO_den (hf : Fr A I fr a) {x : Option Operand} {r : List SV} (h : mapO (opv fr) x.toList = some r) : x.map a.eval = r.head?.map (SV.den I) ∧ ∀ v, r.head? = some v → v.ok A I := by
  cases x with
  | none => cases h; exact ⟨rfl, fun v hv => by cases hv⟩
  | some y =>
    obtain ⟨z, m, hz, hm, rfl⟩ := mapO_cons h
    have := opv_den hf hz
    exact ⟨by simp [this.1], fun v hv => by cases hv; exact this.2⟩
theorem toVO_den {x : List SV} {r : List Value} (h : mapO toV x = some r) (hl : x.length ≤ 1) : x.head?.map (SV.den I) = r.head? := by
  cases x with
  | nil => cases h; rfl
  | cons y x =>
    obtain ⟨z, m, hz, hm, rfl⟩ := mapO_cons h
    simp [toV_den I _ _ hz]
theorem nilCk_run {x v : SV} (h : nilCk x = some v) (o : Oper) (y : Operand) (ρ : Operand → Value) (hy : ρ y = x.den I) (ho : o.op = .nilCheck y) (hx : x.ok A I) (w : World) : (execOp ρ o).run P w = .ok (.value (v.den I)) w ∧ v.ok A I := by
  unfold nilCk at h
  unfold execOp
  simp only [ho, hy]
  split at h <;> first
    | (cases h; exact ⟨rfl, hx⟩)
    | cases h
theorem bltS_run {b : Builtin} {ts : Array TypeId} {ty : TypeId} {cs : Array Bool} {args : List SV} {v : SV} (h : bltS P b ts ty cs args = some v) (w : World) :
    (builtin b ts ty cs (denL I args).toArray).run P w = .ok (.value (v.den I)) w ∧ v.ok A I := by
  unfold bltS at h
  split at h
  · rename_i p n c
    split at h
    · rename_i e he
      cases h
      obtain ⟨t, ht, hu⟩ := Option.bind_eq_some_iff.1 he
      exact ⟨by simp [builtin, Builtin.len_, ht, denL, SV.den, run_underlying hu, intOf, goInt], trivial⟩
    · cases h
  · split at h
    · rename_i e he
      cases h
      obtain ⟨t, ht, hu⟩ := Option.bind_eq_some_iff.1 he
      exact ⟨by simp [builtin, Builtin.len_, ht, denL, SV.den, run_underlying hu, intOf, goInt], trivial⟩
    · cases h
  · split at h
    · rename_i e he
      cases h
      obtain ⟨t, ht, hu⟩ := Option.bind_eq_some_iff.1 he
      exact ⟨by simp [builtin, Builtin.cap_, ht, denL, SV.den, Cap.den, run_underlying hu, intOf, goInt], trivial⟩
    · cases h
  · split at h
    · rename_i e e2 he
      cases h
      obtain ⟨t, ht, hu⟩ := Option.bind_eq_some_iff.1 he
      exact ⟨by simp [builtin, Builtin.len_, ht, denL, SV.den, run_underlying hu, intOf, goInt], trivial⟩
    · cases h
  · split at h
    · rename_i vs hvs
      split at h
      · rename_i x hx
        have := ofV_den (A := A) (I := I) 6 _ _ h
        rw [toVL_den I _ _ hvs]
        exact ⟨by rw [runP_run hx w, this.1], this.2⟩
      · cases h
    · cases h
theorem pu_run (hv : ∀ n, (I.val n).oneCell' = true) {o : Oper} {v : SV} (hf : Fr A I fr a) (h : pu P o fr = some v) (w : World) : (execOp a.eval o).run P w = .ok (.value (v.den I)) w ∧ v.ok A I := by
  unfold pu at h
  split at h
  case h_1 x ho => have := opv_den hf h; exact ⟨by simp [execOp, ho, this.1], this.2⟩
  case h_2 x ho => have := opv_den hf h; exact ⟨by simp [execOp, ho, this.1], this.2⟩
  case h_3 c x y ho =>
    split at h
    · rename_i t ht
      have hc := (opv_den hf ht).1
      cases t
      · have := opv_den hf h; exact ⟨by simp [execOp, ho, hc, SV.den, asBool, this.1], this.2⟩
      · have := opv_den hf h; exact ⟨by simp [execOp, ho, hc, SV.den, asBool, this.1], this.2⟩
    · cases h
  case h_4 x i ho =>
    split at h
    · rename_i l hl
      have := opv_den hf hl
      refine ⟨?_, okL.get this.2 h⟩
      simp [execOp, ho, this.1, SV.den, Instr.extract, denL_get, h]
    · cases h
  case h_5 fn f c ho =>
    split at h
    · rename_i f' c' h1 h2
      cases h
      have a1 := opvL_den hf h1
      have a2 := opvL_den hf h2
      refine ⟨?_, a1.2, a2.2⟩
      have e1 : f.map a.eval = (denL I f').toArray := by rw [← a1.1, ← Array.toList_map, Array.toArray_toList]
      have e2 : c.map a.eval = (denL I c').toArray := by rw [← a2.1, ← Array.toList_map, Array.toArray_toList]
      simp [execOp, ho, e1, e2, SV.den, Instr.makeFunc]
    · cases h
  case h_6 x ho =>
    split at h
    · rename_i y hy
      have := opv_den hf hy
      exact nilCk_run h o x a.eval this.1 ho this.2 w
    · cases h
  case h_7 s x f ho =>
    split at h
    · rename_i y hy
      have := opv_den hf hy
      have r := fieldS_run h this.2 w
      exact ⟨by simp [execOp, ho, this.1, r.1], r.2⟩
    · cases h
  case h_8 s x f ho =>
    split at h
    · rename_i y hy
      have := opv_den hf hy
      have r := fieldV_run h this.2 w
      exact ⟨by simp [execOp, ho, this.1, r.1], r.2⟩
    · cases h
  case h_9 t x i ho =>
    split at h
    · rename_i y j hy hj
      have h1 := opv_den hf hy
      have h2 := opv_den hf hj
      have r := indexS_run h h1.2 w
      exact ⟨by simp [execOp, ho, h1.1, h2.1, r.1], r.2⟩
    · cases h
  case h_10 t x i ho =>
    split at h
    · rename_i y j hy hj
      have h1 := opv_den hf hy
      have h2 := opv_den hf hj
      have r := indexV_run h h1.2 w
      exact ⟨by simp [execOp, ho, h1.1, h2.1, r.1], r.2⟩
    · cases h
  case h_11 op t x y ty ho =>
    split at h
    · rename_i u u' hu hu'
      have h1 := opv_den hf hu
      have h2 := opv_den hf hu'
      have r := binS_run (A := A) (I := I) h w
      refine ⟨?_, r.2⟩
      simp only [execOp, ho, h1.1, h2.1]
      rw [Sem.run_bind, r.1]
      rfl
    · cases h
  case h_12 op t x ho =>
    split at h
    · rename_i y hy
      have := opv_den hf hy
      have r := genV_run (A := A) (I := I) h w
      exact ⟨by simp [execOp, ho, this.1, r.1], r.2⟩
    · cases h
  case h_13 s d x ho =>
    split at h
    · rename_i y hy
      have := opv_den hf hy
      have r := genV_run (A := A) (I := I) h w
      exact ⟨by simp [execOp, ho, this.1, r.1], r.2⟩
    · cases h
  case h_14 t x ho =>
    split at h
    · rename_i y hy hc
      cases h
      have := opv_den hf hy
      exact ⟨by simp [execOp, ho, this.1, run_makeInterface w t _ hc, SV.den], this.2⟩
    · cases h
  case h_15 t parts ho =>
    split at h
    · rename_i ps hps
      have h1 := partsS_den hf hps
      have r := buildS_run hv h h1.2 (parts.map fun x => (x.1, a.eval x.2)) (by rw [Array.toList_map]; exact h1.1) w
      refine ⟨?_, r.2⟩
      simp only [execOp, ho]
      rw [Sem.run_bind, r.1]
      rfl
    · cases h
  case h_16 t x lo hi mx ho =>
    split at h
    · rename_i y l h' m hy hl hh hm
      have h1 := opv_den hf hy
      have e1 := opvO_den hf hl
      have e2 := opvO_den hf hh
      have e3 := opvO_den hf hm
      split at h
      · rename_i s hs
        cases h
        have r := sliceS_run hs h1.2 w
        refine ⟨?_, r.2⟩
        simp only [execOp, ho, h1.1, e1.1, e2.1, e3.1]
        rw [Sem.run_bind, r.1]
        rfl
      · split at h
        · rename_i v' l' h'' m' q1 q2 q3 q4
          have r := gen_run (A := A) (I := I) h w
          have len : ∀ {x : Option Operand} {r : List SV}, mapO (opv fr) x.toList = some r → r.length ≤ 1 := fun {x r} he => by rw [mapO_length he]; cases x <;> simp
          refine ⟨?_, r.2⟩
          simp only [execOp, ho, h1.1, e1.1, e2.1, e3.1, toV_den I _ _ q1, toVO_den (I := I) q2 (len hl), toVO_den (I := I) q3 (len hh), toVO_den (I := I) q4 (len hm)]
          rw [Sem.run_bind, r.1]
          rfl
        · cases h
    · cases h
  case h_17 c ho =>
    split at h
    · rename_i b hb
      split at h
      · rename_i args hargs
        have h1 := opvL_den hf hargs
        have e1 : c.args.map a.eval = (denL I args).toArray := by rw [← h1.1, ← Array.toList_map, Array.toArray_toList]
        have r := bltS_run (A := A) (I := I) h w
        refine ⟨?_, r.2⟩
        simp only [execOp, ho, resolve, hb, Sem.run_bind, Sem.run_pure, Result.andThen_ok, invoke, e1]
        exact r.1
      · cases h
    · cases h
  case h_18 => cases h
end
end Go.Ev
