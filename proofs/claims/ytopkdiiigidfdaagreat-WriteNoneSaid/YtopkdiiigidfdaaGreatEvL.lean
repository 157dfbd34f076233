/-
  The evaluator: operations that call, and regions in the order of the text. No program is named here. Condition: no function with a body is the one that counts goroutines.
-/
import Derived.Test.YtopkdiiigidfdaaGreatEvK
namespace Go.Ev
open Go.RowKit Go.Al
set_option linter.unusedVariables false

/-- how a call ends -/
inductive SR where
  | ret (v : SV)
  | pan (v : SV)
/-- how an operation ends -/
inductive OR where
  | val (v : SV)
  | skip
  | pan (v : SV)
def chain (v : Value) : List PanicEntry := [{ v := v, recovered := false }]
def SR.is (A : Nat → Prop) (I : In) : SR → Ending → Prop
  | .ret v, e => e = .returned (v.den I) ∧ v.ok A I
  | .pan v, e => e = .panicked (chain (v.den I)) ∧ v.ok A I
abbrev Caller := FuncId → List SV → St → Option (SR × St)
/-- what a caller answers is so -/
def CallOk (P : Program) (call : Caller) : Prop := ∀ f args st r st', call f args st = some (r, st') → ∀ A I w, Ok P A I st w → okL A I args →
  Calls P f (denL I args).toArray w fun e w' => ∃ I', Mv P A I st w I' st' w' ∧ r.is (up A st.nx st'.nx) I' e
structure NameOk (P : Program) : Prop where
  name : ∀ (f : Nat) (fn : Func), P.funcs[f]? = some fn → fn.body.isSome = true → (fn.name == "runtime.NumGoroutine") = false
def bodyB (P : Program) (f : FuncId) : Bool := match P.funcs[f]? with
  | some fn => match fn.body with
    | some _ => true
    | none => false
  | none => false
theorem callFunc_enter {P : Program} (hn : NameOk P) {f : FuncId} (h : bodyB P f = true) (args : Array Value) (w : World) : (callFunc f args).run P w = .ok (.enter f args) w := by
  unfold bodyB at h
  split at h
  · rename_i fn hf
    split at h
    · rename_i c hc
      have := hn.name f fn hf (by rw [hc]; rfl)
      simp only [beq_eq_false_iff_ne, ne_eq] at this
      simp [callFunc, hf, this, hc]
    · cases h
  · cases h
/-- who is called, and with what -/
def targetS (fr : List SV) (c : Call) : Option (FuncId × List SV) :=
  match c.callee with
  | .value f => match opv fr f, mapO (opv fr) c.args.toList with
    | some (.func (.func k) fs cs), some args => some (k, fs ++ args ++ cs)
    | _, _ => none
  | _ => none
theorem targetS_run {P : Program} (hn : NameOk P) {A : Nat → Prop} {I : In} {fr : List SV} {a : Act} (hf : Fr A I fr a) {o : Oper} {c : Call} {k : FuncId} {args : List SV} (ho : o.op = .call c) (h : targetS fr c = some (k, args)) (hb : bodyB P k = true) (w : World) :
    (execOp a.eval o).run P w = .ok (.enter k (denL I args).toArray) w ∧ okL A I args := by
  unfold targetS at h
  split at h
  · rename_i f hc
    split at h
    · rename_i k' fs cs as h1 h2
      cases h
      have d1 := opv_den hf h1
      have d2 := opvL_den hf h2
      have e1 : c.args.map a.eval = (denL I as).toArray := by rw [← d2.1, ← Array.toList_map, Array.toArray_toList]
      refine ⟨?_, (d1.2.1.append d2.2).append d1.2.2⟩
      simp only [execOp, ho, resolve, hc, d1.1, SV.den, Deferred.ofValue, Sem.run_bind, Sem.run_pure, Result.andThen_ok, invoke, e1]
      have := callFunc_enter hn hb ((denL I fs).toArray ++ (denL I as).toArray ++ (denL I cs).toArray) w
      rw [this]
      simp [denL_append]
    · cases h
  · cases h
def evOp (P : Program) (call : Caller) (o : Oper) (fr : List SV) (st : St) : Option (OR × St) :=
  match o.op with
  | .panic x => match opv fr x with
    | some (.iface t v) => some (.pan (.iface t v), st)
    | _ => none
  | .call c => match targetS fr c with
    | some (k, args) => cond (bodyB P k) (match call k args st with
      | some (.ret v, st') => some (.val v, st')
      | some (.pan v, st') => some (.pan v, st')
      | none => none) none
    | none => match pu P o fr with
      | some v => some (.val v, st)
      | none => match hop P o fr st with
        | some (some v, st') => some (.val v, st')
        | some (none, st') => some (.skip, st')
        | none => none
  | _ => match pu P o fr with
    | some v => some (.val v, st)
    | none => match hop P o fr st with
      | some (some v, st') => some (.val v, st')
      | some (none, st') => some (.skip, st')
      | none => none
/-- what is so behind an operation -/
def OR.post (A : Nat → Prop) (I : In) (o : Oper) (a : Act) (K : Act → World → Prop) (Q : Exit → Act → World → Prop) (w : World) : OR → Prop
  | .val v => v.ok A I → K (a.put o.dst (v.den I)) w
  | .skip => K (a.put o.dst undef) w
  | .pan v => v.ok A I → Q (.panic (chain (v.den I))) a w
theorem evOp_run {P : Program} (hn : NameOk P) {call : Caller} (hc : CallOk P call) {A : Nat → Prop} {I : In} {st st' : St} {w : World} {fr : List SV} {a : Act} (hok : Ok P A I st w) (hf : Fr A I fr a) {o : Oper} {r : OR} (h : evOp P call o fr st = some (r, st'))
    {K : Act → World → Prop} {Q : Exit → Act → World → Prop} (hK : ∀ I' w', Mv P A I st w I' st' w' → r.post (up A st.nx st'.nx) I' o a K Q w') : o.wp P a w K Q := by
  have quiet : (match pu P o fr with
    | some v => some (OR.val v, st)
    | none => match hop P o fr st with
      | some (some v, st') => some (.val v, st')
      | some (none, st') => some (.skip, st')
      | none => none) = some (r, st') → o.wp P a w K Q := fun h => by
    split at h
    · rename_i v hv
      cases h
      have := pu_run (A := A) hok.val hf hv w
      unfold Oper.wp
      rw [this.1, Oper.upon_value]
      exact hK I w (Mv.refl hok) (ok_mono (fun i hi => .inl hi) v this.2)
    · split at h
      · rename_i v st1 hv
        cases h
        obtain ⟨I', w', hr, hm, hv'⟩ := hop_run hok hf hv
        unfold Oper.wp
        rw [hr]
        exact hK I' w' hm (hv' v rfl)
      · rename_i st1 hv
        cases h
        obtain ⟨I', w', hr, hm, hv'⟩ := hop_run hok hf hv
        unfold Oper.wp
        rw [hr]
        exact hK I' w' hm
      · cases h
  unfold evOp at h
  split at h
  · rename_i x ho
    split at h
    · rename_i t v hv
      cases h
      have := opv_den hf hv
      unfold Oper.wp
      have hr : (execOp a.eval o).run P w = .halt (.panic ((SV.iface t v).den I)) w := by simp [execOp, ho, this.1, SV.den, Instr.panic]
      rw [hr, Oper.upon_panic]
      exact hK I w (Mv.refl hok) (ok_mono (fun i hi => .inl hi) _ this.2)
    · cases h
  · rename_i c ho
    split at h
    · rename_i k args ht
      cases hb : bodyB P k
      · rw [hb] at h; cases h
      rw [hb] at h
      simp only [cond_true] at h
      have hr := targetS_run hn hf ho ht hb w
      unfold Oper.wp
      rw [hr.1, Oper.upon_enter]
      split at h
      · rename_i v st1 hv
        cases h
        refine (hc k args st _ _ hv A I w hok hr.2).mono ?_
        rintro e w' ⟨I', hm, rfl, hv'⟩
        exact hK I' w' hm hv'
      · rename_i v st1 hv
        cases h
        refine (hc k args st _ _ hv A I w hok hr.2).mono ?_
        rintro e w' ⟨I', hm, rfl, hv'⟩
        exact hK I' w' hm hv'
      · cases h
    · exact quiet h
  · exact quiet h
/-- is an operation to be done? -/
def wantS (ops : Array Oper) (o : Oper) (fr : List SV) : Option Bool :=
  match o.guard with
  | none => some true
  | some (j, want) => match (ops[j]?).bind (·.dst) with
    | none => some false
    | some d => match nth fr d with
      | .bool b => some (b == want)
      | .tup [] => some false
      | _ => none
theorem wantS_run {A : Nat → Prop} {I : In} {fr : List SV} {a : Act} (hf : Fr A I fr a) {ops : Array Oper} {o : Oper} {b : Bool} (h : wantS ops o fr = some b) : Region.wanted o (yielded ops a.tmps) = b := by
  unfold wantS at h
  unfold Region.wanted
  split at h
  · rename_i hg; cases h; rw [hg]
  · rename_i j want hg
    rw [hg]
    simp only
    unfold yielded
    split at h
    · rename_i hd
      cases h
      rw [hd]
      rfl
    · rename_i d hd
      rw [hd]
      have hnth := nth_get fr d
      simp only [Option.bind_some, hf.tmps, List.getElem?_toArray, denL_get]
      split at h
      · rename_i b' hb
        cases h
        rw [hb] at hnth
        cases hg : fr[d]? with
        | none => rw [hg] at hnth; cases hnth
        | some v =>
          rw [hg] at hnth
          simp only [Option.getD_some] at hnth
          subst hnth
          cases b' <;> cases want <;> rfl
      · rename_i hb
        cases h
        rw [hb] at hnth
        cases hg : fr[d]? with
        | none => rfl
        | some v =>
          rw [hg] at hnth
          simp only [Option.getD_some] at hnth
          subst hnth
          rfl
      · cases h
/-- how code ends -/
inductive SX where
  | nrm
  | exit (id : Nat)
  | goto (l : Nat)
  | ret
  | pan (v : SV)
def SX.is (A : Nat → Prop) (I : In) : SX → Exit → Prop
  | .nrm, e => e = .normal
  | .exit id, e => e = .exit id
  | .goto l, e => e = .goto l
  | .ret, e => e = .ret
  | .pan v, e => e = .panic (chain (v.den I)) ∧ v.ok A I
/-- what is so behind code -/
def Res (P : Program) (A : Nat → Prop) (I : In) (st : St) (w : World) (x : SX) (fr' : List SV) (st' : St) (e : Exit) (a' : Act) (w' : World) : Prop :=
  ∃ I', Mv P A I st w I' st' w' ∧ Fr (up A st.nx st'.nx) I' fr' a' ∧ x.is (up A st.nx st'.nx) I' e
theorem up_up {A : Nat → Prop} {n m k : Nat} (h1 : n ≤ m) (h2 : m ≤ k) : ∀ i, up (up A n m) m k i → up A n k i := fun i h => by
  rcases h with (h | h) | h
  · exact .inl h
  · exact .inr ⟨h.1, by omega⟩
  · exact .inr ⟨by omega, h.2⟩
theorem SX.is_mono {A B : Nat → Prop} {I : In} (h : ∀ i, A i → B i) : ∀ {x : SX} {e : Exit}, x.is A I e → x.is B I e
  | .nrm, e, hx => hx
  | .exit id, e, hx => hx
  | .goto l, e, hx => hx
  | .ret, e, hx => hx
  | .pan v, e, hx => ⟨hx.1, ok_mono h v hx.2⟩
theorem Res.trans {P : Program} {A : Nat → Prop} {I I1 : In} {st st1 : St} {w w1 : World} (hok : Ok P A I st w) (hm : Mv P A I st w I1 st1 w1) {x : SX} {fr' : List SV} {st' : St} {e : Exit} {a' : Act} {w' : World} (h : Res P (up A st.nx st1.nx) I1 st1 w1 x fr' st' e a' w') :
    Res P A I st w x fr' st' e a' w' := by
  obtain ⟨I', h1, h2, h3⟩ := h
  exact ⟨I', Mv.trans hok hm h1, h2.mono (up_up hm.nx h1.nx), SX.is_mono (up_up hm.nx h1.nx) h3⟩
theorem letsOut_mono {Q Q' : Exit → Act → World → Prop} (h : ∀ e a w, Q e a w → Q' e a w) : LetsOut Q → LetsOut Q' := fun ⟨a, w, hq⟩ => ⟨a, w, h _ _ _ hq⟩
theorem oper_mono {P : Program} {o : Oper} {a : Act} {w : World} {K K' : Act → World → Prop} {Q Q' : Exit → Act → World → Prop} (hK : ∀ a w, K a w → K' a w) (hQ : ∀ e a w, Q e a w → Q' e a w) (h : o.wp P a w K Q) : o.wp P a w K' Q' := by
  unfold Oper.wp at *
  generalize (execOp a.eval o).run P w = r at *
  cases r with
  | ok n w' =>
    cases n <;> simp only [Oper.upon] at h ⊢ <;>
      first
        | exact hK _ _ h
        | exact Calls.mono h (fun e w'' he => by cases e <;> first | exact hK _ _ he | exact hQ _ _ _ he | exact letsOut_mono hQ he)
        | exact Rows.mono h (fun _ _ he => hK _ _ he)
  | halt x w' => cases x <;> simp only [Oper.upon] at h ⊢ <;> exact hQ _ _ _ h
theorem wpList_mono {P : Program} {ops : Array Oper} {Q Q' : Exit → Act → World → Prop} (hQ : ∀ e a w, Q e a w → Q' e a w) : ∀ (l : List Oper) (a : Act) (w : World), wpList P ops Q l a w → wpList P ops Q' l a w
  | [], a, w, h => hQ _ _ _ h
  | o :: l, a, w, h => by
    unfold wpList at h ⊢
    split
    · rename_i hw
      rw [if_pos hw] at h
      exact h.imp (oper_mono (fun a w => wpList_mono hQ l a w) hQ) fun h => ⟨h.1, letsOut_mono hQ h.2⟩
    · rename_i hw
      rw [if_neg hw] at h
      exact wpList_mono hQ l _ _ h
/-- operations in the order of the text -/
def evL (P : Program) (call : Caller) (ops : Array Oper) : List Oper → List SV → St → Option (SX × List SV × St)
  | [], fr, st => some (.nrm, fr, st)
  | o :: l, fr, st => match wantS ops o fr with
    | some true => match evOp P call o fr st with
      | some (.val v, st') => evL P call ops l (putF fr o.dst v) st'
      | some (.skip, st') => evL P call ops l (putF fr o.dst (.tup [])) st'
      | some (.pan v, st') => some (.pan v, fr, st')
      | none => none
    | some false => evL P call ops l (putF fr o.dst (.tup [])) st
    | none => none
theorem evL_run {P : Program} (hn : NameOk P) {call : Caller} (hc : CallOk P call) {ops : Array Oper} : ∀ {l : List Oper} {fr : List SV} {st : St} {x : SX} {fr' : List SV} {st' : St}, evL P call ops l fr st = some (x, fr', st') →
    ∀ {A : Nat → Prop} {I : In} {w : World} {a : Act}, Ok P A I st w → Fr A I fr a → wpList P ops (Res P A I st w x fr' st') l a w
  | [], fr, st, x, fr', st', h, A, I, w, a, hok, hf => by
    cases h
    exact wpList_nil ⟨I, Mv.refl hok, hf.mono fun i hi => .inl hi, rfl⟩
  | o :: l, fr, st, x, fr', st', h, A, I, w, a, hok, hf => by
    unfold evL at h
    refine wpList_step fun K hK => ?_
    split at h
    · rename_i hw
      rw [if_pos (wantS_run hf hw)]
      have next : ∀ (v : SV) (st1 : St), evL P call ops l (putF fr o.dst v) st1 = some (x, fr', st') → ∀ I1 w1, Mv P A I st w I1 st1 w1 → v.ok (up A st.nx st1.nx) I1 → K (a.put o.dst (v.den I1)) w1 := fun v st1 he I1 w1 hm hv => by
        have hf1 := ((hf.agr (hm.agr hok)).mono (fun i hi => (Or.inl hi : up A st.nx st1.nx i))).put o.dst hv
        have ih := evL_run hn hc he hm.ok hf1
        refine hK _ _ ?_
        exact wpList_mono (fun e a' w' r => r.trans hok hm) _ _ _ ih
      split at h
      · rename_i v st1 he
        exact evOp_run hn hc hok hf he fun I1 w1 hm hv => next v st1 h I1 w1 hm hv
      · rename_i st1 he
        exact evOp_run hn hc hok hf he fun I1 w1 hm => next (.tup []) st1 h I1 w1 hm trivial
      · rename_i v st1 he
        cases h
        exact evOp_run hn hc hok hf he fun I1 w1 hm hv => ⟨I1, hm, (hf.agr (hm.agr hok)).mono fun i hi => .inl hi, rfl, hv⟩
      · cases h
    · rename_i hw
      rw [if_neg (by rw [wantS_run hf hw]; decide)]
      have hf1 := hf.put o.dst (v := .tup []) trivial
      exact hK _ _ (evL_run hn hc h hok hf1)
    · cases h
end Go.Ev
