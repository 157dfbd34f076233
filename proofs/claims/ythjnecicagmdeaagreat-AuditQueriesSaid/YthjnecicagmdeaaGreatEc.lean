/-
  The evaluator: operations that call, and regions in the order of the text. No program is named here. Condition: no function with a body is the one that counts goroutines.
-/
import Derived.Test.YthjnecicagmdeaaGreatEr
import Derived.RangeFuncIn
import Derived.RangeFuncLeaves
import Derived.RangeFuncRecord
import Derived.RangeFuncCalls
import Derived.OrdersIn
import Derived.TacticsIn
import Derived.LoopNIn
import Derived.Test.YthjnecicagmdeaaGreatMx
namespace Go.E2
open Go.RowKit Go.Al
set_option linter.unusedVariables false
set_option linter.unusedSimpArgs false
set_option linter.unusedSectionVars false
variable [Th] [Facts]

/-- how a call ends -/
inductive SR where
  | ret (v : SV)
  | pan (v : SV)
/-- how an operation ends -/
inductive OR where
  | val (v : SV)
  | skip
  | pan (v : SV)
def chain (v : Value) : List PanicEntry := [{ v := v, recovered := false }]
def SR.is (A : Nat → Prop) (I : In) : SR → Ending → Prop
  | .ret v, e => e = .returned (v.den I) ∧ v.ok A I
  | .pan v, e => e = .panicked (chain (v.den I)) ∧ v.ok A I
/-- who is called: a function, or a round of a loop -/
abbrev Who := FuncId ⊕ Nat
abbrev Caller := Who → List SV → St → Option (SR × St)
/-- no fence; the frame is a function's, or a round's -/
def fW (l : Option Nat) : Fence := { Fence.wide with round := l }
/-- what a caller answers is so -/
def CallOk (P : Program) (call : Caller) : Prop :=
  (∀ f args st r st', call (.inl f) args st = some (r, st') → ∀ A I w, Ok P A I st w → okL A I args →
    Calls P f (denL I args).toArray w fun e w' => ∃ I', Mv P A I st w I' st' w' ∧ r.is (up A st.nx st'.nx) I' e) ∧
  (∀ m args st r st', call (.inr m) args st = some (r, st') → ∀ A I w, Ok P A I st w → okL A I args → A m →
    ∃ f tmps assign body, (Instr.yield (I.adr m) (denL I args).toArray).run P w = .ok (.round (I.adr m) f tmps assign body) w ∧
      RoundIn (fW none) 0 P (I.adr m) f tmps assign body w fun e w' => ∃ I', Mv P A I st w I' st' w' ∧ r.is (up A st.nx st'.nx) I' e)
structure NameOk (P : Program) : Prop where
  name : ∀ (f : Nat) (fn : Func), P.funcs[f]? = some fn → fn.body.isSome = true → (fn.name == "runtime.NumGoroutine") = false
def bodyB (P : Program) (f : FuncId) : Bool := match P.funcs[f]? with
  | some fn => match fn.body with
    | some _ => true
    | none => false
  | none => false
theorem callFunc_enter {P : Program} (hn : NameOk P) {f : FuncId} (h : bodyB P f = true) (args : Array Value) (w : World) : (callFunc f args).run P w = .ok (.enter f args) w := by
  unfold bodyB at h
  split at h
  · rename_i fn hf
    split at h
    · rename_i c hc
      have := hn.name f fn hf (by rw [hc]; rfl)
      simp only [beq_eq_false_iff_ne, ne_eq] at this
      simp [callFunc, hf, this, hc]
    · cases h
  · cases h
/-- a pointer's own method -/
def mthS (P : Program) (t : TypeId) (name : String) : Option FuncId :=
  match P.info? t, P.underlying t with
  | some i, some (.pointer _) => match i.methods.toList.find? (fun m => m.name == name) with
    | some m => match m.path.toList, m.func with
      | [], some (f, true) => some f
      | _, _ => none
    | none => none
  | _, _ => none
theorem mthS_run {P : Program} {t : TypeId} {name : String} {f : FuncId} (h : mthS P t name = some f) (n : Nat) (v : Value) (w : World) : (method (n + 1) t v name).run P w = .ok (f, v) w := by
  unfold mthS at h
  split at h
  · rename_i i e hi hu
    split at h
    · rename_i m hm
      split at h
      · rename_i f' hp hf
        cases h
        rw [Array.find?_toList] at hm
        have hp' : m.path.toList = [] := hp
        simp [method, typeInfo, hi, hm, hp', follow, hf, receiverAt, run_underlying hu, Place.get]
      · cases h
    · cases h
  · cases h
/-- who is called, and with what -/
def targetS (P : Program) (fr : List SV) (c : Call) : Option (Who × List SV) :=
  match c.callee with
  | .value f => match opv fr f, mapO (opv fr) c.args.toList with
    | some (.func (.func k) fs cs), some args => some (.inl k, fs ++ args ++ cs)
    | some (.yld m), some args => some (.inr m, args)
    | _, _ => none
  | .invoke r name => match opv fr r, mapO (opv fr) c.args.toList with
    | some (.iface t v), some args => match mthS P t name with
      | some k => some (.inl k, v :: args)
      | none => none
    | _, _ => none
  | _ => none
def whoB (P : Program) : Who → Bool
  | .inl f => bodyB P f
  | .inr _ => true
def whoRun (P : Program) (A : Nat → Prop) (I : In) (k : Who) (args : List SV) (s : Sem Next) (w : World) : Prop := match k with
  | .inl f => s.run P w = .ok (.enter f (denL I args).toArray) w
  | .inr m => A m ∧ s.run P w = (Instr.yield (I.adr m) (denL I args).toArray).run P w
theorem targetS_run {P : Program} (hn : NameOk P) {A : Nat → Prop} {I : In} {fr : List SV} {a : Act} (hf : Fr A I fr a) {o : Oper} {c : Call} {k : Who} {args : List SV} (ho : o.op = .call c) (h : targetS P fr c = some (k, args)) (hb : whoB P k = true) (w : World) :
    whoRun P A I k args (execOp a.eval o) w ∧ okL A I args := by
  unfold targetS at h
  split at h
  · rename_i f hc
    split at h
    · rename_i k' fs cs as h1 h2
      cases h
      have d1 := opv_den hf h1
      have d2 := opvL_den hf h2
      have e1 : c.args.map a.eval = (denL I as).toArray := by rw [← d2.1, ← Array.toList_map, Array.toArray_toList]
      refine ⟨?_, (d1.2.1.append d2.2).append d1.2.2⟩
      simp only [whoRun, execOp, ho, resolve, hc, d1.1, SV.den, Deferred.ofValue, Sem.run_bind, Sem.run_pure, Result.andThen_ok, invoke, e1]
      have := callFunc_enter hn hb ((denL I fs).toArray ++ (denL I as).toArray ++ (denL I cs).toArray) w
      rw [this]
      simp [denL_append]
    · rename_i m as h1 h2
      cases h
      have d1 := opv_den hf h1
      have d2 := opvL_den hf h2
      have e1 : c.args.map a.eval = (denL I args).toArray := by rw [← d2.1, ← Array.toList_map, Array.toArray_toList]
      refine ⟨⟨d1.2, ?_⟩, d2.2⟩
      simp [execOp, ho, resolve, hc, d1.1, SV.den, Deferred.ofValue, invoke, e1]
    · cases h
  · rename_i r name hc
    split at h
    · rename_i t v as h1 h2
      split at h
      · rename_i k' hk
        cases h
        have d1 := opv_den hf h1
        have d2 := opvL_den hf h2
        have e1 : c.args.map a.eval = (denL I as).toArray := by rw [← d2.1, ← Array.toList_map, Array.toArray_toList]
        refine ⟨?_, d1.2, d2.2⟩
        have hm := mthS_run hk (P.types.size + (Made.depth - 1)) (v.den I) w
        have hd : P.types.size + Made.depth = P.types.size + (Made.depth - 1) + 1 := by
          have : 0 < Made.depth := by decide
          omega
        have hb : bodyB P k' = true := hb
        simp only [whoRun, execOp, ho, resolve, hc, d1.1, SV.den, Sem.run_bind, Sem.run_pure, Result.andThen_ok, invoke, e1]
        simp [callMethod, hd, hm, callFunc_enter hn hb, denL, List.take_of_length_le]
      · cases h
    · cases h
  · cases h
def evOp (P : Program) (call : Caller) (o : Oper) (fr : List SV) (st : St) : Option (OR × St) :=
  match o.op with
  | .panic x => match opv fr x with
    | some (.iface t v) => some (.pan (.iface t v), st)
    | _ => none
  | .call c => match targetS P fr c with
    | some (k, args) => cond (whoB P k) (match call k args st with
      | some (.ret v, st') => some (.val v, st')
      | some (.pan v, st') => some (.pan v, st')
      | none => none) none
    | none => match pu P o fr with
      | some v => some (.val v, st)
      | none => match hop P o fr st with
        | some (some v, st') => some (.val v, st')
        | some (none, st') => some (.skip, st')
        | none => none
  | _ => match pu P o fr with
    | some v => some (.val v, st)
    | none => match hop P o fr st with
      | some (some v, st') => some (.val v, st')
      | some (none, st') => some (.skip, st')
      | none => none
theorem evOp_defer {P : Program} {call : Caller} {o : Oper} {fr : List SV} {st : St} {r : OR × St} (h : evOp P call o fr st = some r) : ∀ c, o.op ≠ .defer c := by
  intro c ho
  unfold evOp pu hop hop0 hopR at h
  rw [ho] at h
  cases h
theorem semAt_plain {l : Option Nat} {o : Oper} (h : ∀ c, o.op ≠ .defer c) (ρ : Operand → Value) : Oper.semAt l ρ o = execOp ρ o := by
  cases l with
  | none => exact Oper.semAt_none ρ o
  | some l => exact Oper.semAt_some l ρ o h
/-- what is so behind an operation -/
def OR.post (A : Nat → Prop) (I : In) (o : Oper) (a : Act) (K : Act → World → Prop) (Q : Exit → Act → World → Prop) (w : World) : OR → Prop
  | .val v => v.ok A I → K (a.put o.dst (v.den I)) w
  | .skip => K (a.put o.dst undef) w
  | .pan v => v.ok A I → Q (.panic (chain (v.den I))) a w
theorem evOp_run {P : Program} (hn : NameOk P) {call : Caller} (hc : CallOk P call) {l : Option Nat} {A : Nat → Prop} {I : In} {st st' : St} {w : World} {fr : List SV} {a : Act} (hok : Ok P A I st w) (hf : Fr A I fr a) {o : Oper} {r : OR} (h : evOp P call o fr st = some (r, st'))
    {K : Act → World → Prop} {Q : Exit → Act → World → Prop} (hK : ∀ I' w', Mv P A I st w I' st' w' → r.post (up A st.nx st'.nx) I' o a K Q w') : o.wpIn (fW l) 0 P a w K Q := by
  refine ⟨fun _ _ => trivial, ?_⟩
  rw [show (fW l).round = l from rfl, semAt_plain (evOp_defer h)]
  have quiet : (match pu P o fr with
    | some v => some (OR.val v, st)
    | none => match hop P o fr st with
      | some (some v, st') => some (.val v, st')
      | some (none, st') => some (.skip, st')
      | none => none) = some (r, st') → o.uponIn (fW l) 0 P a K Q ((execOp a.eval o).run P w) := fun h => by
    split at h
    · rename_i v hv
      cases h
      have := pu_run (A := A) hok.val hf hv w
      rw [this.1, Oper.uponIn_value]
      exact hK I w (Mv.refl hok) (ok_mono (fun i hi => .inl hi) v this.2)
    · split at h
      · rename_i v st1 hv
        cases h
        obtain ⟨I', w', hr, hm, hv'⟩ := hop_run hok hf hv
        rw [hr]
        exact hK I' w' hm (hv' v rfl)
      · rename_i st1 hv
        cases h
        obtain ⟨I', w', hr, hm, hv'⟩ := hop_run hok hf hv
        rw [hr]
        exact hK I' w' hm
      · cases h
  unfold evOp at h
  split at h
  · rename_i x ho
    split at h
    · rename_i t v hv
      cases h
      have := opv_den hf hv
      have hr : (execOp a.eval o).run P w = .halt (.panic ((SV.iface t v).den I)) w := by simp [execOp, ho, this.1, SV.den, Instr.panic]
      rw [hr, Oper.uponIn_panic]
      exact hK I w (Mv.refl hok) (ok_mono (fun i hi => .inl hi) _ this.2)
    · cases h
  · rename_i c ho
    split at h
    · rename_i k args ht
      cases hb : whoB P k
      · rw [hb] at h; cases h
      rw [hb] at h
      simp only [cond_true] at h
      have hr := targetS_run hn hf ho ht hb w
      have back : ∀ R : Ending → World → Prop, (∀ e w', (∃ (r1 : SR) (st1 : St), call k args st = some (r1, st1) ∧ ∃ I', Mv P A I st w I' st1 w' ∧ r1.is (up A st.nx st1.nx) I' e) → R e w') → ∀ (r1 : SR) (st1 : St), call k args st = some (r1, st1) → ∀ e w', (∃ I', Mv P A I st w I' st1 w' ∧ r1.is (up A st.nx st1.nx) I' e) → R e w' :=
        fun R hR r1 st1 h1 e w' h2 => hR e w' ⟨r1, st1, h1, h2⟩
      have fin : ∀ e w', (∃ (r1 : SR) (st1 : St), call k args st = some (r1, st1) ∧ ∃ I', Mv P A I st w I' st1 w' ∧ r1.is (up A st.nx st1.nx) I' e) → (match e with
          | .returned v => K (a.put o.dst v) w'
          | .panicked chain => Q (.panic chain) a w'
          | .outgrown => LetsOut Q) := fun e w' ⟨r1, st1, h1, I', hm, hr1⟩ => by
        rw [h1] at h
        cases r1 with
        | ret v => cases h; obtain ⟨rfl, hv⟩ := hr1; exact hK I' w' hm hv
        | pan v => cases h; obtain ⟨rfl, hv⟩ := hr1; exact hK I' w' hm hv
      have some1 : ∃ r1 st1, call k args st = some (r1, st1) := by
        split at h
        · exact ⟨_, _, by assumption⟩
        · exact ⟨_, _, by assumption⟩
        · cases h
      obtain ⟨r1, st1, h1⟩ := some1
      cases k with
      | inl f =>
        have hr0 : (execOp a.eval o).run P w = .ok (.enter f (denL I args).toArray) w := hr.1
        rw [hr0, Oper.uponIn_enter]
        refine ⟨fun h => (by cases h), ?_⟩
        have := (callsIn_wide (n := 0)).2 (hc.1 f args st _ _ h1 A I w hok hr.2)
        exact CallsIn.mono (show CallsIn (fW l) 0 P f _ w _ from this) fun e w' h2 => by
          have := fin e w' ⟨r1, st1, h1, h2⟩
          cases e <;> exact this
      | inr m =>
        obtain ⟨⟨hA, hr0⟩, hargs⟩ := hr
        obtain ⟨f, tmps, assign, body, h3, h4⟩ := hc.2 m args st _ _ h1 A I w hok hargs hA
        rw [hr0, h3, Oper.uponIn_round]
        refine ⟨fun h => (by cases h), ?_⟩
        exact RoundIn.mono (show RoundIn (fW l) 0 P (I.adr m) f tmps assign body w _ from h4) fun e w' h2 => by
          have := fin e w' ⟨r1, st1, h1, h2⟩
          cases e <;> exact this
    · exact quiet h
  · exact quiet h
/-- is an operation to be done? -/
def wantS (ops : Array Oper) (o : Oper) (fr : List SV) : Option Bool :=
  match o.guard with
  | none => some true
  | some (j, want) => match (ops[j]?).bind (·.dst) with
    | none => some false
    | some d => match decS (nth fr d) with
      | some b => some (b == want)
      | none => match nth fr d with
        | .tup [] => some false
        | _ => none
theorem wantS_run {P : Program} {A : Nat → Prop} {I : In} {fr : List SV} {a : Act} (hv : ValOk P I.val) (hf : Fr A I fr a) {ops : Array Oper} {o : Oper} {b : Bool} (h : wantS ops o fr = some b) : Region.wanted o (yielded ops a.tmps) = b := by
  unfold wantS at h
  unfold Region.wanted
  split at h
  · rename_i hg; cases h; rw [hg]
  · rename_i j want hg
    rw [hg]
    simp only
    unfold yielded
    split at h
    · rename_i hd
      cases h
      rw [hd]
      rfl
    · rename_i d hd
      rw [hd]
      have hnth := nth_get fr d
      simp only [Option.bind_some, hf.tmps, List.getElem?_toArray, denL_get]
      split at h
      · rename_i b' hb
        cases h
        cases hg : fr[d]? with
        | none =>
          rw [hg] at hnth
          rw [hnth] at hb
          cases hb
        | some v =>
          rw [hg] at hnth
          simp only [Option.getD_some] at hnth
          rw [hnth] at hb
          simp only [Option.map_some, decS_den hv hb]
          cases b' <;> cases want <;> rfl
      · split at h
        · rename_i hb
          cases h
          rw [hb] at hnth
          cases hg : fr[d]? with
          | none => rfl
          | some v =>
            rw [hg] at hnth
            simp only [Option.getD_some] at hnth
            subst hnth
            rfl
        · cases h
/-- how code ends -/
inductive SX where
  | nrm
  | exit (id : Nat)
  | goto (l : Nat)
  | ret
  | pan (v : SV)
def SX.is (A : Nat → Prop) (I : In) : SX → Exit → Prop
  | .nrm, e => e = .normal
  | .exit id, e => e = .exit id
  | .goto l, e => e = .goto l
  | .ret, e => e = .ret
  | .pan v, e => e = .panic (chain (v.den I)) ∧ v.ok A I
/-- marks of loops over functions: their blocks are nobody's, and shut in time -/
structure MkOk (lo : Nat) (I : In) (st : St) (w : World) (D : List Deferred) : Prop where
  all : ∀ d ∈ D, ∃ r, d = { target := .collected r, args := #[] } ∧ lo ≤ r ∧ w.heap[r]? = some (.deferred (some [])) ∧ ∀ id, look st.H id ≠ none → ¬ (I.esl id).fp r
  nd : D.Nodup
theorem MkOk.nil (lo : Nat) (I : In) (st : St) (w : World) : MkOk lo I st w [] := ⟨fun d hd => (by cases hd), List.nodup_nil⟩
theorem MkOk.mv {P : Program} {A : Nat → Prop} {I I' : In} {st st' : St} {w w' : World} {lo : Nat} {D : List Deferred} (h : MkOk lo I st w D) (hok : Ok P A I st w) (hm : Mv P A I st w I' st' w') : MkOk lo I' st' w' D where
  nd := h.nd
  all := fun d hd => by
    obtain ⟨r, h1, h2, h3, h4⟩ := h.all d hd
    have hlt := (Array.getElem?_eq_some_iff.1 h3).1
    refine ⟨r, h1, h2, ?_, fun id hl hb => ?_⟩
    · rw [hm.chg.block r hlt fun ⟨id, hid, he⟩ => h4 id hid he]
      exact h3
    · rcases Nat.lt_or_ge id st.nx with hi | hi
      · rw [(hm.ext id (.inl hi)).2.2] at hb
        exact h4 id (fun h0 => hl (hm.dead id hi h0)) hb
      · rcases hm.new id hi hl r hb with h5 | ⟨k, h5, _, h6⟩
        · omega
        · exact h4 k h5 h6
theorem MkOk.app {lo : Nat} {I : In} {st : St} {w w1 : World} {I1 : In} {st1 : St} {D D' : List Deferred} (h : MkOk lo I st w D) (h1 : MkOk lo I1 st1 w1 D) (hlo : lo ≤ w1.heap.size) (h' : MkOk w1.heap.size I st w D') : MkOk lo I st w (D' ++ D) where
  all := fun d hd => by
    rcases List.mem_append.1 hd with hd | hd
    · obtain ⟨r, a, b, c, e⟩ := h'.all d hd
      exact ⟨r, a, by omega, c, e⟩
    · exact h.all d hd
  nd := List.nodup_append.2 ⟨h'.nd, h.nd, fun d hd d' hd' he => by
    obtain ⟨r, a, b, _, _⟩ := h'.all d hd
    obtain ⟨r', a', _, c', _⟩ := h1.all d' hd'
    have := (Array.getElem?_eq_some_iff.1 c').1
    rw [a, a'] at he
    injection he with he _
    injection he with he
    omega⟩
/-- what is so behind code -/
def Res (P : Program) (A : Nat → Prop) (I : In) (st : St) (w : World) (D : List Deferred) (x : SX) (fr' : List SV) (st' : St) (e : Exit) (a' : Act) (w' : World) : Prop :=
  ∃ I', Mv P A I st w I' st' w' ∧ Fr (up A st.nx st'.nx) I' fr' a' ∧ x.is (up A st.nx st'.nx) I' e ∧ ∃ D', a'.defers = D' ++ D ∧ MkOk w.heap.size I' st' w' D'
theorem up_up {A : Nat → Prop} {n m k : Nat} (h1 : n ≤ m) (h2 : m ≤ k) : ∀ i, up (up A n m) m k i → up A n k i := fun i h => by
  rcases h with (h | h) | h
  · exact .inl h
  · exact .inr ⟨h.1, by omega⟩
  · exact .inr ⟨by omega, h.2⟩
theorem SX.is_mono {A B : Nat → Prop} {I : In} (h : ∀ i, A i → B i) : ∀ {x : SX} {e : Exit}, x.is A I e → x.is B I e
  | .nrm, e, hx => hx
  | .exit id, e, hx => hx
  | .goto l, e, hx => hx
  | .ret, e, hx => hx
  | .pan v, e, hx => ⟨hx.1, ok_mono h v hx.2⟩
/-- the same, no loop over functions having been begun -/
def Res0 (P : Program) (A : Nat → Prop) (I : In) (st : St) (w : World) (D : List Deferred) (x : SX) (fr' : List SV) (st' : St) (e : Exit) (a' : Act) (w' : World) : Prop :=
  ∃ I', Mv P A I st w I' st' w' ∧ Fr (up A st.nx st'.nx) I' fr' a' ∧ x.is (up A st.nx st'.nx) I' e ∧ a'.defers = D
theorem Res0.to {P : Program} {A : Nat → Prop} {I : In} {st : St} {w : World} {D : List Deferred} {x : SX} {fr' : List SV} {st' : St} {e : Exit} {a' : Act} {w' : World} (h : Res0 P A I st w D x fr' st' e a' w') : Res P A I st w D x fr' st' e a' w' := by
  obtain ⟨I', h1, h2, h3, h4⟩ := h
  exact ⟨I', h1, h2, h3, [], h4, MkOk.nil _ _ _ _⟩
theorem Res0.trans {P : Program} {A : Nat → Prop} {I I1 : In} {st st1 : St} {w w1 : World} (hok : Ok P A I st w) (hm : Mv P A I st w I1 st1 w1) {D : List Deferred} {x : SX} {fr' : List SV} {st' : St} {e : Exit} {a' : Act} {w' : World} (h : Res0 P (up A st.nx st1.nx) I1 st1 w1 D x fr' st' e a' w') :
    Res0 P A I st w D x fr' st' e a' w' := by
  obtain ⟨I', h1, h2, h3, h4⟩ := h
  exact ⟨I', Mv.trans hok hm h1, h2.mono (up_up hm.nx h1.nx), SX.is_mono (up_up hm.nx h1.nx) h3, h4⟩
theorem Res.trans {P : Program} {A : Nat → Prop} {I I1 : In} {st st1 : St} {w w1 : World} (hok : Ok P A I st w) (hm : Mv P A I st w I1 st1 w1) {D D1 : List Deferred} (hD : MkOk w.heap.size I1 st1 w1 D1) {x : SX} {fr' : List SV} {st' : St} {e : Exit} {a' : Act} {w' : World} (h : Res P (up A st.nx st1.nx) I1 st1 w1 (D1 ++ D) x fr' st' e a' w') :
    Res P A I st w D x fr' st' e a' w' := by
  obtain ⟨I', h1, h2, h3, D', h4, h5⟩ := h
  exact ⟨I', Mv.trans hok hm h1, h2.mono (up_up hm.nx h1.nx), SX.is_mono (up_up hm.nx h1.nx) h3, D' ++ D1, by rw [h4, List.append_assoc], (hD.mv hm.ok h1).app hD hm.chg.size h5⟩
theorem Res.trans0 {P : Program} {A : Nat → Prop} {I I1 : In} {st st1 : St} {w w1 : World} (hok : Ok P A I st w) (hm : Mv P A I st w I1 st1 w1) {D : List Deferred} {x : SX} {fr' : List SV} {st' : St} {e : Exit} {a' : Act} {w' : World} (h : Res P (up A st.nx st1.nx) I1 st1 w1 D x fr' st' e a' w') :
    Res P A I st w D x fr' st' e a' w' := Res.trans hok hm (D1 := []) (MkOk.nil _ _ _ _) h
theorem put_defers (a : Act) (d : Option Tmp) (v : Value) : (a.put d v).defers = a.defers := by cases d <;> rfl
theorem letsOut_mono {Q Q' : Exit → Act → World → Prop} (h : ∀ e a w, Q e a w → Q' e a w) : LetsOut Q → LetsOut Q' := fun ⟨a, w, hq⟩ => ⟨a, w, h _ _ _ hq⟩
theorem oper_mono {P : Program} {l : Option Nat} {o : Oper} {a : Act} {w : World} {K K' : Act → World → Prop} {Q Q' : Exit → Act → World → Prop} (hK : ∀ a w, K a w → K' a w) (hQ : ∀ e a w, Q e a w → Q' e a w) (h : o.wpIn (fW l) 0 P a w K Q) : o.wpIn (fW l) 0 P a w K' Q' := by
  refine ⟨h.1, ?_⟩
  have h := h.2
  generalize (o.semAt (fW l).round a.eval).run P w = r at *
  cases r with
  | ok n w' =>
    cases n <;> simp only [Oper.uponIn] at h ⊢ <;>
      first
        | exact hK _ _ h
        | exact ⟨h.1, CallsIn.mono h.2 (fun e w'' he => by cases e <;> first | exact hK _ _ he | exact hQ _ _ _ he | exact letsOut_mono hQ he)⟩
        | exact ⟨h.1, RowsIn.mono h.2 (fun _ _ he => hK _ _ he)⟩
        | exact ⟨h.1, RoundIn.mono h.2 (fun e w'' he => by cases e <;> first | exact hK _ _ he | exact hQ _ _ _ he | exact letsOut_mono hQ he)⟩
  | halt x w' => cases x <;> simp only [Oper.uponIn] at h ⊢ <;> exact hQ _ _ _ h
theorem wpList_mono {P : Program} {l : Option Nat} {ops : Array Oper} {Q Q' : Exit → Act → World → Prop} (hQ : ∀ e a w, Q e a w → Q' e a w) : ∀ (m : List Oper) (a : Act) (w : World), wpListIn (fW l) 0 P ops Q m a w → wpListIn (fW l) 0 P ops Q' m a w
  | [], a, w, h => hQ _ _ _ h
  | o :: m, a, w, h => by
    unfold wpListIn at h ⊢
    split
    · rename_i hw
      rw [if_pos hw] at h
      exact oper_mono (fun a w => wpList_mono hQ m a w) hQ h
    · rename_i hw
      rw [if_neg hw] at h
      exact ⟨h.1, wpList_mono hQ m _ _ h.2⟩
/-- operations in the order of the text -/
def evL (P : Program) (call : Caller) (ops : Array Oper) : List Oper → List SV → St → Option (SX × List SV × St)
  | [], fr, st => some (.nrm, fr, st)
  | o :: l, fr, st => match wantS ops o fr with
    | some true => match evOp P call o fr st with
      | some (.val v, st') => evL P call ops l (putF fr o.dst v) st'
      | some (.skip, st') => evL P call ops l (putF fr o.dst (.tup [])) st'
      | some (.pan v, st') => some (.pan v, fr, st')
      | none => none
    | some false => evL P call ops l (putF fr o.dst (.tup [])) st
    | none => none
theorem evL_run {P : Program} (hn : NameOk P) {call : Caller} (hc : CallOk P call) {rl : Option Nat} {ops : Array Oper} : ∀ {l : List Oper} {fr : List SV} {st : St} {x : SX} {fr' : List SV} {st' : St}, evL P call ops l fr st = some (x, fr', st') →
    ∀ {A : Nat → Prop} {I : In} {w : World} {a : Act}, Ok P A I st w → Fr A I fr a → wpListIn (fW rl) 0 P ops (Res0 P A I st w a.defers x fr' st') l a w
  | [], fr, st, x, fr', st', h, A, I, w, a, hok, hf => by
    cases h
    exact wpListIn_nil ⟨I, Mv.refl hok, hf.mono fun i hi => .inl hi, rfl, rfl⟩
  | o :: l, fr, st, x, fr', st', h, A, I, w, a, hok, hf => by
    unfold evL at h
    refine wpListIn_step fun K hK => ?_
    split at h
    · rename_i hw
      rw [if_pos (wantS_run hok.val hf hw)]
      have next : ∀ (v : SV) (st1 : St), evL P call ops l (putF fr o.dst v) st1 = some (x, fr', st') → ∀ I1 w1, Mv P A I st w I1 st1 w1 → v.ok (up A st.nx st1.nx) I1 → K (a.put o.dst (v.den I1)) w1 := fun v st1 he I1 w1 hm hv => by
        have hf1 := ((hf.agr (hm.agr hok)).mono (fun i hi => (Or.inl hi : up A st.nx st1.nx i))).put o.dst hv
        have ih := evL_run hn hc (rl := rl) he hm.ok hf1
        refine hK _ _ ?_
        refine wpList_mono (fun e a' w' r => ?_) _ _ _ ih
        rw [put_defers] at r
        exact r.trans hok hm
      split at h
      · rename_i v st1 he
        exact evOp_run hn hc hok hf he fun I1 w1 hm hv => next v st1 h I1 w1 hm hv
      · rename_i st1 he
        exact evOp_run hn hc hok hf he fun I1 w1 hm => next (.tup []) st1 h I1 w1 hm trivial
      · rename_i v st1 he
        cases h
        exact evOp_run hn hc hok hf he fun I1 w1 hm hv => ⟨I1, hm, (hf.agr (hm.agr hok)).mono fun i hi => .inl hi, ⟨rfl, hv⟩, rfl⟩
      · cases h
    · rename_i hw
      rw [if_neg (by rw [wantS_run hok.val hf hw]; decide)]
      have hf1 := hf.put o.dst (v := .tup []) trivial
      refine ⟨fun _ _ => trivial, hK _ _ ?_⟩
      have := evL_run hn hc (rl := rl) h hok hf1
      rw [put_defers] at this
      exact this
    · cases h
end Go.E2
/-
  The evaluator: what the operations of a region that draws its order leave together, whichever of them are done. No program is named here. No conditions.
-/
namespace Go.E2
open Go.RowKit Go.Al
set_option linter.unusedVariables false
set_option linter.unusedSimpArgs false
set_option linter.unusedSectionVars false
variable [Th] [Facts]

/-- what one operation (its number) leaves: a value in a slot, blocks written, blocks of its own (names a to b), the memory behind it -/
structure RR where
  i : Nat
  ds : Option Tmp
  v : SV
  W : List Nat
  a : Nat
  b : Nat
  H : List (Nat × SO)
def memN (x : Nat) : List Nat → Bool
  | [] => false
  | y :: l => cond (Nat.beq y x) true (memN x l)
theorem memN_iff {x : Nat} : ∀ {l : List Nat}, memN x l = true ↔ x ∈ l
  | [] => by simp [memN]
  | y :: l => by
    unfold memN
    rw [beq_cond, List.mem_cons]
    split
    · rename_i h; simp [h]
    · rename_i h; rw [memN_iff]; exact ⟨.inr, fun h2 => h2.resolve_left (Ne.symm h)⟩
def RR.dom (r : RR) (id : Nat) : Bool := memN id r.W || (Nat.ble r.a id && Nat.blt id r.b)
theorem RR.dom_iff {r : RR} {id : Nat} : r.dom id = true ↔ id ∈ r.W ∨ (r.a ≤ id ∧ id < r.b) := by
  simp [RR.dom, memN_iff, Nat.blt, Nat.succ_le_iff]
def setH (H src : List (Nat × SO)) (id : Nat) : List (Nat × SO) := match look src id with
  | some so => ins H id so
  | none => del H id
theorem look_setH (H src : List (Nat × SO)) (id k : Nat) : look (setH H src id) k = if id = k then look src k else look H k := by
  unfold setH
  split
  · rename_i so h
    rw [look_ins]
    split
    · rename_i e; subst e; exact h.symm
    · rfl
  · rename_i h
    rw [look_del]
    split
    · rename_i e; subst e; exact h.symm
    · rfl
def setHs (src : List (Nat × SO)) : List Nat → List (Nat × SO) → List (Nat × SO)
  | [], H => H
  | id :: l, H => setHs src l (setH H src id)
theorem look_setHs (src : List (Nat × SO)) (k : Nat) : ∀ (l : List Nat) (H : List (Nat × SO)), look (setHs src l H) k = if k ∈ l then look src k else look H k
  | [], H => by simp [setHs]
  | id :: l, H => by
    rw [setHs, look_setHs src k l, look_setH]
    by_cases h1 : k ∈ l
    · simp [h1]
    · by_cases h2 : id = k
      · simp [h1, h2]
      · simp [h1, h2, Ne.symm h2]
/-- names from a, n of them -/
def fromN : Nat → Nat → List Nat
  | _, 0 => []
  | a, n + 1 => a :: fromN (a + 1) n
theorem mem_fromN {x : Nat} : ∀ {n a : Nat}, x ∈ fromN a n ↔ a ≤ x ∧ x < a + n
  | 0, a => by simp [fromN]
  | n + 1, a => by rw [fromN, List.mem_cons, mem_fromN]; omega
def applyR (H : List (Nat × SO)) (r : RR) : List (Nat × SO) := setHs r.H r.W (setHs r.H (fromN r.a (r.b - r.a)) H)
theorem look_applyR (H : List (Nat × SO)) (r : RR) (k : Nat) : look (applyR H r) k = if r.dom k = true then look r.H k else look H k := by
  unfold applyR
  rw [look_setHs, look_setHs]
  have e : r.dom k = true ↔ (k ∈ r.W ∨ k ∈ fromN r.a (r.b - r.a)) := by
    rw [RR.dom_iff, mem_fromN]
    constructor
    · rintro (h | h)
      · exact .inl h
      · exact .inr ⟨h.1, by omega⟩
    · rintro (h | h)
      · exact .inl h
      · exact .inr ⟨h.1, by omega⟩
  by_cases h1 : k ∈ r.W <;> by_cases h2 : k ∈ fromN r.a (r.b - r.a) <;> simp [h1, h2, e]
/-- the memory behind those operations of which L is true; the last one stands first -/
def mergeH (L : Nat → Bool) (H : List (Nat × SO)) : List RR → List (Nat × SO)
  | [] => H
  | r :: rs => cond (L r.i) (applyR (mergeH L H rs) r) (mergeH L H rs)
def mergeF (L : Nat → Bool) (fr : List SV) : List RR → List SV
  | [] => fr
  | r :: rs => cond (L r.i) (putF (mergeF L fr rs) r.ds r.v) (mergeF L fr rs)
/-- numbers that fall -/
def Falls (rs : List RR) : Prop := rs.Pairwise fun r r' => r'.i < r.i
section
variable {L L' : Nat → Bool} {H : List (Nat × SO)} {fr : List SV}
theorem mergeH_congr {id : Nat} : ∀ {rs : List RR}, (∀ r ∈ rs, L r.i ≠ L' r.i → r.dom id = false) → look (mergeH L H rs) id = look (mergeH L' H rs) id
  | [], _ => rfl
  | r :: rs, hd => by
    unfold mergeH
    have ih := mergeH_congr (rs := rs) fun r' hr => hd r' (List.mem_cons_of_mem _ hr)
    have h0 := hd r (List.mem_cons_self ..)
    cases e1 : L r.i <;> cases e2 : L' r.i
    · exact ih
    · rw [cond_false, cond_true, look_applyR, h0 (by rw [e1, e2]; decide), if_neg (by decide)]
      exact ih
    · rw [cond_false, cond_true, look_applyR, h0 (by rw [e1, e2]; decide), if_neg (by decide)]
      exact ih
    · rw [cond_true, cond_true, look_applyR, look_applyR, ih]
theorem mergeH_src {id : Nat} {so : SO} : ∀ {rs : List RR}, look (mergeH L H rs) id = some so → (∃ r ∈ rs, L r.i = true ∧ r.dom id = true ∧ look r.H id = some so) ∨ look H id = some so
  | [], h => .inr h
  | r :: rs, h => by
    unfold mergeH at h
    have more : look (mergeH L H rs) id = some so → (∃ r' ∈ r :: rs, L r'.i = true ∧ r'.dom id = true ∧ look r'.H id = some so) ∨ look H id = some so := fun h => by
      rcases mergeH_src h with ⟨r', h1, h2⟩ | h1
      · exact .inl ⟨r', List.mem_cons_of_mem _ h1, h2⟩
      · exact .inr h1
    cases e : L r.i
    · rw [e] at h; exact more h
    · rw [e, cond_true, look_applyR] at h
      split at h
      · rename_i hd; exact .inl ⟨r, List.mem_cons_self .., e, hd, h⟩
      · exact more h
theorem mergeH_at {id : Nat} {r : RR} : ∀ {rs : List RR}, Falls rs → r ∈ rs → L r.i = true → r.dom id = true → (∀ r' ∈ rs, r.i < r'.i → L r'.i = true → r'.dom id = false) → look (mergeH L H rs) id = look r.H id
  | [], _, h1, _, _, _ => by cases h1
  | r0 :: rs, hf, h1, h2, h3, h4 => by
    unfold mergeH
    rcases List.mem_cons.1 h1 with rfl | h1
    · rw [h2, cond_true, look_applyR, if_pos h3]
    · have hlt : r.i < r0.i := (List.pairwise_cons.1 hf).1 r h1
      have ih := mergeH_at (List.pairwise_cons.1 hf).2 h1 h2 h3 fun r' hr => h4 r' (List.mem_cons_of_mem _ hr)
      cases e : L r0.i
      · exact ih
      · rw [cond_true, look_applyR, h4 r0 (List.mem_cons_self ..) hlt e, if_neg (by decide)]
        exact ih
theorem putF_length (fr : List SV) (d : Option Tmp) (v : SV) : (putF fr d v).length = fr.length := by cases d <;> simp [putF]
theorem putF_get_ne {fr : List SV} {d : Option Tmp} {v : SV} {t : Nat} (h : d ≠ some t) : (putF fr d v)[t]? = fr[t]? := by
  cases d with
  | none => rfl
  | some d => exact List.getElem?_set_ne fun e => h (by rw [e])
theorem putF_congr {fr fr' : List SV} (d : Option Tmp) (v : SV) {t : Nat} (hl : fr.length = fr'.length) (h : fr[t]? = fr'[t]?) : (putF fr d v)[t]? = (putF fr' d v)[t]? := by
  cases d with
  | none => exact h
  | some d =>
    simp only [putF, List.getElem?_set, hl]
    split
    · rfl
    · exact h
theorem mergeF_length : ∀ (rs : List RR), (mergeF L fr rs).length = fr.length
  | [] => rfl
  | r :: rs => by
    unfold mergeF
    cases L r.i
    · exact mergeF_length rs
    · rw [cond_true, putF_length]; exact mergeF_length rs
theorem mergeF_congr {t : Nat} : ∀ {rs : List RR}, (∀ r ∈ rs, L r.i ≠ L' r.i → r.ds ≠ some t) → (mergeF L fr rs)[t]? = (mergeF L' fr rs)[t]?
  | [], _ => rfl
  | r :: rs, hd => by
    unfold mergeF
    have h0 := hd r (List.mem_cons_self ..)
    have ih := mergeF_congr (rs := rs) fun r' hr => hd r' (List.mem_cons_of_mem _ hr)
    cases e1 : L r.i <;> cases e2 : L' r.i
    · exact ih
    · rw [cond_false, cond_true, putF_get_ne (h0 (by rw [e1, e2]; decide))]
      exact ih
    · rw [cond_false, cond_true, putF_get_ne (h0 (by rw [e1, e2]; decide))]
      exact ih
    · exact putF_congr _ _ (by rw [mergeF_length, mergeF_length]) ih
theorem mergeF_mem {A : Nat → Prop} {I : In} (h : okL A I fr) : ∀ {rs : List RR}, (∀ r ∈ rs, L r.i = true → r.v.ok A I) → okL A I (mergeF L fr rs)
  | [], _ => h
  | r :: rs, hv => by
    unfold mergeF
    have ih := mergeF_mem h (rs := rs) fun r' hr => hv r' (List.mem_cons_of_mem _ hr)
    cases e : L r.i
    · exact ih
    · rw [cond_true]
      cases hd : r.ds with
      | none => exact ih
      | some d => exact ih.set d (hv r (List.mem_cons_self ..) e)
theorem putF_comm (fr : List SV) {d d' : Option Tmp} (v v' : SV) (h : d' ≠ none → d ≠ d') : putF (putF fr d v) d' v' = putF (putF fr d' v') d v := by
  cases d with
  | none => rfl
  | some d =>
    cases d' with
    | none => rfl
    | some d' => exact List.set_comm v v' fun e => h (by simp) (by rw [e])
theorem mergeF_same : ∀ {rs : List RR}, (∀ r ∈ rs, L r.i = L' r.i) → mergeF L fr rs = mergeF L' fr rs
  | [], _ => rfl
  | r :: rs, h => by
    unfold mergeF
    rw [mergeF_same fun r' hr => h r' (List.mem_cons_of_mem _ hr), h r (List.mem_cons_self ..)]
/-- one more -/
theorem mergeF_more {r : RR} : ∀ {rs : List RR}, Falls rs → r ∈ rs → L r.i = false → (∀ r' ∈ rs, r'.i ≠ r.i → r.ds ≠ none → r'.ds ≠ r.ds) →
    mergeF (fun k => L k || Nat.beq k r.i) fr rs = putF (mergeF L fr rs) r.ds r.v
  | [], _, h1, _, _ => by cases h1
  | r0 :: rs, hf, h1, h2, h3 => by
    have hp := List.pairwise_cons.1 hf
    unfold mergeF
    rcases List.mem_cons.1 h1 with rfl | h1
    · rw [beq_t rfl, Bool.or_true, cond_true, h2, cond_false]
      rw [mergeF_same (L' := L) fun r' hr => by
        have := hp.1 r' hr
        rw [beq_f (by omega), Bool.or_false]]
    · have hlt : r.i < r0.i := hp.1 r h1
      rw [beq_f (show ¬ r0.i = r.i by omega), Bool.or_false]
      have ih := mergeF_more hp.2 h1 h2 fun r' hr => h3 r' (List.mem_cons_of_mem _ hr)
      rw [ih]
      cases e : L r0.i
      · rfl
      · rw [cond_true, cond_true, putF_comm]
        intro hd e2
        exact h3 r0 (List.mem_cons_self ..) (by omega) (by rw [e2]; exact hd) e2.symm
end
end Go.E2
/-
  The evaluator: every order of a region, by what holds whichever operations are done; who waits for whom. No program is named here. No conditions.
-/
namespace Go.E2
open Go.RowKit Go.Al
set_option linter.unusedVariables false
set_option linter.unusedSimpArgs false
set_option linter.unusedSectionVars false
variable [Th] [Facts]

/-- an operation at a frame that agrees with another -/
theorem wpI_agr {P : Program} {l : Option Nat} {ops : Array Oper} {o : Oper} (hs : ∀ cs b, o.op ≠ .select cs b) (hd : ∀ c, o.op ≠ .defer c) {a A : Act} (h : Agr (o.looksAt ops) a A) {w : World} {val : Value → Value} {G : Value → World → Prop} {K : Act → World → Prop} {Q : Exit → Act → World → Prop}
    (hw : o.wpIn (fW l) 0 P A w (fun a' w' => ∃ u, a' = A.put o.dst (val u) ∧ G u w') (fun _ _ _ => False)) (hK : ∀ u w', G u w' → K (a.put o.dst (val u)) w') : o.wpIn (fW l) 0 P a w K Q := by
  refine ⟨fun _ _ => trivial, ?_⟩
  have hw := hw.2
  rw [semAt_plain hd] at hw ⊢
  rw [agr_exec hs h]
  generalize (execOp A.eval o).run P w = r at *
  have fin : ∀ v w', (∃ u, A.put o.dst v = A.put o.dst (val u) ∧ G u w') → K (a.put o.dst v) w' := fun v w' ⟨u, e, h1⟩ => by
    rw [put_eq h.size e]
    exact hK u w' h1
  cases r with
  | ok n w' =>
    cases n <;> simp only [Oper.uponIn] at hw ⊢
    case value v => exact fin _ _ hw
    case skip => exact fin _ _ hw
    case defer d =>
      obtain ⟨u, e, _⟩ := hw
      have e2 := congrArg Act.defers e
      cases hd : o.dst <;> rw [hd] at e2 <;> simp [Act.put] at e2
    case enter f args =>
      refine ⟨hw.1, CallsIn.mono hw.2 fun e w'' he => ?_⟩
      cases e with
      | returned v => exact fin _ _ he
      | panicked c => exact he.elim
      | outgrown =>
        obtain ⟨_, _, hf⟩ := he
        exact hf.elim
    case round l f tmps assign body =>
      refine ⟨hw.1, RoundIn.mono hw.2 fun e w'' he => ?_⟩
      cases e with
      | returned v => exact fin _ _ he
      | panicked c => exact he.elim
      | outgrown =>
        obtain ⟨_, _, hf⟩ := he
        exact hf.elim
    case row row args => exact ⟨hw.1, RowsIn.mono hw.2 fun v w'' he => fin _ _ he⟩
  | halt x w' =>
    cases x <;> simp only [Oper.uponIn] at hw
/-- what holds whichever operations are done -/
theorem wpAny_inv {P : Program} {l : Option Nat} {ops : Array Oper} {Q : Exit → Act → World → Prop} (back : ∀ i o, ops[i]? = some o → ∀ e ∈ o.after, Region.binds .any e = true → e.on < i) (Inv : (Nat → Bool) → Act → World → Prop)
    (step : ∀ L i o a w, ops[i]? = some o → L i = false → (∀ k, L k = true → k < ops.size) → (∀ k ok, L k = true → ops[k]? = some ok → ∀ e ∈ ok.after, Region.binds .any e = true → L e.on = true) → (∀ e ∈ o.after, Region.binds .any e = true → L e.on = true) → Inv L a w →
      wpOpIn (fW l) 0 P ops Q i (Inv fun k => L k || Nat.beq k i) a w)
    (fin : ∀ L a w, (∀ k, k < ops.size → L k = true) → Inv L a w → Q .normal a w) :
    ∀ (m : Nat) (listed : Array Bool) (a : Act) (w : World), cntU listed ops.size = m → listed.size = ops.size → (∀ k ok, listed.getD k false = true → ops[k]? = some ok → ∀ e ∈ ok.after, Region.binds .any e = true → listed.getD e.on false = true) →
      Inv (fun k => listed.getD k false) a w → wpAnyIn (fW l) 0 P .any ops Q m listed a w := by
  intro m
  induction m with
  | zero =>
    intro listed a w hc hs hcl hI
    have hall : ∀ j, j < ops.size → listed.getD j false = true := fun j hj => by
      have := List.countP_eq_zero.1 hc j (List.mem_range.2 hj)
      simpa using this
    refine ⟨?_, fin _ a w hall hI⟩
    cases hr : Region.ready .any ops listed with
    | nil => rfl
    | cons i l =>
      have := mem_ready.1 (show i ∈ Region.ready .any ops listed by rw [hr]; exact List.mem_cons_self ..)
      obtain ⟨hun, o, ho, _⟩ := this
      have hi : i < ops.size := (Array.getElem?_eq_some_iff.1 ho).1
      have h2 := hall i hi
      have h3 : i < listed.size := by omega
      simp [h3] at hun h2
      rw [h2] at hun
      cases hun
  | succ m ih =>
    intro listed a w hc hs hcl hI
    have hex : ∃ j, j < ops.size ∧ listed.getD j false = false := by
      have : 0 < (List.range ops.size).countP fun j => !listed.getD j false := by unfold cntU at hc; omega
      obtain ⟨j, hj, hp⟩ := List.countP_pos_iff.1 this
      exact ⟨j, List.mem_range.1 hj, by simpa using hp⟩
    refine ⟨fun h0 => ?_, fun i hi => ?_⟩
    · obtain ⟨i, h1, h2, h3⟩ := least_not ops.size hex
      have ho : ops[i]? = some ops[i] := Array.getElem?_eq_getElem h1
      have h4 : i < listed.size := by omega
      have h5 : listed.getD i true = false := by simp [h4] at h2 ⊢; exact h2
      have : i ∈ Region.ready .any ops listed := mem_ready.2 ⟨h5, ops[i], ho, fun e he hb => h3 _ (back i _ ho e he hb)⟩
      rw [h0] at this
      cases this
    · obtain ⟨hun, o, ho, hdeps⟩ := mem_ready.1 hi
      have hin : i < ops.size := (Array.getElem?_eq_some_iff.1 ho).1
      have hil : i < listed.size := by omega
      have hun' : listed.getD i false = false := by simp [hil] at hun ⊢; exact hun
      have hset : ∀ k, (listed.setIfInBounds i true).getD k false = (listed.getD k false || Nat.beq k i) := fun k => by
        by_cases hk : k = i
        · subst hk
          rw [beq_t rfl, Bool.or_true]
          simp [hil]
        · rw [beq_f hk, Bool.or_false]
          simp only [Array.getD_eq_getD_getElem?, Array.getElem?_setIfInBounds_ne (Ne.symm hk)]
      have h0 := step (fun k => listed.getD k false) i o a w ho hun' (fun k hk => by
        rcases Nat.lt_or_ge k listed.size with h | h
        · omega
        · have hk : listed.getD k false = true := hk
          rw [Array.getD_eq_getD_getElem?, Array.getElem?_eq_none h] at hk
          cases hk) hcl hdeps hI
      refine wpOpIn_mono (fun a' w' hI' => ih _ a' w' ?_ (by simpa using hs) ?_ ?_) h0
      · have := cntU_set hin hil hun'
        omega
      · intro k ok hk hok e he hb
        rw [hset] at hk ⊢
        rw [Bool.or_eq_true] at hk ⊢
        rcases hk with hk | hk
        · exact .inl (hcl k ok hk hok e he hb)
        · rw [Nat.beq_eq] at hk
          subst hk
          rw [ho] at hok
          cases hok
          exact .inl (hdeps e he hb)
      · have : (fun k => (listed.setIfInBounds i true).getD k false) = fun k => listed.getD k false || Nat.beq k i := funext hset
        rw [this]
        exact hI'
def nthN : List Nat → Nat → Nat
  | [], _ => 0
  | x :: _, 0 => x
  | _ :: l, n + 1 => nthN l n
theorem nthN_get : ∀ (l : List Nat) (n : Nat), nthN l n = (l[n]?).getD 0
  | [], n => by simp [nthN]
  | x :: l, 0 => by simp [nthN]
  | x :: l, n + 1 => by simp [nthN, nthN_get l n]
/-- those for whom one waits, as bits -/
def maskE (ms : List Nat) : List Edge → Nat → Nat
  | [], s => s
  | e :: l, s => maskE ms l (cond (Region.binds .any e) (s ||| (1 <<< e.on) ||| nthN ms e.on) s)
theorem maskE_bit (ms : List Nat) (j : Nat) : ∀ (l : List Edge) (s : Nat), (maskE ms l s).testBit j = true ↔ s.testBit j = true ∨ ∃ e ∈ l, Region.binds .any e = true ∧ (e.on = j ∨ (nthN ms e.on).testBit j = true)
  | [], s => by simp [maskE]
  | e :: l, s => by
    unfold maskE
    rw [maskE_bit ms j l]
    have hb : (1 <<< e.on).testBit j = true ↔ e.on = j := by
      rw [Nat.shiftLeft_eq, Nat.one_mul, Nat.testBit_two_pow]
      simp
    cases hbd : Region.binds .any e
    · simp [hbd]
    · simp only [cond_true, Nat.testBit_or, Bool.or_eq_true, hb, List.mem_cons, exists_eq_or_imp, hbd, true_and]
      constructor
      · rintro (((h | h) | h) | h)
        · exact .inl h
        · exact .inr (.inl (.inl h))
        · exact .inr (.inl (.inr h))
        · exact .inr (.inr h)
      · rintro (h | (h | h) | h)
        · exact .inl (.inl (.inl h))
        · exact .inl (.inl (.inr h))
        · exact .inl (.inr h)
        · exact .inr h
def masks : List Oper → List Nat → List Nat
  | [], ms => ms
  | o :: l, ms => masks l (ms ++ [maskE ms o.after.toList 0])
theorem masks_ext : ∀ (l : List Oper) (ms : List Nat), ∃ r, masks l ms = ms ++ r ∧ r.length = l.length
  | [], ms => ⟨[], by simp [masks], rfl⟩
  | o :: l, ms => by
    obtain ⟨r, h1, h2⟩ := masks_ext l (ms ++ [maskE ms o.after.toList 0])
    exact ⟨maskE ms o.after.toList 0 :: r, by rw [masks, h1]; simp, by simp [h2]⟩
theorem masks_at : ∀ (l : List Oper) (ms : List Nat) (i : Nat) (o : Oper), l[i]? = some o → ∃ pre post, masks l ms = pre ++ [maskE pre o.after.toList 0] ++ post ∧ pre.length = ms.length + i
  | [], ms, i, o, h => by cases h
  | o :: l, ms, 0, o', h => by
    cases h
    obtain ⟨r, h1, h2⟩ := masks_ext l (ms ++ [maskE ms o.after.toList 0])
    exact ⟨ms, r, by rw [masks, h1], by simp⟩
  | o :: l, ms, i + 1, o', h => by
    obtain ⟨pre, post, h1, h2⟩ := masks_at l (ms ++ [maskE ms o.after.toList 0]) i o' (by simpa using h)
    exact ⟨pre, post, by rw [masks, h1], by rw [h2]; simp; omega⟩
def ancM (ms : List Nat) (i j : Nat) : Bool := (nthN ms i).testBit j
theorem ancM_iff {l : List Oper} {i : Nat} {o : Oper} (h : l[i]? = some o) (hb : ∀ e ∈ o.after, Region.binds .any e = true → e.on < i) (j : Nat) :
    ancM (masks l []) i j = true ↔ ∃ e ∈ o.after, Region.binds .any e = true ∧ (e.on = j ∨ ancM (masks l []) e.on j = true) := by
  obtain ⟨pre, post, h1, h2⟩ := masks_at l [] i o h
  simp only [List.length_nil, Nat.zero_add] at h2
  have hi : nthN (masks l []) i = maskE pre o.after.toList 0 := by
    rw [nthN_get, h1, List.append_assoc, List.getElem?_append_right (by omega)]
    simp [h2]
  have hlt : ∀ k, k < i → nthN (masks l []) k = nthN pre k := fun k hk => by
    rw [nthN_get, nthN_get, h1, List.append_assoc, List.getElem?_append_left (by omega)]
  unfold ancM
  rw [hi, maskE_bit]
  simp only [Nat.zero_testBit, Bool.false_eq_true, false_or, Array.mem_toList_iff]
  constructor
  · rintro ⟨e, he, hbd, hr⟩
    exact ⟨e, he, hbd, hr.imp id fun h => by rwa [hlt _ (hb e he hbd)]⟩
  · rintro ⟨e, he, hbd, hr⟩
    exact ⟨e, he, hbd, hr.imp id fun h => by rwa [hlt _ (hb e he hbd)] at h⟩
section
variable {l : List Oper} (back : ∀ i o, l[i]? = some o → ∀ e ∈ o.after, Region.binds .any e = true → e.on < i)
include back
theorem ancM_lt : ∀ (i j : Nat), i < l.length → ancM (masks l []) i j = true → j < i := fun i => by
  induction i using Nat.strongRecOn with
  | _ i ih =>
    intro j hi h
    have ho : l[i]? = some l[i] := List.getElem?_eq_getElem hi
    obtain ⟨e, he, hb, hr⟩ := (ancM_iff ho (back i _ ho) j).1 h
    have hlt := back i _ ho e he hb
    rcases hr with rfl | hr
    · exact hlt
    · exact Nat.lt_trans (ih e.on hlt j (by omega) hr) hlt
theorem ancM_trans : ∀ (i k j : Nat), i < l.length → ancM (masks l []) i k = true → ancM (masks l []) k j = true → ancM (masks l []) i j = true := fun i => by
  induction i using Nat.strongRecOn with
  | _ i ih =>
    intro k j hi h h'
    have ho : l[i]? = some l[i] := List.getElem?_eq_getElem hi
    obtain ⟨e, he, hb, hr⟩ := (ancM_iff ho (back i _ ho) k).1 h
    have hlt := back i _ ho e he hb
    refine (ancM_iff ho (back i _ ho) j).2 ⟨e, he, hb, .inr ?_⟩
    rcases hr with rfl | hr
    · exact h'
    · exact ih e.on hlt k j (by omega) hr h'
theorem ancM_closed {L : Nat → Bool} (hcl : ∀ k o, L k = true → l[k]? = some o → ∀ e ∈ o.after, Region.binds .any e = true → L e.on = true) : ∀ (i j : Nat) (o : Oper), l[i]? = some o → (∀ e ∈ o.after, Region.binds .any e = true → L e.on = true) → ancM (masks l []) i j = true → L j = true := fun i => by
  induction i using Nat.strongRecOn with
  | _ i ih =>
    intro j o ho hd h
    obtain ⟨e, he, hb, hr⟩ := (ancM_iff ho (back i _ ho) j).1 h
    have hlt := back i _ ho e he hb
    have hl := hd e he hb
    rcases hr with rfl | hr
    · exact hl
    · have hi : i < l.length := (List.getElem?_eq_some_iff.1 ho).1
      have ho2 : l[e.on]? = some l[e.on] := List.getElem?_eq_getElem (by omega)
      exact ih e.on hlt j _ ho2 (hcl e.on _ hl ho2) hr
end
end Go.E2
/-
  The evaluator: regions that draw their order: each operation in the memory of those for whom it waits. No program is named here. No conditions.
-/
namespace Go.E2
open Go.RowKit Go.Al
set_option linter.unusedVariables false
set_option linter.unusedSimpArgs false
set_option linter.unusedSectionVars false
variable [Th] [Facts]

/-- the operations of a region that draws, the last one first -/
def evD (P : Program) (call : Caller) (ops : Array Oper) (ms : List Nat) (fr : List SV) (H : List (Nat × SO)) : List Oper → Nat → Nat → List RR → Option (List RR)
  | [], _, _, rs => some rs
  | o :: l, i, nx, rs => match wantS ops o (mergeF (ancM ms i) fr rs) with
    | some true => match evOp P call o (mergeF (ancM ms i) fr rs) ⟨mergeH (ancM ms i) H rs, nx, []⟩ with
      | some (.val v, st') => cond (Nat.ble nx st'.nx) (evD P call ops ms fr H l (i + 1) st'.nx (⟨i, o.dst, v, st'.wr, nx, st'.nx, st'.H⟩ :: rs)) none
      | some (.skip, st') => cond (Nat.ble nx st'.nx) (evD P call ops ms fr H l (i + 1) st'.nx (⟨i, o.dst, .tup [], st'.wr, nx, st'.nx, st'.H⟩ :: rs)) none
      | _ => none
    | some false => evD P call ops ms fr H l (i + 1) nx (⟨i, o.dst, .tup [], [], nx, nx, []⟩ :: rs)
    | none => none
structure OpF (P : Program) (call : Caller) (ops : Array Oper) (ms : List Nat) (fr : List SV) (H : List (Nat × SO)) (rs : List RR) (o : Oper) (r : RR) : Prop where
  ds : r.ds = o.dst
  le : r.a ≤ r.b
  run : (wantS ops o (mergeF (ancM ms r.i) fr rs) = some true ∧ ∃ res S, evOp P call o (mergeF (ancM ms r.i) fr rs) ⟨mergeH (ancM ms r.i) H rs, r.a, []⟩ = some (res, S) ∧ r.W = S.wr ∧ r.b = S.nx ∧ r.H = S.H ∧ (res = .val r.v ∨ (res = .skip ∧ r.v = .tup []))) ∨
    (wantS ops o (mergeF (ancM ms r.i) fr rs) = some false ∧ r.W = [] ∧ r.b = r.a ∧ r.v = .tup [])
def Sp (P : Program) (call : Caller) (ops : Array Oper) (ms : List Nat) (fr : List SV) (H : List (Nat × SO)) (l : List Oper) (nx0 : Nat) : List RR → Nat → Prop
  | [], nx => nx = nx0
  | r :: rs, nx => nx = r.b ∧ r.i = rs.length ∧ (∃ o, l[r.i]? = some o ∧ OpF P call ops ms fr H rs o r) ∧ Sp P call ops ms fr H l nx0 rs r.a
section
variable {P : Program} {call : Caller} {ops : Array Oper} {ms : List Nat} {fr : List SV} {H : List (Nat × SO)} {l : List Oper} {nx0 : Nat}
theorem evD_spec : ∀ {l' : List Oper} {i nx : Nat} {rs rs' : List RR}, evD P call ops ms fr H l' i nx rs = some rs' → i = rs.length → Sp P call ops ms fr H l nx0 rs nx → l.drop i = l' → ∃ nx', Sp P call ops ms fr H l nx0 rs' nx' ∧ rs'.length = rs.length + l'.length
  | [], i, nx, rs, rs', h, hi, hs, hl => by cases h; exact ⟨nx, hs, rfl⟩
  | o :: l', i, nx, rs, rs', h, hi, hs, hl => by
    have hlt : l.drop i ≠ [] := by rw [hl]; simp
    have ho : l[i]? = some o := by
      have := congrArg List.head? hl
      simpa [List.head?_drop] using this
    have hl' : l.drop (i + 1) = l' := by
      have := congrArg List.tail hl
      simpa [List.tail_drop] using this
    have next : ∀ (r : RR) (nx' : Nat), r.i = i → r.b = nx' → r.a = nx → OpF P call ops ms fr H rs o r → evD P call ops ms fr H l' (i + 1) nx' (r :: rs) = some rs' → ∃ nx', Sp P call ops ms fr H l nx0 rs' nx' ∧ rs'.length = rs.length + (o :: l').length := fun r nx' h1 h2 h3 h4 h5 => by
      obtain ⟨nx2, hs2, hl2⟩ := evD_spec h5 (by simp [hi]) ⟨h2.symm, h1.trans hi, ⟨o, h1 ▸ ho, h4⟩, h3 ▸ hs⟩ hl'
      exact ⟨nx2, hs2, by rw [hl2]; simp; omega⟩
    unfold evD at h
    split at h
    · rename_i hw
      split at h
      · rename_i v st' he
        cases hb : Nat.ble nx st'.nx
        · rw [hb] at h; cases h
        rw [hb] at h
        exact next ⟨i, o.dst, v, st'.wr, nx, st'.nx, st'.H⟩ st'.nx rfl rfl rfl ⟨rfl, Nat.le_of_ble_eq_true hb, .inl ⟨hw, _, _, he, rfl, rfl, rfl, .inl rfl⟩⟩ h
      · rename_i st' he
        cases hb : Nat.ble nx st'.nx
        · rw [hb] at h; cases h
        rw [hb] at h
        exact next ⟨i, o.dst, .tup [], st'.wr, nx, st'.nx, st'.H⟩ st'.nx rfl rfl rfl ⟨rfl, Nat.le_of_ble_eq_true hb, .inl ⟨hw, _, _, he, rfl, rfl, rfl, .inr ⟨rfl, rfl⟩⟩⟩ h
      · cases h
    · rename_i hw
      exact next ⟨i, o.dst, .tup [], [], nx, nx, []⟩ nx rfl rfl rfl ⟨rfl, Nat.le_refl _, .inr ⟨hw, rfl, rfl, rfl⟩⟩ h
    · cases h
/-- what the numbers and names of all are -/
structure Rng (l : List Oper) (nx0 : Nat) (rs : List RR) (nx : Nat) : Prop where
  le : nx0 ≤ nx
  falls : Falls rs
  rng : ∀ r ∈ rs, r.i < rs.length ∧ nx0 ≤ r.a ∧ r.a ≤ r.b ∧ r.b ≤ nx
  ord : ∀ r ∈ rs, ∀ r' ∈ rs, r.i < r'.i → r.b ≤ r'.a
  cover : ∀ x, nx0 ≤ x → x < nx → ∃ r ∈ rs, r.a ≤ x ∧ x < r.b
  one : ∀ i, i < rs.length → ∃ r ∈ rs, r.i = i
theorem Sp.rng : ∀ {rs : List RR} {nx : Nat}, Sp P call ops ms fr H l nx0 rs nx → Rng l nx0 rs nx
  | [], nx, h => by
    cases h
    exact ⟨Nat.le_refl _, List.Pairwise.nil, fun r hr => (by cases hr), fun r hr => (by cases hr), fun x h1 h2 => (by omega), fun i hi => (by cases hi)⟩
  | r :: rs, nx, ⟨h1, h2, ⟨o, ho, hop⟩, h3⟩ => by
    have ih := Sp.rng h3
    have hle := hop.le
    subst h1
    refine ⟨Nat.le_trans ih.le hle, List.pairwise_cons.2 ⟨fun r' hr => by rw [h2]; exact (ih.rng r' hr).1, ih.falls⟩, fun r' hr => ?_, fun r1 hr1 r2 hr2 hlt => ?_, fun x hx1 hx2 => ?_, fun i hi => ?_⟩
    · rcases List.mem_cons.1 hr with rfl | hr
      · exact ⟨by simp [h2], ih.le, hle, Nat.le_refl _⟩
      · have := ih.rng r' hr
        exact ⟨by simp; omega, this.2.1, this.2.2.1, by omega⟩
    · rcases List.mem_cons.1 hr1 with e1 | m1
      · rcases List.mem_cons.1 hr2 with e2 | m2
        · rw [e1, e2] at hlt; omega
        · have := (ih.rng r2 m2).1; rw [e1] at hlt; omega
      · rcases List.mem_cons.1 hr2 with e2 | m2
        · have := ih.rng r1 m1; rw [e2]; exact this.2.2.2
        · exact ih.ord r1 m1 r2 m2 hlt
    · by_cases hx : x < r.a
      · obtain ⟨r', hr, hx'⟩ := ih.cover x hx1 hx
        exact ⟨r', List.mem_cons_of_mem _ hr, hx'⟩
      · exact ⟨r, List.mem_cons_self .., by omega, hx2⟩
    · by_cases he : i = rs.length
      · exact ⟨r, List.mem_cons_self .., by omega⟩
      · obtain ⟨r', hr, hx'⟩ := ih.one i (by simp at hi; omega)
        exact ⟨r', List.mem_cons_of_mem _ hr, hx'⟩
theorem OpF.more {rs : List RR} {o : Oper} {r r0 : RR} (h : OpF P call ops ms fr H rs o r) (hr : ancM ms r.i r0.i = false) : OpF P call ops ms fr H (r0 :: rs) o r := by
  have e1 : mergeF (ancM ms r.i) fr (r0 :: rs) = mergeF (ancM ms r.i) fr rs := by simp [mergeF, hr]
  have e2 : mergeH (ancM ms r.i) H (r0 :: rs) = mergeH (ancM ms r.i) H rs := by simp [mergeH, hr]
  exact ⟨h.ds, h.le, by rw [e1, e2]; exact h.run⟩
theorem Sp.op (hlt : ∀ i j, i < l.length → ancM ms i j = true → j < i) : ∀ {rs : List RR} {nx : Nat}, Sp P call ops ms fr H l nx0 rs nx → ∀ r ∈ rs, ∃ o, l[r.i]? = some o ∧ OpF P call ops ms fr H rs o r
  | [], nx, h, r, hr => by cases hr
  | r0 :: rs, nx, h, r, hr => by
    obtain ⟨h1, h2, ⟨o, ho, hop⟩, h3⟩ := h
    have no : ∀ i, i < l.length → i ≤ r0.i → ancM ms i r0.i = false := fun i hi hle => by
      rw [← Bool.not_eq_true]
      intro he
      have := hlt i r0.i hi he
      omega
    rcases List.mem_cons.1 hr with rfl | hr
    · exact ⟨o, ho, hop.more (no _ (List.getElem?_eq_some_iff.1 ho).1 (Nat.le_refl _))⟩
    · obtain ⟨o', ho', hop'⟩ := Sp.op hlt h3 r hr
      have := (Sp.rng h3).rng r hr
      exact ⟨o', ho', hop'.more (no _ (List.getElem?_eq_some_iff.1 ho').1 (by omega))⟩
end
/-- what is written by those that neither wait for one nor are waited for by it -/
def forb (ms : List Nat) (i : Nat) : List RR → List Nat
  | [] => []
  | r :: rs => cond (Nat.beq r.i i || ancM ms i r.i || ancM ms r.i i) (forb ms i rs) (r.W ++ forb ms i rs)
theorem mem_forb {ms : List Nat} {i x : Nat} : ∀ {rs : List RR} {r : RR}, r ∈ rs → r.i ≠ i → ancM ms i r.i = false → ancM ms r.i i = false → x ∈ r.W → x ∈ forb ms i rs
  | r0 :: rs, r, hr, h1, h2, h3, hx => by
    unfold forb
    rcases List.mem_cons.1 hr with rfl | hr
    · rw [beq_f h1, h2, h3]
      exact List.mem_append_left _ hx
    · have := mem_forb hr h1 h2 h3 hx
      cases (Nat.beq r0.i i || ancM ms i r0.i || ancM ms r0.i i)
      · exact List.mem_append_right _ this
      · exact this
/-- does an operation go as it goes in a memory without these blocks? -/
def freeB (P : Program) (o : Oper) (fr : List SV) (F : List Nat) : Bool := match F with
  | [] => true
  | x :: F => match o.op with
    | .load _ y => match opv fr y with
      | some (.ptr (some (id, _))) => !memN id (x :: F)
      | some (.pel j _ _ _) => !memN j (x :: F)
      | _ => false
    | .store _ y _ => match opv fr y with
      | some (.ptr (some (id, _))) => !memN id (x :: F)
      | _ => false
    | .alloc _ => true
    | .box _ _ => true
    | .buildSlice t n _ => !Nat.beq n 0 || (match ownJ P t with
      | none => true
      | some _ => false)
    | .makeSlice _ _ _ => true
    | .indexAddr _ y _ => (pu P o fr).isSome || (match opv fr y with
      | some (.root j) => !memN j (x :: F)
      | some (.vw j _ _ _) => !memN j (x :: F)
      | _ => false)
    | .slice _ y _ _ _ => (pu P o fr).isSome || (match opv fr y with
      | some (.root j) => !memN j (x :: F)
      | _ => false)
    | .call c => match targetS P fr c with
      | none => (pu P o fr).isSome
      | some _ => false
    | .panic _ => false
    | _ => (pu P o fr).isSome
theorem rowO_id {P : Program} {o : Oper} {t : TypeId} {n : Nat} {ps : Array (Nat × Operand)} (ho : o.op = .buildSlice t n ps) (h : (!Nat.beq n 0 || (match ownJ P t with
      | none => true
      | some _ => false)) = true) (r : Option SV × St) : rowO P o r = r := by
  obtain ⟨rv, rs⟩ := r
  unfold rowO
  rw [ho]
  cases n with
  | succ n => rfl
  | zero =>
    cases rv with
    | none => rfl
    | some v =>
      have hj : ownJ P t = none := by
        cases hj : ownJ P t with
        | none => rfl
        | some x => rw [hj] at h; cases h
      have : rowE P t v rs = (v, rs) := by
        unfold rowE
        rw [hj]
        split <;> rfl
      simp only [this]
theorem loadS_pel (P : Program) (st : St) (t : TypeId) (j sz : Nat) (i : Tm) (q : Nat) : loadS P st t (.pel j sz i q) = none := by
  unfold loadS
  cases P.underlying t <;> rfl
theorem sliceE_root (P : Program) (st : St) (t : TypeId) (j : Nat) (lo hi mx : Option SV) : sliceE P st t (.root j) lo hi mx = none := by
  unfold sliceE
  cases P.underlying t with
  | none => rfl
  | some d => cases d <;> rfl
theorem makeR_kill {P : Program} {H H' : List (Nat × SO)} {nx : Nat} {t : TypeId} {l c : SV} {r : SV} {S : St} (h : makeR P ⟨H, nx, []⟩ t l c = some (r, S)) :
    ∃ S', makeR P ⟨H', nx, []⟩ t l c = some (r, S') ∧ S'.nx = S.nx ∧ S'.wr = S.wr ∧ ∀ id, id ∈ S.wr ∨ (nx ≤ id ∧ id < S.nx) → look S'.H id = look S.H id := by
  unfold makeR at h ⊢
  generalize ownJ P t = a at *
  generalize tmI c = b at *
  split at h
  · rename_i e sz c' k m
    cases hb : (leB (.lit 0) m && leB m bigT)
    · rw [hb] at h; cases h
    · rw [hb] at h
      cases h
      refine ⟨⟨ins (killL [] H') nx (.blob c' (.app 13 [])), nx + 1, []⟩, rfl, rfl, rfl, fun id hk => ?_⟩
      simp only at hk ⊢
      rw [look_ins, look_ins, if_pos (hk.elim (fun h => by cases h) fun h => by omega), if_pos (hk.elim (fun h => by cases h) fun h => by omega)]
  · cases h
theorem rowJ_kill {st st' : St} {j : Nat} (h : look st'.H j = look st.H j) : rowJ st' j = rowJ st j := by
  unfold rowJ
  rw [h]
theorem loadS_kill {P : Program} {st st' : St} {t : TypeId} {id off : Nat} (h : look st'.H id = look st.H id) : loadS P st' t (.ptr (some (id, off))) = loadS P st t (.ptr (some (id, off))) := by
  unfold loadS
  cases P.underlying t with
  | none => rfl
  | some d => simp only [h]
theorem storeS_kill {P : Program} {H H' : List (Nat × SO)} {nx : Nat} {t : TypeId} {id off : Nat} {v : SV} {S : St} (h : look H' id = look H id) (hs : storeS P ⟨H, nx, []⟩ t (.ptr (some (id, off))) v = some S) :
    ∃ S', storeS P ⟨H', nx, []⟩ t (.ptr (some (id, off))) v = some S' ∧ S'.nx = S.nx ∧ S'.wr = S.wr ∧ S.nx = nx ∧ S.wr = [id] ∧ look S'.H id = look S.H id := by
  unfold storeS at hs ⊢
  simp only [h] at hs ⊢
  split at hs
  · rename_i e cs ext vs n q1 q2 q3
    cases hb : (Nat.beq vs.length n && Nat.ble (off + n) cs.length && vs.all oneB)
    · rw [hb] at hs; cases hs
    rw [hb] at hs
    cases hs
    refine ⟨⟨ins H' id (.cells e (setR cs off vs) ext), nx, [id]⟩, ?_, rfl, rfl, rfl, rfl, ?_⟩
    · first
        | rfl
        | simp [hb]
    · rw [look_ins, look_ins, if_pos rfl, if_pos rfl]
  · cases hs
theorem newS_kill (H H' : List (Nat × SO)) (nx : Nat) (e : TypeId) (cs : List SV) : (newS ⟨H', nx, []⟩ e cs).2.nx = (newS ⟨H, nx, []⟩ e cs).2.nx ∧ (newS ⟨H', nx, []⟩ e cs).2.wr = (newS ⟨H, nx, []⟩ e cs).2.wr ∧
    ∀ k, k ∈ (newS ⟨H, nx, []⟩ e cs).2.wr ∨ (nx ≤ k ∧ k < (newS ⟨H, nx, []⟩ e cs).2.nx) → look (newS ⟨H', nx, []⟩ e cs).2.H k = look (newS ⟨H, nx, []⟩ e cs).2.H k := by
  refine ⟨rfl, rfl, fun k hk => ?_⟩
  simp only [newS] at hk ⊢
  rw [look_ins, look_ins, if_pos (hk.elim (fun h => by cases h) fun h => by omega), if_pos (hk.elim (fun h => by cases h) fun h => by omega)]
theorem evOp_kill {P : Program} {call : Caller} {o : Oper} {fr : List SV} {H : List (Nat × SO)} {nx : Nat} {r : OR} {S : St} {F : List Nat} (h : evOp P call o fr ⟨H, nx, []⟩ = some (r, S)) (hf : freeB P o fr F = true) :
    ∃ S', evOp P call o fr ⟨killL F H, nx, []⟩ = some (r, S') ∧ S'.nx = S.nx ∧ S'.wr = S.wr ∧ ∀ id, id ∈ S.wr ∨ (nx ≤ id ∧ id < S.nx) → look S'.H id = look S.H id := by
  have quiet : (pu P o fr).isSome = true → (match pu P o fr with
      | some v => some (OR.val v, (⟨H, nx, []⟩ : St))
      | none => match hop P o fr ⟨H, nx, []⟩ with
        | some (some v, st') => some (.val v, st')
        | some (none, st') => some (.skip, st')
        | none => none) = some (r, S) → ∃ S', (match pu P o fr with
      | some v => some (OR.val v, (⟨killL F H, nx, []⟩ : St))
      | none => match hop P o fr ⟨killL F H, nx, []⟩ with
        | some (some v, st') => some (.val v, st')
        | some (none, st') => some (.skip, st')
        | none => none) = some (r, S') ∧ S'.nx = S.nx ∧ S'.wr = S.wr ∧ ∀ id, id ∈ S.wr ∨ (nx ≤ id ∧ id < S.nx) → look S'.H id = look S.H id := fun hp h => by
    obtain ⟨v, hv⟩ := Option.isSome_iff_exists.1 hp
    rw [hv] at h ⊢
    cases h
    exact ⟨_, rfl, rfl, rfl, fun id hid => hid.elim (fun h => by cases h) fun h => by have := h.2; simp only at this; omega⟩
  have back : ∀ (hop1 : Option (Option SV × St)), (match hop1 with
      | some (some v, st') => some (OR.val v, st')
      | some (none, st') => some (.skip, st')
      | none => none) = some (r, S) → ∃ u, hop1 = some (u, S) ∧ r = (match u with
      | some v => OR.val v
      | none => .skip) := fun hop1 h => by
    split at h
    · cases h; exact ⟨_, rfl, rfl⟩
    · cases h; exact ⟨_, rfl, rfl⟩
    · cases h
  have forth : ∀ (u : Option SV) (S' : St), r = (match u with
      | some v => OR.val v
      | none => .skip) → (match (some (u, S') : Option (Option SV × St)) with
      | some (some v, st') => some (OR.val v, st')
      | some (none, st') => some (.skip, st')
      | none => none) = some (r, S') := fun u S' h => by
    rw [h]
    cases u <;> rfl
  -- what goes by hop: enough to see it there
  have viaHop : pu P o fr = none → (∀ x, o.op ≠ .panic x) → (∀ c, o.op ≠ .call c) → (∀ u S, hop P o fr ⟨H, nx, []⟩ = some (u, S) → ∃ S', hop P o fr ⟨killL F H, nx, []⟩ = some (u, S') ∧ S'.nx = S.nx ∧ S'.wr = S.wr ∧ ∀ id, id ∈ S.wr ∨ (nx ≤ id ∧ id < S.nx) → look S'.H id = look S.H id) →
      ∃ S', evOp P call o fr ⟨killL F H, nx, []⟩ = some (r, S') ∧ S'.nx = S.nx ∧ S'.wr = S.wr ∧ ∀ id, id ∈ S.wr ∨ (nx ≤ id ∧ id < S.nx) → look S'.H id = look S.H id := fun hp n1 n2 hh => by
    have e : ∀ st, evOp P call o fr st = (match hop P o fr st with
        | some (some v, st') => some (OR.val v, st')
        | some (none, st') => some (.skip, st')
        | none => none) := fun st => by
      unfold evOp
      split
      · rename_i y hy; exact absurd hy (n1 _)
      · rename_i c hc; exact absurd hc (n2 _)
      · rw [hp]
    rw [e] at h ⊢
    obtain ⟨u, hu, hr⟩ := back _ h
    obtain ⟨S', h1, h2⟩ := hh u S hu
    rw [h1]
    exact ⟨S', forth u S' hr, h2⟩
  -- an operation that leaves the memory as it was
  have still : ∀ {α : Type} (g : St → Option α) (f : α → SV), (∀ H', hop P o fr ⟨H', nx, []⟩ = (match g ⟨H', nx, []⟩ with
      | some v => some (some (f v), ⟨H', nx, []⟩)
      | none => none)) → g ⟨killL F H, nx, []⟩ = g ⟨H, nx, []⟩ → ∀ u S, hop P o fr ⟨H, nx, []⟩ = some (u, S) → ∃ S', hop P o fr ⟨killL F H, nx, []⟩ = some (u, S') ∧ S'.nx = S.nx ∧ S'.wr = S.wr ∧ ∀ id, id ∈ S.wr ∨ (nx ≤ id ∧ id < S.nx) → look S'.H id = look S.H id := fun g f e1 e2 u S h => by
    rw [e1] at h ⊢
    rw [e2]
    cases hg : g ⟨H, nx, []⟩ with
    | none => rw [hg] at h; cases h
    | some v =>
      rw [hg] at h
      cases h
      exact ⟨_, rfl, rfl, rfl, fun id hid => hid.elim (fun h => by cases h) fun h => by have := h.2; simp only at this; omega⟩
  unfold freeB at hf
  split at hf
  · exact ⟨S, h, rfl, rfl, fun _ _ => rfl⟩
  rename_i x F
  have keep : ∀ {id : Nat}, (!memN id (x :: F)) = true → look (killL (x :: F) H) id = look H id := fun {id} hf => by
    rw [look_killL, if_neg (fun hm => by rw [memN_iff.2 hm] at hf; cases hf)]
  split at hf
  · -- load
    rename_i t y ho
    have hp : pu P o fr = none := by simp only [pu, ho]
    split at hf
    · rename_i id off hy
      have hl := keep hf
      refine viaHop hp (fun x hx => by rw [ho] at hx; cases hx) (fun c hc => by rw [ho] at hc; cases hc) (still (fun st => loadS P st t (.ptr (some (id, off)))) _root_.id (fun H' => ?_) (loadS_kill hl))
      simp only [hop, hop0, hopR, rowO, ho, hy]
      cases loadS P ⟨H', nx, []⟩ t (.ptr (some (id, off))) with
      | none => rfl
      | some v => rfl
    · rename_i j sz i q hy
      have hl := keep hf
      refine viaHop hp (fun x hx => by rw [ho] at hx; cases hx) (fun c hc => by rw [ho] at hc; cases hc) (still (fun st => loadR P st t (.pel j sz i q)) _root_.id (fun H' => ?_) ?_)
      · simp only [hop, hop0, hopR, rowO, ho, hy, loadS_pel]
        cases loadR P ⟨H', nx, []⟩ t (.pel j sz i q) <;> rfl
      · show loadR P _ t _ = loadR P _ t _
        unfold loadR
        cases P.underlying t with
        | none => rfl
        | some d =>
        simp only [rowJ_kill (st := ⟨H, nx, []⟩) (st' := ⟨killL (x :: F) H, nx, []⟩) hl]
    · cases hf
  · rename_i t y z ho
    have hp : pu P o fr = none := by simp only [pu, ho]
    split at hf
    · rename_i id off hy
      have hl := keep hf
      refine viaHop hp (fun x hx => by rw [ho] at hx; cases hx) (fun c hc => by rw [ho] at hc; cases hc) fun u S h => ?_
      simp only [hop, hop0, hopR, rowO, ho, hy] at h ⊢
      cases hz : opv fr z with
      | none => rw [hz] at h; cases h
      | some v =>
        rw [hz] at h
        simp only at h ⊢
        cases hs : storeS P ⟨H, nx, []⟩ t (.ptr (some (id, off))) v with
        | none => rw [hs] at h; cases h
        | some S1 =>
          rw [hs] at h
          cases h
          obtain ⟨S', e1, e2, e3, e4, e5, e6⟩ := storeS_kill hl hs
          rw [e1]
          refine ⟨S', rfl, e2, e3, fun k hk => ?_⟩
          rcases hk with hk | hk
          · rw [e5] at hk
            simp at hk
            subst hk
            exact e6
          · omega
    · cases hf
  · rename_i t ho
    have hp : pu P o fr = none := by simp only [pu, ho]
    refine viaHop hp (fun x hx => by rw [ho] at hx; cases hx) (fun c hc => by rw [ho] at hc; cases hc) fun u S h => ?_
    simp only [hop, hop0, hopR, rowO, ho] at h ⊢
    cases hz : zeroS P t with
    | none => rw [hz] at h; cases h
    | some zs =>
      rw [hz] at h
      cases h
      exact ⟨_, rfl, newS_kill H _ nx t zs⟩
  · rename_i t y ho
    have hp : pu P o fr = none := by simp only [pu, ho]
    refine viaHop hp (fun x hx => by rw [ho] at hx; cases hx) (fun c hc => by rw [ho] at hc; cases hc) fun u S h => ?_
    simp only [hop, hop0, hopR, rowO, ho] at h ⊢
    cases hz : opv fr y with
    | none => rw [hz] at h; cases h
    | some v =>
      rw [hz] at h
      simp only at h ⊢
      cases hc : cellsS v with
      | none => rw [hc] at h; cases h
      | some cs =>
        rw [hc] at h
        cases h
        exact ⟨_, rfl, newS_kill H _ nx t cs⟩
  · rename_i t n ps ho
    have hp : pu P o fr = none := by simp only [pu, ho]
    refine viaHop hp (fun x hx => by rw [ho] at hx; cases hx) (fun c hc => by rw [ho] at hc; cases hc) fun u S h => ?_
    simp only [hop, rowO_id ho hf] at h ⊢
    simp only [hop0, hopR, ho] at h ⊢
    cases hz : partsS fr ps.toList with
    | none => rw [hz] at h; cases h
    | some v =>
      rw [hz] at h
      simp only [buildSliceS] at h ⊢
      cases hc : buildSliceC P t n v with
      | none => rw [hc] at h; cases h
      | some er =>
        rw [hc] at h
        cases h
        exact ⟨_, rfl, newS_kill H _ nx er.1 er.2⟩
  · rename_i t y z ho
    have hp : pu P o fr = none := by simp only [pu, ho]
    refine viaHop hp (fun x hx => by rw [ho] at hx; cases hx) (fun c hc => by rw [ho] at hc; cases hc) fun u S h => ?_
    simp only [hop, hop0, hopR, rowO, ho] at h ⊢
    cases hy : opv fr y with
    | none => rw [hy] at h; cases h
    | some v =>
      rw [hy] at h
      cases hz : opv fr z with
      | none => rw [hz] at h; cases h
      | some u =>
        rw [hz] at h
        simp only [makeSliceS] at h ⊢
        cases hc : makeSliceC P t v u with
        | none =>
          rw [hc] at h
          simp only at h ⊢
          cases hm : makeR P ⟨H, nx, []⟩ t v u with
          | none => rw [hm] at h; cases h
          | some rs =>
            rw [hm] at h
            cases h
            obtain ⟨S', e1, e2⟩ := makeR_kill (H' := killL (x :: F) H) (show makeR P ⟨H, nx, []⟩ t v u = some (rs.1, rs.2) from hm)
            rw [e1]
            exact ⟨S', rfl, e2⟩
        | some er =>
          rw [hc] at h
          cases h
          exact ⟨_, rfl, newS_kill H _ nx er.1 er.2.1⟩
  · rename_i t y z ho
    cases hpu : pu P o fr with
    | some v =>
      have e : ∀ st, evOp P call o fr st = (match pu P o fr with
        | some v => some (OR.val v, st)
        | none => match hop P o fr st with
          | some (some v, st') => some (.val v, st')
          | some (none, st') => some (.skip, st')
          | none => none) := fun st => by simp only [evOp, ho]
      rw [e] at h ⊢
      exact quiet (by rw [hpu]; rfl) h
    | none =>
      rw [hpu] at hf
      simp only [Option.isSome_none, Bool.false_or] at hf
      split at hf
      · rename_i j hy
        have hl := keep hf
        refine viaHop hpu (fun x hx => by rw [ho] at hx; cases hx) (fun c hc => by rw [ho] at hc; cases hc) ?_
        cases hz : opv fr z with
        | none =>
          intro u S h
          simp only [hop, hop0, hopR, rowO, ho, hy, hz] at h
          cases h
        | some i =>
          refine still (fun st => idxR P st t (.root j) i) _root_.id (fun H' => ?_) ?_
          · simp only [hop, hop0, hopR, rowO, ho, hy, hz]
            cases idxR P ⟨H', nx, []⟩ t (.root j) i <;> rfl
          · show idxR P _ t _ _ = idxR P _ t _ _
            unfold idxR
            simp only [rowJ_kill (st := ⟨H, nx, []⟩) (st' := ⟨killL (x :: F) H, nx, []⟩) hl]
      · rename_i j sz o' n hy
        have hl := keep hf
        refine viaHop hpu (fun x hx => by rw [ho] at hx; cases hx) (fun c hc => by rw [ho] at hc; cases hc) ?_
        cases hz : opv fr z with
        | none =>
          intro u S h
          simp only [hop, hop0, hopR, rowO, ho, hy, hz] at h
          cases h
        | some i =>
          refine still (fun st => idxR P st t (.vw j sz o' n) i) _root_.id (fun H' => ?_) ?_
          · simp only [hop, hop0, hopR, rowO, ho, hy, hz]
            cases idxR P ⟨H', nx, []⟩ t (.vw j sz o' n) i <;> rfl
          · show idxR P _ t _ _ = idxR P _ t _ _
            unfold idxR
            simp only [rowJ_kill (st := ⟨H, nx, []⟩) (st' := ⟨killL (x :: F) H, nx, []⟩) hl]
      · cases hf
  · rename_i t y lo hi mx ho
    cases hpu : pu P o fr with
    | some v =>
      have e : ∀ st, evOp P call o fr st = (match pu P o fr with
        | some v => some (OR.val v, st)
        | none => match hop P o fr st with
          | some (some v, st') => some (.val v, st')
          | some (none, st') => some (.skip, st')
          | none => none) := fun st => by simp only [evOp, ho]
      rw [e] at h ⊢
      exact quiet (by rw [hpu]; rfl) h
    | none =>
      rw [hpu] at hf
      simp only [Option.isSome_none, Bool.false_or] at hf
      split at hf
      · rename_i j hy
        have hl := keep hf
        refine viaHop hpu (fun x hx => by rw [ho] at hx; cases hx) (fun c hc => by rw [ho] at hc; cases hc) ?_
        cases hA : mapO (opv fr) lo.toList with
        | none => intro u S h; simp only [hop, hop0, hopR, rowO, ho, hy, hA] at h; cases h
        | some la =>
          cases hB : mapO (opv fr) hi.toList with
          | none => intro u S h; simp only [hop, hop0, hopR, rowO, ho, hy, hA, hB] at h; cases h
          | some lb =>
            cases hC : mapO (opv fr) mx.toList with
            | none => intro u S h; simp only [hop, hop0, hopR, rowO, ho, hy, hA, hB, hC] at h; cases h
            | some lc =>
              refine still (fun st => cutR P st t (.root j) la.head? lb.head? lc.head?) _root_.id (fun H' => ?_) ?_
              · simp only [hop, hop0, hopR, rowO, ho, hy, hA, hB, hC, sliceE_root]
                cases cutR P ⟨H', nx, []⟩ t (.root j) la.head? lb.head? lc.head? <;> rfl
              · show cutR P _ t _ _ _ _ = cutR P _ t _ _ _ _
                unfold cutR
                cases lc.head? with
                | some v => rfl
                | none =>
                simp only [rowJ_kill (st := ⟨H, nx, []⟩) (st' := ⟨killL (x :: F) H, nx, []⟩) hl]
      · cases hf
  · rename_i c ho
    unfold evOp at h ⊢
    rw [ho] at h ⊢
    simp only at h ⊢
    split at hf
    · rename_i ht
      rw [ht] at h ⊢
      exact quiet hf h
    · cases hf
  · cases hf
  · rename_i h1 h2 h3 h4 h5 h6 h6a h6b h7 h8
    have e : ∀ st, evOp P call o fr st = (match pu P o fr with
      | some v => some (OR.val v, st)
      | none => match hop P o fr st with
        | some (some v, st') => some (.val v, st')
        | some (none, st') => some (.skip, st')
        | none => none) := fun st => by
      unfold evOp
      split
      · rename_i y hy; exact absurd hy (h8 _)
      · rename_i c hc; exact absurd hc (h7 _)
      · rfl
    rw [e] at h ⊢
    exact quiet hf h
end Go.E2
/-
  The evaluator: what holds on the way through a region that draws its order, and that it holds on. No program is named here. No conditions.
-/
namespace Go.E2
open Go.RowKit Go.Al
set_option linter.unusedVariables false
set_option linter.unusedSimpArgs false
set_option linter.unusedSectionVars false
variable [Th] [Facts]

theorem mergeH_none {L : Nat → Bool} {H : List (Nat × SO)} : ∀ {rs : List RR}, (∀ r ∈ rs, L r.i = false) → mergeH L H rs = H
  | [], _ => rfl
  | r :: rs, h => by
    unfold mergeH
    rw [h r (List.mem_cons_self ..), cond_false]
    exact mergeH_none fun r' hr => h r' (List.mem_cons_of_mem _ hr)
/-- the names of those of which L is true -/
def AL (A : Nat → Prop) (rs : List RR) (L : Nat → Bool) : Nat → Prop := fun x => A x ∨ ∃ r ∈ rs, L r.i = true ∧ r.a ≤ x ∧ x < r.b
theorem AL_mono {A : Nat → Prop} {rs : List RR} {L L' : Nat → Bool} (h : ∀ k, L k = true → L' k = true) {x : Nat} (hx : AL A rs L x) : AL A rs L' x := hx.imp id fun ⟨r, h1, h2, h3⟩ => ⟨r, h1, h _ h2, h3⟩
theorem Falls.uniq : ∀ {l : List RR}, Falls l → ∀ x ∈ l, ∀ y ∈ l, x.i = y.i → x = y
  | [], _, x, hx, _, _, _ => by cases hx
  | z :: l, hf, x, hx, y, hy, hxy => by
    have hp := List.pairwise_cons.1 hf
    rcases List.mem_cons.1 hx with e | hx
    · rcases List.mem_cons.1 hy with e' | hy
      · rw [e, e']
      · have := hp.1 y hy; rw [e] at hxy; omega
    · rcases List.mem_cons.1 hy with e' | hy
      · have := hp.1 x hx; rw [e'] at hxy; omega
      · exact Falls.uniq hp.2 x hx y hy hxy
/-- what is known of a region's operations -/
structure Cx (P : Program) (call : Caller) (ops : Array Oper) (ms : List Nat) (fr : List SV) (st : St) (A : Nat → Prop) (I0 : In) (w0 : World) (rs : List RR) (nx : Nat) : Prop where
  hn : NameOk P
  hc : CallOk P call
  hok : Ok P A I0 st w0
  hfr : okL A I0 fr
  tr : ∀ i k j, i < ops.size → ancM ms i k = true → ancM ms k j = true → ancM ms i j = true
  lt : ∀ i j, i < ops.size → ancM ms i j = true → j < i
  rg : Rng ops.toList st.nx rs nx
  len : rs.length = ops.size
  op : ∀ r ∈ rs, ∃ o, ops[r.i]? = some o ∧ OpF P call ops ms fr st.H rs o r
  ap : ∀ r ∈ rs, ∀ r' ∈ rs, r.i ≠ r'.i → ∀ o, ops[r.i]? = some o → ancM ms r.i r'.i = false → ancM ms r'.i r.i = false → ∀ d, r'.ds = some d → d ∉ o.looksAt ops
  dd : ∀ r ∈ rs, ∀ r' ∈ rs, r'.i ≠ r.i → r.ds ≠ none → r'.ds ≠ r.ds
  free : ∀ r ∈ rs, ∀ o, ops[r.i]? = some o → wantS ops o (mergeF (ancM ms r.i) fr rs) = some true → freeB P o (mergeF (ancM ms r.i) fr rs) (forb ms r.i rs) = true
  sep : ∀ r ∈ rs, (∀ id ∈ forb ms r.i rs, ¬ (r.a ≤ id ∧ id < r.b)) ∧ ∀ id ∈ r.W, id ∉ forb ms r.i rs ∧ id < r.b
/-- what holds when those of which L is true are done -/
structure Iv (P : Program) (ops : Array Oper) (ms : List Nat) (fr : List SV) (st : St) (A : Nat → Prop) (I0 : In) (w0 : World) (rs : List RR) (nx : Nat) (L : Nat → Bool) (a : Act) (w : World) (I : In) : Prop where
  ext : ∀ x, (x < st.nx ∨ nx ≤ x) → I.adr x = I0.adr x ∧ I.cap x = I0.cap x ∧ I.esl x = I0.esl x
  val : I.val = I0.val
  tmps : a.tmps = (denL I (mergeF L fr rs)).toArray
  own : ∀ r ∈ rs, L r.i = true → r.v.ok (up (AL A rs (ancM ms r.i)) r.a r.b) I ∧ (∀ id so, r.dom id = true → look r.H id = some so → up (AL A rs (ancM ms r.i)) r.a r.b id ∧ so.ok (up (AL A rs (ancM ms r.i)) r.a r.b) I) ∧
    ∀ id, id < st.nx → look st.H id = none → r.dom id = true → look r.H id = none
  ok : Ok P (AL A rs L) I ⟨mergeH L st.H rs, nx, []⟩ w
  chg : Chg (fun b => ∃ id, look st.H id ≠ none ∧ (I0.esl id).fp b) w0 w
  new : ∀ id, st.nx ≤ id → look (mergeH L st.H rs) id ≠ none → ∀ b, (I.esl id).fp b → w0.heap.size ≤ b ∨ ∃ k, look st.H k ≠ none ∧ look (mergeH L st.H rs) k = none ∧ (I0.esl k).fp b
  mine : ∀ b, b < w0.heap.size → (∀ r ∈ rs, L r.i = true → ∀ id ∈ r.W, look st.H id ≠ none → ¬ (I0.esl id).fp b) → w.heap[b]? = w0.heap[b]?
theorem Iv.dead {P : Program} {ops : Array Oper} {ms : List Nat} {fr : List SV} {st : St} {A : Nat → Prop} {I0 : In} {w0 : World} {rs : List RR} {nx : Nat} {L : Nat → Bool} {a : Act} {w : World} {I : In} (h : Iv P ops ms fr st A I0 w0 rs nx L a w I) {L' : Nat → Bool} (hL : ∀ k, L' k = true → L k = true) {id : Nat} (hid : id < st.nx) (h0 : look st.H id = none) : look (mergeH L' st.H rs) id = none := by
  cases hl : look (mergeH L' st.H rs) id with
  | none => rfl
  | some so =>
    rcases mergeH_src hl with ⟨r, h1, h2, h3, h4⟩ | h1
    · rw [(h.own r h1 (hL _ h2)).2.2 id hid h0 h3] at h4; cases h4
    · rw [h0] at h1; cases h1
section
variable {P : Program} {call : Caller} {ops : Array Oper} {ms : List Nat} {fr : List SV} {st : St} {A : Nat → Prop} {I0 : In} {w0 : World} {rs : List RR} {nx : Nat} (cx : Cx P call ops ms fr st A I0 w0 rs nx)
include cx
theorem Cx.same {r1 r2 : RR} (h1 : r1 ∈ rs) (h2 : r2 ∈ rs) {x : Nat} (hx : r1.a ≤ x ∧ x < r1.b) (hx' : r2.a ≤ x ∧ x < r2.b) : r1.i = r2.i := by
  rcases Nat.lt_trichotomy r1.i r2.i with h | h | h
  · have := cx.rg.ord r1 h1 r2 h2 h; omega
  · exact h
  · have := cx.rg.ord r2 h2 r1 h1 h; omega
/-- the names of others are none of these -/
theorem Cx.apart {L : Nat → Bool} {r : RR} (hr : r ∈ rs) (hL : L r.i = false) {x : Nat} (hx : AL A rs L x) : ¬ (r.a ≤ x ∧ x < r.b) := fun h => by
  rcases hx with hx | ⟨r', hr', hl, hx⟩
  · have := cx.hok.lt x hx
    have := (cx.rg.rng r hr).2.1
    omega
  · have := cx.same hr hr' h hx
    rw [this, hl] at hL
    cases hL
theorem Cx.lt_a {r : RR} (hr : r ∈ rs) {x : Nat} (hx : AL A rs (ancM ms r.i) x) : x < r.a := by
  have hri := (cx.rg.rng r hr).1
  rcases hx with hx | ⟨r', hr', hl, hx⟩
  · have := cx.hok.lt x hx
    have := (cx.rg.rng r hr).2.1
    omega
  · have h1 := cx.lt r.i r'.i (by rw [← cx.len]; exact hri) hl
    have := cx.rg.ord r' hr' r hr h1
    omega
theorem Cx.anc_AL {r r' : RR} (hr : r ∈ rs) (hr' : r' ∈ rs) (h : ancM ms r.i r'.i = true) {x : Nat} (hx : up (AL A rs (ancM ms r'.i)) r'.a r'.b x) : AL A rs (ancM ms r.i) x := by
  have hri := (cx.rg.rng r hr).1
  rcases hx with (hx | ⟨r2, hr2, hl, hx⟩) | hx
  · exact .inl hx
  · exact .inr ⟨r2, hr2, cx.tr r.i r'.i r2.i (by rw [← cx.len]; exact hri) h hl, hx⟩
  · exact .inr ⟨r', hr', h, hx⟩
/-- the memory of those for whom one waits, less what others write, is held by the world -/
theorem Iv.local {L : Nat → Bool} {a : Act} {w : World} {I : In} (h : Iv P ops ms fr st A I0 w0 rs nx L a w I) {r : RR} (hr : r ∈ rs) (hL : L r.i = false) (hanc : ∀ j, ancM ms r.i j = true → L j = true) (hnot : ∀ k, L k = true → ancM ms k r.i = false) :
    (∀ id so, look (mergeH (ancM ms r.i) st.H rs) id = some so → AL A rs (ancM ms r.i) id ∧ so.ok (AL A rs (ancM ms r.i)) I) ∧
    (∀ id so, look (killL (forb ms r.i rs) (mergeH (ancM ms r.i) st.H rs)) id = some so → look (mergeH L st.H rs) id = some so) ∧
    Ok P (AL A rs (ancM ms r.i)) I ⟨killL (forb ms r.i rs) (mergeH (ancM ms r.i) st.H rs), r.a, []⟩ w := by
  have hagr : Agrees A I0 I := ⟨fun i hi => h.ext i (.inl (cx.hok.lt i hi)), h.val⟩
  have k1 : ∀ id so, look (mergeH (ancM ms r.i) st.H rs) id = some so → AL A rs (ancM ms r.i) id ∧ so.ok (AL A rs (ancM ms r.i)) I := fun id so hl => by
    rcases mergeH_src hl with ⟨r', h1, h2, h3, h4⟩ | h1
    · have := (h.own r' h1 (hanc _ h2)).2.1 id so h3 h4
      exact ⟨cx.anc_AL hr h1 h2 this.1, SO.ok_mono (fun x hx => cx.anc_AL hr h1 h2 hx) this.2⟩
    · have := cx.hok.key id so h1
      exact ⟨.inl this.1, SO.ok_mono (fun x hx => .inl hx) (SO.ok_agr hagr this.2)⟩
  have k2 : ∀ id so, look (killL (forb ms r.i rs) (mergeH (ancM ms r.i) st.H rs)) id = some so → look (mergeH L st.H rs) id = some so := fun id so hl => by
    rw [look_killL] at hl
    split at hl
    · cases hl
    rename_i hnf
    rw [← hl]
    refine mergeH_congr fun r' hr' hne => ?_
    have hl' : L r'.i = true ∧ ancM ms r.i r'.i = false := by
      cases e1 : L r'.i <;> cases e2 : ancM ms r.i r'.i
      · rw [e1, e2] at hne; exact absurd rfl hne
      · rw [hanc _ e2] at e1; cases e1
      · exact ⟨rfl, rfl⟩
      · rw [e1, e2] at hne; exact absurd rfl hne
    rw [← Bool.not_eq_true, RR.dom_iff]
    rintro (hd | hd)
    · refine hnf (mem_forb hr' (fun e => ?_) hl'.2 (hnot _ hl'.1) hd)
      rw [e, hL] at hl'
      cases hl'.1
    · exact cx.apart hr' hl'.2 (k1 id so hl).1 hd
  have k3 : ∀ id so, look (killL (forb ms r.i rs) (mergeH (ancM ms r.i) st.H rs)) id = some so → look (mergeH (ancM ms r.i) st.H rs) id = some so := fun id so hl => by
    rw [look_killL] at hl
    split at hl
    · cases hl
    · exact hl
  have k4 : ∀ id, look (killL (forb ms r.i rs) (mergeH (ancM ms r.i) st.H rs)) id ≠ none → look (mergeH L st.H rs) id ≠ none := fun id hl => by
    obtain ⟨so, hs⟩ := Option.ne_none_iff_exists'.1 hl
    rw [k2 id so hs]
    simp
  exact ⟨k1, k2, ⟨fun i hi => cx.lt_a hr hi, fun id so hl => k1 id so (k3 id so hl), fun id so hl => h.ok.real id so (k2 id so hl), fun id id' h1 h2 he => h.ok.inj id id' (k4 id h1) (k4 id' h2) he, h.ok.val⟩⟩
/-- one more is done -/
theorem Iv.more {L : Nat → Bool} {a : Act} {w : World} {I : In} (h : Iv P ops ms fr st A I0 w0 rs nx L a w I) {r : RR} (hr : r ∈ rs) (hL : L r.i = false) (hanc : ∀ j, ancM ms r.i j = true → L j = true) (hnot : ∀ k, L k = true → ancM ms k r.i = false) (hcl : ∀ k j, L k = true → ancM ms k j = true → L j = true)
    {I' : In} {w' : World} {S : St} (hS : S.nx = r.b) (hW : S.wr = r.W) (hH : ∀ id, r.dom id = true → look S.H id = look r.H id)
    (hm : Mv P (AL A rs (ancM ms r.i)) I ⟨killL (forb ms r.i rs) (mergeH (ancM ms r.i) st.H rs), r.a, []⟩ w I' S w') (hv : r.v.ok (up (AL A rs (ancM ms r.i)) r.a r.b) I') :
    Iv P ops ms fr st A I0 w0 rs nx (fun k => L k || Nat.beq k r.i) (a.put r.ds (r.v.den I')) w' I' := by
  obtain ⟨k1, k2, hloc⟩ := h.local cx hr hL hanc hnot
  have rng := cx.rg.rng r hr
  have hk4 : ∀ id, look (killL (forb ms r.i rs) (mergeH (ancM ms r.i) st.H rs)) id ≠ none → look (mergeH L st.H rs) id ≠ none := fun id hl => by
    obtain ⟨so, hs⟩ := Option.ne_none_iff_exists'.1 hl
    rw [k2 id so hs]
    simp
  have hext : ∀ x, ¬ (r.a ≤ x ∧ x < r.b) → I'.adr x = I.adr x ∧ I'.cap x = I.cap x ∧ I'.esl x = I.esl x := fun x hx => hm.ext x (by simp only [hS]; omega)
  have hagL : Agrees (AL A rs L) I I' := ⟨fun x hx => hext x (cx.apart hr hL hx), hm.val⟩
  have hsub : ∀ k, L k = true → (fun k => L k || Nat.beq k r.i) k = true := fun k hk => by simp [hk]
  have hself : (fun k => L k || Nat.beq k r.i) r.i = true := by simp
  have hup : ∀ x, up (AL A rs (ancM ms r.i)) r.a r.b x → AL A rs (fun k => L k || Nat.beq k r.i) x := fun x hx => by
    rcases hx with hx | hx
    · exact AL_mono (fun k hk => hsub k (hanc k hk)) hx
    · exact .inr ⟨r, hr, hself, hx⟩
  have hokm := hm.ok
  simp only [hS] at hokm
  -- who has been done, and the names of whom
  have howns : ∀ r' ∈ rs, L r'.i = true → ∀ x, up (AL A rs (ancM ms r'.i)) r'.a r'.b x → ¬ (r.a ≤ x ∧ x < r.b) := fun r' hr' hl x hx hxr => by
    rcases hx with hx | hx
    · exact cx.apart hr (hnot _ hl) hx hxr
    · have := cx.same hr hr' hxr hx
      rw [this, hl] at hL
      cases hL
  have hdomL : ∀ r' ∈ rs, L r'.i = true → ∀ id, r'.dom id = true → look r'.H id ≠ none → ¬ (r.a ≤ id ∧ id < r.b) := fun r' hr' hl id hd hn => by
    obtain ⟨so, hs⟩ := Option.ne_none_iff_exists'.1 hn
    exact howns r' hr' hl id ((h.own r' hr' hl).2.1 id so hd hs).1
  -- the memory behind
  have hin : ∀ id, r.dom id = true → look (mergeH (fun k => L k || Nat.beq k r.i) st.H rs) id = look S.H id := fun id hd => by
    rw [hH id hd]
    refine mergeH_at cx.rg.falls hr hself hd fun r' hr' hlt hl' => ?_
    have hl' : L r'.i = true := by
      rw [Bool.or_eq_true, Nat.beq_eq] at hl'
      exact hl'.resolve_right (by omega)
    have hna : ancM ms r.i r'.i = false := by
      rw [← Bool.not_eq_true]
      intro he
      have := cx.lt r.i r'.i (by rw [← cx.len]; exact rng.1) he
      omega
    have sep := cx.sep r hr
    have hord := cx.rg.ord r hr r' hr' hlt
    rw [← Bool.not_eq_true, RR.dom_iff]
    rintro (hd' | hd')
    · have hf : id ∈ forb ms r.i rs := mem_forb hr' (by omega) hna (hnot _ hl') hd'
      rcases RR.dom_iff.1 hd with h1 | h1
      · exact (sep.2 id h1).1 hf
      · exact sep.1 id hf h1
    · rcases RR.dom_iff.1 hd with h1 | h1
      · have := (sep.2 id h1).2; omega
      · omega
  have hout : ∀ id, r.dom id = false → look (mergeH (fun k => L k || Nat.beq k r.i) st.H rs) id = look (mergeH L st.H rs) id := fun id hd =>
    mergeH_congr fun r' hr' hne => by
      by_cases e : r'.i = r.i
      · have hrr : r' = r := cx.rg.falls.uniq r' hr' r hr e
        rw [hrr]
        exact hd
      · rw [beq_f e, Bool.or_false] at hne
        exact absurd rfl hne
  have hdead : ∀ id, look (mergeH L st.H rs) id = none → id < r.a → look (mergeH (fun k => L k || Nat.beq k r.i) st.H rs) id = none := fun id h0 hlt => by
    cases hd : r.dom id
    · rw [hout id hd]; exact h0
    · rw [hin id hd]
      refine hm.dead id hlt ?_
      cases hl : look (killL (forb ms r.i rs) (mergeH (ancM ms r.i) st.H rs)) id with
      | none => rfl
      | some so => rw [k2 id so hl] at h0; cases h0
  -- a block of those that are done, which one has not touched
  have hkeep : ∀ id so, r.dom id = false → look (mergeH L st.H rs) id = some so → AL A rs L id ∧ so.ok (AL A rs L) I ∧ I'.esl id = I.esl id ∧ RealW P I' id so w' := fun id so hd hl => by
    have key := h.ok.key id so hl
    have hesl := (hagL.at_ id key.1).2.2
    refine ⟨key.1, key.2, hesl, ?_⟩
    cases hl' : look (killL (forb ms r.i rs) (mergeH (ancM ms r.i) st.H rs)) id with
    | some so' =>
      have : so' = so := Option.some.inj ((k2 id so' hl').symm.trans hl)
      subst this
      have hlt : id < r.a := hloc.live_lt (by rw [hl']; simp)
      have hnw : id ∉ S.wr := by
        rw [hW]
        intro hw
        rw [← Bool.not_eq_true, RR.dom_iff] at hd
        exact hd (.inl hw)
      have := hm.log id hlt hnw
      exact hm.ok.real id so' (this.trans hl')
    | none =>
      have hr := h.ok.real id so hl
      refine RealW.agr hagL key.1 key.2 (hr.frame fun b hb => hm.chg.block _ (hr.lt b hb) ?_)
      rintro ⟨id2, hn, he⟩
      have := h.ok.inj id2 id (hk4 id2 hn) (by rw [hl]; simp) b he hb
      subst this
      exact hn hl'
  -- two blocks, one of them touched
  have hmix : ∀ id1 id2, r.dom id1 = true → r.dom id2 = false → look S.H id1 ≠ none → look (mergeH L st.H rs) id2 ≠ none → ∀ b, (I'.esl id1).fp b → (I'.esl id2).fp b → id1 = id2 := fun id1 id2 hd1 hd2 hl1 hl2 b hb1 hb2 => by
    obtain ⟨so2, hs2⟩ := Option.ne_none_iff_exists'.1 hl2
    obtain ⟨q1, q2, q3, _⟩ := hkeep id2 so2 hd2 hs2
    cases hl' : look (killL (forb ms r.i rs) (mergeH (ancM ms r.i) st.H rs)) id2 with
    | some so' =>
      have hlt : id2 < r.a := hloc.live_lt (by rw [hl']; simp)
      have hnw : id2 ∉ S.wr := by
        rw [hW]
        intro hw
        rw [← Bool.not_eq_true, RR.dom_iff] at hd2
        exact hd2 (.inl hw)
      exact hm.ok.inj id1 id2 hl1 (by rw [hm.log id2 hlt hnw]; simp only; rw [hl']; simp) b hb1 hb2
    | none =>
      rw [q3] at hb2
      have hlt2 : b < w.heap.size := h.ok.fp_lt hl2 hb2
      rcases Nat.lt_or_ge id1 r.a with hlt | hge
      · have hn1 : look (killL (forb ms r.i rs) (mergeH (ancM ms r.i) st.H rs)) id1 ≠ none := fun h0 => hl1 (hm.dead id1 hlt h0)
        rw [(hext id1 (by omega)).2.2] at hb1
        exact h.ok.inj id1 id2 (hk4 id1 hn1) hl2 b hb1 hb2
      · rcases hm.new id1 hge hl1 b hb1 with hn | ⟨k, hk1, hk2, hk3⟩
        · omega
        · have := h.ok.inj k id2 (hk4 k hk1) hl2 b hk3 hb2
          subst this
          exact absurd hl' hk1
  refine ⟨fun x hx => ?_, hm.val.trans h.val, ?_, fun r' hr' hl' => ?_, ⟨fun x hx => ?_, fun id so hl => ?_, fun id so hl => ?_, fun id id' h1 h2 b hb1 hb2 => ?_, hm.ok.val⟩, h.chg.trans hm.chg fun b hb => ?_, fun id hid hl b hbb => ?_, fun b hb hn => ?_⟩
  · have a1 := hext x (by omega)
    have a2 := h.ext x hx
    exact ⟨a1.1.trans a2.1, a1.2.1.trans a2.2.1, a1.2.2.trans a2.2.2⟩
  · have hokF : okL (AL A rs L) I (mergeF L fr rs) := mergeF_mem (okL_mono (fun x hx => .inl hx) _ (okL_agr ⟨fun i hi => h.ext i (.inl (cx.hok.lt i hi)), h.val⟩ _ cx.hfr)) fun r' hr' hl => ok_mono (fun x hx => by
      rcases hx with hx | hx
      · exact AL_mono (fun k hk => hcl _ k hl hk) hx
      · exact .inr ⟨r', hr', hl, hx⟩) _ (h.own r' hr' hl).1
    rw [mergeF_more cx.rg.falls hr hL (cx.dd r hr)]
    cases hds : r.ds with
    | none => simp only [Act.put, putF, h.tmps, denL_agr hagL _ hokF]
    | some d => simp only [Act.put, putF, h.tmps, denL_set, denL_agr hagL _ hokF, List.setIfInBounds_toArray]
  · by_cases e : r'.i = r.i
    · have hrr : r' = r := cx.rg.falls.uniq r' hr' r hr e
      subst hrr
      refine ⟨hv, fun id so hd hs => ?_, fun id hid h0 hd => ?_⟩
      · rw [← hH id hd] at hs
        exact hokm.key id so hs
      · rw [← hH id hd]
        refine hm.dead id (by simp only; omega) ?_
        simp only [look_killL]
        split
        · rfl
        · exact h.dead hanc hid h0
    · have hl : L r'.i = true := by
        rw [Bool.or_eq_true, Nat.beq_eq] at hl'
        exact hl'.resolve_right e
      have hag : Agrees (up (AL A rs (ancM ms r'.i)) r'.a r'.b) I I' := ⟨fun x hx => hext x (howns r' hr' hl x hx), hm.val⟩
      obtain ⟨o1, o2, o3⟩ := h.own r' hr' hl
      exact ⟨ok_agr hag _ o1, fun id so hd hs => ⟨(o2 id so hd hs).1, SO.ok_agr hag (o2 id so hd hs).2⟩, o3⟩
  · rcases hx with hx | ⟨r', hr', _, hx⟩
    · have := cx.hok.lt x hx
      have := cx.rg.le
      simp only
      omega
    · have := (cx.rg.rng r' hr').2.2.2
      simp only
      omega
  · have hl : look (mergeH (fun k => L k || Nat.beq k r.i) st.H rs) id = some so := hl
    cases hd : r.dom id
    · rw [hout id hd] at hl
      obtain ⟨q1, q2, _⟩ := hkeep id so hd hl
      exact ⟨AL_mono hsub q1, SO.ok_mono (fun x hx => AL_mono hsub hx) (SO.ok_agr hagL q2)⟩
    · rw [hin id hd] at hl
      have := hokm.key id so hl
      exact ⟨hup _ this.1, SO.ok_mono hup this.2⟩
  · have hl : look (mergeH (fun k => L k || Nat.beq k r.i) st.H rs) id = some so := hl
    cases hd : r.dom id
    · rw [hout id hd] at hl
      exact (hkeep id so hd hl).2.2.2
    · rw [hin id hd] at hl
      exact hm.ok.real id so hl
  · have h1 : look (mergeH (fun k => L k || Nat.beq k r.i) st.H rs) id ≠ none := h1
    have h2 : look (mergeH (fun k => L k || Nat.beq k r.i) st.H rs) id' ≠ none := h2
    cases hd1 : r.dom id <;> cases hd2 : r.dom id'
    · rw [hout id hd1] at h1
      rw [hout id' hd2] at h2
      obtain ⟨so1, hs1⟩ := Option.ne_none_iff_exists'.1 h1
      obtain ⟨so2, hs2⟩ := Option.ne_none_iff_exists'.1 h2
      rw [(hkeep id so1 hd1 hs1).2.2.1] at hb1
      rw [(hkeep id' so2 hd2 hs2).2.2.1] at hb2
      exact h.ok.inj id id' h1 h2 b hb1 hb2
    · rw [hout id hd1] at h1
      rw [hin id' hd2] at h2
      exact (hmix id' id hd2 hd1 h2 h1 b hb2 hb1).symm
    · rw [hin id hd1] at h1
      rw [hout id' hd2] at h2
      exact hmix id id' hd1 hd2 h1 h2 b hb1 hb2
    · rw [hin id hd1] at h1
      rw [hin id' hd2] at h2
      exact hm.ok.inj id id' h1 h2 b hb1 hb2
  · rintro ⟨id2, hn, he⟩
    have hl2 := hk4 id2 hn
    rcases Nat.lt_or_ge id2 st.nx with hlt | hge
    · refine ⟨id2, fun h0 => hl2 (h.dead (fun _ h => h) hlt h0), ?_⟩
      rw [← (h.ext id2 (.inl hlt)).2.2]
      exact he
    · rcases h.new id2 hge hl2 b he with hq | ⟨k, hk1, _, hk3⟩
      · omega
      · exact ⟨k, hk1, hk3⟩
  · have hll : look (mergeH (fun k => L k || Nat.beq k r.i) st.H rs) id ≠ none := hl
    have hle := h.chg.size
    have hnxa := rng.2.1
    -- how one that was there is told of
    have was : ∀ k, st.nx ≤ k → look (mergeH L st.H rs) k ≠ none → (I.esl k).fp b → w0.heap.size ≤ b ∨ ∃ k0, look st.H k0 ≠ none ∧ look (mergeH (fun k => L k || Nat.beq k r.i) st.H rs) k0 = none ∧ (I0.esl k0).fp b := fun k hk hlk hkb => by
      rcases h.new k hk hlk b hkb with hq | ⟨k0, q1, q2, q3⟩
      · exact .inl hq
      · exact .inr ⟨k0, q1, hdead k0 q2 (by have := cx.hok.live_lt q1; omega), q3⟩
    cases hd : r.dom id
    · rw [hout id hd] at hll
      obtain ⟨so, hs⟩ := Option.ne_none_iff_exists'.1 hll
      rw [(hkeep id so hd hs).2.2.1] at hbb
      exact was id hid hll hbb
    · rw [hin id hd] at hll
      rcases Nat.lt_or_ge id r.a with hlt | hge
      · have hn1 : look (killL (forb ms r.i rs) (mergeH (ancM ms r.i) st.H rs)) id ≠ none := fun h0 => hll (hm.dead id hlt h0)
        rw [(hext id (by omega)).2.2] at hbb
        exact was id hid (hk4 id hn1) hbb
      · rcases hm.new id hge hll b hbb with hq | ⟨k, hk1, hk2, hk3⟩
        · exact .inl (by omega)
        · have hklt : k < r.a := hloc.live_lt hk1
          have hkd : r.dom k = true := by
            cases hkd : r.dom k
            · exfalso
              have hnw : k ∉ S.wr := by
                rw [hW]
                intro hw
                rw [← Bool.not_eq_true, RR.dom_iff] at hkd
                exact hkd (.inl hw)
              rw [hm.log k hklt hnw] at hk2
              exact hk1 hk2
            · rfl
          rcases Nat.lt_or_ge k st.nx with hks | hks
          · exact .inr ⟨k, fun h0 => hk4 k hk1 (h.dead (fun _ h => h) hks h0), by rw [hin k hkd]; exact hk2, by rw [← (h.ext k (.inl hks)).2.2]; exact hk3⟩
          · exact was k hks (hk4 k hk1) hk3
  · refine (hm.own b (Nat.lt_of_lt_of_le hb h.chg.size) fun id h1 h2 h3 => ?_).trans (h.mine b hb fun r' hr' hl' => hn r' hr' (hsub _ hl'))
    rw [hW] at h1
    have hl2 := hk4 id h2
    rcases Nat.lt_or_ge id st.nx with hlt | hge
    · rw [(h.ext id (.inl hlt)).2.2] at h3
      exact hn r hr hself id h1 (fun h0 => hl2 (h.dead (fun _ h => h) hlt h0)) h3
    · rcases h.new id hge hl2 b h3 with hq | ⟨k, hk1, hk2, hk3⟩
      · omega
      · have hks := cx.hok.live_lt hk1
        refine Classical.byContradiction fun _ => ?_
        have : look (mergeH L st.H rs) k = look (mergeH (fun _ => false) st.H rs) k := mergeH_congr fun r' hr' hne => by
          have hl' : L r'.i = true := by
            cases e : L r'.i
            · rw [e] at hne; exact absurd rfl hne
            · rfl
          rw [← Bool.not_eq_true, RR.dom_iff]
          rintro (hd | hd)
          · exact hn r' hr' (hsub _ hl') k hd hk1 hk3
          · have := (cx.rg.rng r' hr').2.1
            omega
        rw [mergeH_none (L := fun _ => false) fun _ _ => rfl] at this
        rw [this] at hk2
        exact hk1 hk2
end
end Go.E2
/-
  The evaluator: a region that draws its order, whole. No program is named here. No conditions.
-/
namespace Go.E2
open Go.RowKit Go.Al
set_option linter.unusedVariables false
set_option linter.unusedSimpArgs false
set_option linter.unusedSectionVars false
variable [Th] [Facts]

theorem evOp_select {P : Program} {call : Caller} {o : Oper} {fr : List SV} {st : St} {r : OR × St} (h : evOp P call o fr st = some r) : ∀ cs b, o.op ≠ .select cs b := by
  intro cs b ho
  unfold evOp pu hop hop0 hopR at h
  rw [ho] at h
  cases h
section
variable {P : Program} {call : Caller} {ops : Array Oper} {ms : List Nat} {fr : List SV} {st : St} {A : Nat → Prop} {I0 : In} {w0 : World} {rs : List RR} {nx : Nat} (cx : Cx P call ops ms fr st A I0 w0 rs nx)
include cx
theorem Iv.step {L : Nat → Bool} {a : Act} {w : World} {I : In} (h : Iv P ops ms fr st A I0 w0 rs nx L a w I) {i : Nat} {o : Oper} (ho : ops[i]? = some o) (hL : L i = false) (hanc : ∀ j, ancM ms i j = true → L j = true) (hnot : ∀ k, L k = true → ancM ms k i = false) (hcl : ∀ k j, L k = true → ancM ms k j = true → L j = true) {rl : Option Nat} {Q : Exit → Act → World → Prop} :
    wpOpIn (fW rl) 0 P ops Q i (fun a' w' => (∃ I', Iv P ops ms fr st A I0 w0 rs nx (fun k => L k || Nat.beq k i) a' w' I') ∧ a'.defers = a.defers) a w := by
  obtain ⟨r, hr, rfl⟩ := cx.rg.one i (by rw [cx.len]; exact (Array.getElem?_eq_some_iff.1 ho).1)
  obtain ⟨o', ho', hop⟩ := cx.op r hr
  rw [ho] at ho'
  cases ho'
  obtain ⟨k1, k2, hloc⟩ := h.local cx hr hL hanc hnot
  have hagr : Agr (o.looksAt ops) a ⟨(denL I (mergeF (ancM ms r.i) fr rs)).toArray, []⟩ := by
    refine ⟨by rw [h.tmps]; simp [mergeF_length], fun t ht => ?_⟩
    rw [h.tmps]
    simp only [List.getElem?_toArray, denL_get]
    rw [mergeF_congr (L' := ancM ms r.i) fun r' hr' hne hd => ?_]
    have hl' : L r'.i = true ∧ ancM ms r.i r'.i = false := by
      cases e1 : L r'.i <;> cases e2 : ancM ms r.i r'.i
      · rw [e1, e2] at hne; exact absurd rfl hne
      · rw [hanc _ e2] at e1; cases e1
      · exact ⟨rfl, rfl⟩
      · rw [e1, e2] at hne; exact absurd rfl hne
    exact cx.ap r hr r' hr' (fun e => by rw [e, hl'.1] at hL; cases hL) o ho hl'.2 (hnot _ hl'.1) t hd ht
  have hagI : Agrees A I0 I := ⟨fun i hi => h.ext i (.inl (cx.hok.lt i hi)), h.val⟩
  have hF : Fr (AL A rs (ancM ms r.i)) I (mergeF (ancM ms r.i) fr rs) ⟨(denL I (mergeF (ancM ms r.i) fr rs)).toArray, []⟩ :=
    ⟨rfl, mergeF_mem (okL_mono (fun x hx => .inl hx) _ (okL_agr hagI _ cx.hfr)) fun r' hr' hl => ok_mono (fun x hx => cx.anc_AL hr hr' hl hx) _ (h.own r' hr' (hanc _ hl)).1⟩
  have hwant := agr_wanted hagr
  unfold wpOpIn
  rw [ho]
  simp only
  rcases hop.run with ⟨hw, res, S, he, hW, hb, hH, hres⟩ | ⟨hw, hW, hb, hv⟩
  · obtain ⟨S', he', e1, e2, e3⟩ := evOp_kill he (cx.free r hr o ho hw)
    rw [if_pos (hwant.trans (wantS_run h.ok.val hF hw))]
    refine (wpI_agr (val := fun u => u) (G := fun u w' => ∃ I', Mv P (AL A rs (ancM ms r.i)) I ⟨killL (forb ms r.i rs) (mergeH (ancM ms r.i) st.H rs), r.a, []⟩ w I' S' w' ∧ u = r.v.den I' ∧ r.v.ok (up (AL A rs (ancM ms r.i)) r.a r.b) I')
      (evOp_select he) (evOp_defer he) hagr ?_ ?_)
    · refine evOp_run cx.hn cx.hc hloc hF he' fun I' w' hm => ?_
      rcases hres with rfl | ⟨rfl, hv⟩
      · exact fun hok => ⟨_, rfl, ⟨I', hm, rfl, by rw [hb, ← e1]; exact hok⟩⟩
      · exact ⟨_, rfl, ⟨I', hm, by rw [hv]; rfl, by rw [hv]; trivial⟩⟩
    · rintro u w' ⟨I', hm, rfl, hok⟩
      refine ⟨?_, put_defers _ _ _⟩
      rw [← hop.ds]
      refine ⟨I', h.more cx hr hL hanc hnot hcl (e1.trans hb.symm) (e2.trans hW.symm) (fun id hd => ?_) hm hok⟩
      rw [e3 id ?_, hH]
      rcases RR.dom_iff.1 hd with hd | hd
      · exact .inl (by rw [← hW]; exact hd)
      · exact .inr (by rw [← hb]; exact hd)
  · rw [if_neg (by rw [hwant.trans (wantS_run h.ok.val hF hw)]; decide), ← hop.ds]
    refine ⟨fun _ _ => trivial, ?_, put_defers _ _ _⟩
    have hnd : ∀ id, ¬ r.dom id = true := fun id hd => by
      rcases RR.dom_iff.1 hd with hd | hd
      · rw [hW] at hd; cases hd
      · omega
    have := h.more cx hr hL hanc hnot hcl (S := ⟨killL (forb ms r.i rs) (mergeH (ancM ms r.i) st.H rs), r.a, []⟩) hb.symm hW.symm (fun id hd => absurd hd (hnd id)) (Mv.refl hloc) (by rw [hv]; trivial)
    rw [hv] at this
    exact ⟨I, this⟩
end
def backB : List Oper → Nat → Bool
  | [], _ => true
  | o :: l, i => o.after.toList.all (fun e => !Region.binds .any e || Nat.blt e.on i) && backB l (i + 1)
def dstOk : Option Tmp → List Tmp → Bool
  | none, _ => true
  | some d, l => !memN d l
def dstNe : Option Tmp → Option Tmp → Bool
  | some d, some d' => !Nat.beq d d'
  | _, _ => true
def apB (ops : Array Oper) (ms : List Nat) (o : Oper) (i : Nat) : List Oper → Nat → Bool
  | [], _ => true
  | o' :: l, j => cond (Nat.beq i j) true (((ancM ms i j || ancM ms j i) || dstOk o'.dst (o.looksAt ops)) && dstNe o.dst o'.dst) && apB ops ms o i l (j + 1)
def apsB (ops : Array Oper) (ms : List Nat) (all : List Oper) : List Oper → Nat → Bool
  | [], _ => true
  | o :: l, i => apB ops ms o i all 0 && apsB ops ms all l (i + 1)
/-- what is so of a region's text -/
def statB (ops : Array Oper) : Bool := backB ops.toList 0 && apsB ops (masks ops.toList []) ops.toList ops.toList 0
def dyn1 (P : Program) (ops : Array Oper) (ms : List Nat) (fr : List SV) (rs : List RR) (r : RR) : Bool :=
  match ops[r.i]? with
  | some o => (match wantS ops o (mergeF (ancM ms r.i) fr rs) with
      | some true => freeB P o (mergeF (ancM ms r.i) fr rs) (forb ms r.i rs)
      | _ => true) && (forb ms r.i rs).all (fun id => !(Nat.ble r.a id && Nat.blt id r.b)) && r.W.all (fun id => !memN id (forb ms r.i rs) && Nat.blt id r.b)
  | none => false
def lastN (nx : Nat) : List RR → Nat
  | [] => nx
  | r :: _ => r.b
def allW (wr : List Nat) : List RR → List Nat
  | [] => wr
  | r :: rs => r.W ++ allW wr rs
def evDraw (P : Program) (call : Caller) (ops : Array Oper) (fr : List SV) (st : St) : Option (SX × List SV × St) :=
  cond (statB ops) (match evD P call ops (masks ops.toList []) fr st.H ops.toList 0 st.nx [] with
    | some rs => cond (rs.all (dyn1 P ops (masks ops.toList []) fr rs)) (some (.nrm, mergeF (fun _ => true) fr rs, ⟨mergeH (fun _ => true) st.H rs, lastN st.nx rs, allW st.wr rs⟩)) none
    | none => none) none
theorem backB_spec : ∀ {l : List Oper} {i : Nat}, backB l i = true → ∀ k o, l[k]? = some o → ∀ e ∈ o.after, Region.binds .any e = true → e.on < i + k
  | [], i, _, k, o, h, _, _, _ => by cases h
  | o :: l, i, hb, 0, o', h, e, he, hbd => by
    cases h
    unfold backB at hb
    rw [Bool.and_eq_true] at hb
    have := List.all_eq_true.1 hb.1 e (Array.mem_toList_iff.2 he)
    rw [hbd] at this
    rw [Bool.not_true, Bool.false_or] at this
    exact Nat.le_of_ble_eq_true this
  | o :: l, i, hb, k + 1, o', h, e, he, hbd => by
    unfold backB at hb
    rw [Bool.and_eq_true] at hb
    have := backB_spec hb.2 k o' (by simpa using h) e he hbd
    omega
theorem apB_spec {ops : Array Oper} {ms : List Nat} {o : Oper} {i : Nat} : ∀ {l : List Oper} {j : Nat}, apB ops ms o i l j = true → ∀ k o', l[k]? = some o' → i ≠ j + k → ((ancM ms i (j + k) || ancM ms (j + k) i) = true ∨ dstOk o'.dst (o.looksAt ops) = true) ∧ dstNe o.dst o'.dst = true
  | [], j, _, k, o', h, _ => by cases h
  | o1 :: l, j, hb, 0, o', h, hne => by
    cases h
    unfold apB at hb
    rw [Nat.add_zero] at hne ⊢
    rw [Bool.and_eq_true, beq_f hne, cond_false, Bool.and_eq_true, Bool.or_eq_true] at hb
    exact hb.1
  | o1 :: l, j, hb, k + 1, o', h, hne => by
    unfold apB at hb
    rw [Bool.and_eq_true] at hb
    have := apB_spec hb.2 k o' (by simpa using h) (by omega)
    rwa [show j + 1 + k = j + (k + 1) by omega] at this
theorem apsB_spec {ops : Array Oper} {ms : List Nat} {all : List Oper} : ∀ {l : List Oper} {i : Nat}, apsB ops ms all l i = true → ∀ k o, l[k]? = some o → apB ops ms o (i + k) all 0 = true
  | [], i, _, k, o, h => by cases h
  | o1 :: l, i, hb, 0, o, h => by
    cases h
    unfold apsB at hb
    rw [Bool.and_eq_true] at hb
    exact hb.1
  | o1 :: l, i, hb, k + 1, o, h => by
    unfold apsB at hb
    rw [Bool.and_eq_true] at hb
    have := apsB_spec hb.2 k o (by simpa using h)
    rwa [show i + 1 + k = i + (k + 1) by omega] at this
theorem mergeH_same {L L' : Nat → Bool} {H : List (Nat × SO)} : ∀ {rs : List RR}, (∀ r ∈ rs, L r.i = L' r.i) → mergeH L H rs = mergeH L' H rs
  | [], _ => rfl
  | r :: rs, h => by
    unfold mergeH
    rw [mergeH_same fun r' hr => h r' (List.mem_cons_of_mem _ hr), h r (List.mem_cons_self ..)]
theorem mergeF_none {L : Nat → Bool} {fr : List SV} : ∀ {rs : List RR}, (∀ r ∈ rs, L r.i = false) → mergeF L fr rs = fr
  | [], _ => rfl
  | r :: rs, h => by
    unfold mergeF
    rw [h r (List.mem_cons_self ..), cond_false]
    exact mergeF_none fun r' hr => h r' (List.mem_cons_of_mem _ hr)
theorem mem_allW {wr : List Nat} {id : Nat} : ∀ {rs : List RR}, id ∈ allW wr rs ↔ id ∈ wr ∨ ∃ r ∈ rs, id ∈ r.W
  | [] => by simp [allW]
  | r :: rs => by
    rw [allW, List.mem_append, mem_allW]
    constructor
    · rintro (h | h | ⟨r', h1, h2⟩)
      · exact .inr ⟨r, List.mem_cons_self .., h⟩
      · exact .inl h
      · exact .inr ⟨r', List.mem_cons_of_mem _ h1, h2⟩
    · rintro (h | ⟨r', h1, h2⟩)
      · exact .inr (.inl h)
      · rcases List.mem_cons.1 h1 with rfl | h1
        · exact .inl h2
        · exact .inr (.inr ⟨r', h1, h2⟩)
theorem evDraw_run {P : Program} (hm : P.follows .mixedOrders = true) (hn : NameOk P) {call : Caller} (hc : CallOk P call) {ops : Array Oper} {fr : List SV} {st : St} {x : SX} {fr' : List SV} {st' : St} (h : evDraw P call ops fr st = some (x, fr', st'))
    {A : Nat → Prop} {I : In} {w : World} {a : Act} (hok : Ok P A I st w) (hf : Fr A I fr a) (id : Nat) (rl : Option Nat) : (Code.region id ops true).wpIn (fW rl) 0 P (Res0 P A I st w a.defers x fr' st') a w := by
  unfold evDraw at h
  cases hs : statB ops
  · rw [hs] at h; cases h
  rw [hs, cond_true] at h
  split at h
  case h_2 => cases h
  rename_i rs hrs
  cases hd : rs.all (dyn1 P ops (masks ops.toList []) fr rs)
  · rw [hd] at h; cases h
  rw [hd, cond_true] at h
  cases h
  unfold statB at hs
  rw [Bool.and_eq_true] at hs
  have back : ∀ i o, ops.toList[i]? = some o → ∀ e ∈ o.after, Region.binds .any e = true → e.on < i := fun i o ho e he hb => by
    have := backB_spec hs.1 i o ho e he hb
    omega
  have hsz : ops.toList.length = ops.size := Array.length_toList
  have htl : ∀ (i : Nat), ops.toList[i]? = ops[i]? := fun i => Array.getElem?_toList
  have alt := fun i j (hi : i < ops.size) => ancM_lt back i j (by rw [hsz]; exact hi)
  obtain ⟨nx', hsp, hlen⟩ := evD_spec (l := ops.toList) (nx0 := st.nx) hrs rfl rfl rfl
  have hnx : nx' = lastN st.nx rs := by
    cases rs with
    | nil => exact hsp
    | cons r rs => exact hsp.1
  subst hnx
  simp only [List.length_nil, Nat.zero_add, hsz] at hlen
  have rg := hsp.rng
  have hop : ∀ r ∈ rs, ∃ o, ops[r.i]? = some o ∧ OpF P call ops (masks ops.toList []) fr st.H rs o r := fun r hr => by
    obtain ⟨o, ho, h2⟩ := Sp.op (fun i j hi => ancM_lt back i j hi) hsp r hr
    exact ⟨o, by rw [← htl]; exact ho, h2⟩
  have ap2 : ∀ r ∈ rs, ∀ r' ∈ rs, r.i ≠ r'.i → ∀ o, ops[r.i]? = some o → ((ancM (masks ops.toList []) r.i r'.i || ancM (masks ops.toList []) r'.i r.i) = true ∨ dstOk r'.ds (o.looksAt ops) = true) ∧ dstNe r.ds r'.ds = true := fun r hr r' hr' hne o ho => by
    obtain ⟨o2, ho2, h2⟩ := hop r hr
    rw [ho] at ho2
    cases ho2
    obtain ⟨o', ho', h2'⟩ := hop r' hr'
    have a1 := apsB_spec hs.2 r.i o (by rw [htl]; exact ho)
    rw [Nat.zero_add] at a1
    have a2 := apB_spec a1 r'.i o' (by rw [htl]; exact ho') (by omega)
    rw [Nat.zero_add] at a2
    rw [h2.ds, h2'.ds]
    exact a2
  have hdyn : ∀ r ∈ rs, ∀ o, ops[r.i]? = some o → (wantS ops o (mergeF (ancM (masks ops.toList []) r.i) fr rs) = some true → freeB P o (mergeF (ancM (masks ops.toList []) r.i) fr rs) (forb (masks ops.toList []) r.i rs) = true) ∧
      (∀ id ∈ forb (masks ops.toList []) r.i rs, ¬ (r.a ≤ id ∧ id < r.b)) ∧ ∀ id ∈ r.W, id ∉ forb (masks ops.toList []) r.i rs ∧ id < r.b := fun r hr o ho => by
    have := List.all_eq_true.1 hd r hr
    unfold dyn1 at this
    rw [ho] at this
    simp only [Bool.and_eq_true] at this
    obtain ⟨⟨d1, d2⟩, d3⟩ := this
    refine ⟨fun hw => by rw [hw] at d1; exact d1, fun id hid hx => ?_, fun id hid => ?_⟩
    · have := List.all_eq_true.1 d2 id hid
      rw [Bool.not_eq_true', Bool.and_eq_false_iff] at this
      rcases this with h | h
      · rw [← Bool.not_eq_true, Nat.ble_eq] at h; exact h hx.1
      · rw [← Bool.not_eq_true] at h; exact h (by rw [Nat.blt, Nat.ble_eq]; exact hx.2)
    · have := List.all_eq_true.1 d3 id hid
      rw [Bool.and_eq_true, Bool.not_eq_true'] at this
      refine ⟨fun hf => ?_, Nat.le_of_ble_eq_true this.2⟩
      rw [memN_iff.2 hf] at this
      cases this.1
  have cx : Cx P call ops (masks ops.toList []) fr st A I w.drew rs (lastN st.nx rs) := {
    hn := hn
    hc := hc
    hok := hok.same ((Chg.refl _ w).drew)
    hfr := hf.ok
    tr := fun i k j hi => ancM_trans back i k j (by rw [hsz]; exact hi)
    lt := alt
    rg := rg
    len := hlen
    op := hop
    ap := fun r hr r' hr' hne o ho hna hna2 d hds hmem => by
      have := (ap2 r hr r' hr' hne o ho).1
      rw [hna, hna2] at this
      rcases this with h | h
      · cases h
      · rw [hds] at h
        simp only [dstOk] at h
        rw [memN_iff.2 hmem] at h
        cases h
    dd := fun r hr r' hr' hne hd0 he => by
      obtain ⟨o, ho, _⟩ := hop r hr
      have := (ap2 r hr r' hr' (fun e => hne e.symm) o ho).2
      rw [he] at this
      cases hds : r.ds with
      | none => exact hd0 hds
      | some d =>
        rw [hds] at this
        simp only [dstNe, beq_t] at this
        cases this
    free := fun r hr o ho hw => (hdyn r hr o ho).1 hw
    sep := fun r hr => by
      obtain ⟨o, ho, _⟩ := hop r hr
      exact (hdyn r hr o ho).2 }
  refine wpIn_region_any hm ?_
  have hl0 : ∀ k, (Array.replicate ops.size false).getD k false = false := fun k => by
    simp only [Array.getD_eq_getD_getElem?, Array.getElem?_replicate]
    split <;> rfl
  have start : Iv P ops (masks ops.toList []) fr st A I w.drew rs (lastN st.nx rs) (fun k => (Array.replicate ops.size false).getD k false) a w.drew I := by
    have e1 := mergeH_none (L := fun k => (Array.replicate ops.size false).getD k false) (H := st.H) (rs := rs) fun r _ => hl0 r.i
    have e2 := mergeF_none (L := fun k => (Array.replicate ops.size false).getD k false) (fr := fr) (rs := rs) fun r _ => hl0 r.i
    refine ⟨fun _ _ => ⟨rfl, rfl, rfl⟩, rfl, by rw [e2]; exact hf.tmps, fun r hr hl => ?_, ?_, Chg.refl _ _, fun id hid hl _ _ => ?_, fun _ _ _ => rfl⟩
    · have hl := (hl0 r.i).symm.trans hl; cases hl
    · rw [e1]
      have ok := cx.hok
      refine ⟨fun i hi => ?_, fun k o ho => ?_, ok.real, ok.inj, ok.val⟩
      · rcases hi with hi | ⟨r, _, hl, _⟩
        · exact Nat.lt_of_lt_of_le (ok.lt i hi) rg.le
        · have hl := (hl0 r.i).symm.trans hl; cases hl
      · exact ⟨.inl (ok.key k o ho).1, SO.ok_mono (fun i hi => .inl hi) (ok.key k o ho).2⟩
    · rw [e1] at hl
      exact absurd (cx.hok.live_lt hl) (by omega)
  refine wpAny_inv (fun i o ho => back i o (by rw [htl]; exact ho)) (fun L a' w' => (∃ I', Iv P ops (masks ops.toList []) fr st A I w.drew rs (lastN st.nx rs) L a' w' I') ∧ a'.defers = a.defers) ?_ ?_ _ _ _ _ ?_ (by simp) (fun k ok hk => by rw [hl0] at hk; cases hk) ⟨⟨I, start⟩, rfl⟩
  · intro L i o a' w' ho hL hbd hcl hdeps ⟨⟨I', hI⟩, hdf⟩
    have hcl' : ∀ k o, L k = true → ops.toList[k]? = some o → ∀ e ∈ o.after, Region.binds .any e = true → L e.on = true := fun k o hk hko => hcl k o hk (by rw [← htl]; exact hko)
    have hclos : ∀ k j, L k = true → ancM (masks ops.toList []) k j = true → L j = true := fun k j hk hkj => by
      have hkn := hbd k hk
      have hko : ops.toList[k]? = some ops[k] := by rw [htl]; exact Array.getElem?_eq_getElem hkn
      exact ancM_closed back hcl' k j _ hko (hcl' k _ hk hko) hkj
    rw [← hdf]
    exact hI.step cx ho hL (fun j hj => ancM_closed back hcl' i j o (by rw [htl]; exact ho) hdeps hj) (fun k hk => by
      rw [← Bool.not_eq_true]
      intro he
      rw [hclos k i hk he] at hL
      cases hL) hclos
  · intro L a' w' hall ⟨⟨I', hI⟩, hdf⟩
    have hlr : ∀ r ∈ rs, L r.i = true := fun r hr => hall _ (by rw [← hlen]; exact (rg.rng r hr).1)
    have e1 : mergeH L st.H rs = mergeH (fun _ => true) st.H rs := mergeH_same hlr
    have e2 : mergeF L fr rs = mergeF (fun _ => true) fr rs := mergeF_same hlr
    have hiff : ∀ x, AL A rs L x ↔ up A st.nx (lastN st.nx rs) x := fun x => by
      constructor
      · rintro (hx | ⟨r, hr, _, hx⟩)
        · exact .inl hx
        · have := rg.rng r hr
          exact .inr ⟨by omega, by omega⟩
      · rintro (hx | hx)
        · exact .inl hx
        · obtain ⟨r, hr, hx'⟩ := rg.cover x hx.1 hx.2
          exact .inr ⟨r, hr, hlr r hr, hx'⟩
    refine ⟨I', ⟨rg.le, hI.ext, hI.val, (hI.chg).undrew, fun k hk hw => ?_, fun k hk => mem_allW.2 (.inl hk), fun k hk hl b hbb => ?_, fun k hk h0 => ?_, ?_, fun b hb hn => hI.mine b hb fun r hr _ id hid => hn id (mem_allW.2 (.inr ⟨r, hr, hid⟩))⟩, ⟨by rw [← e2]; exact hI.tmps, ?_⟩, rfl, hdf⟩
    · have : look (mergeH (fun _ => true) st.H rs) k = look (mergeH (fun _ => false) st.H rs) k := mergeH_congr fun r hr _ => by
        rw [← Bool.not_eq_true, RR.dom_iff]
        rintro (hd | hd)
        · exact hw (mem_allW.2 (.inr ⟨r, hr, hd⟩))
        · have := (rg.rng r hr).2.1; omega
      exact this.trans (by rw [mergeH_none fun _ _ => rfl])
    · have hl : look (mergeH (fun _ => true) st.H rs) k ≠ none := hl
      rw [← e1] at hl
      rcases hI.new k hk hl b hbb with hq | ⟨k0, q1, q2, q3⟩
      · exact .inl hq
      · exact .inr ⟨k0, q1, by rw [← e1]; exact q2, q3⟩
    · show look (mergeH (fun _ => true) st.H rs) k = none
      rw [← e1]
      exact hI.dead (fun _ h => h) hk h0
    · have := hI.ok
      rw [e1] at this
      have := this.congr hiff
      exact ⟨this.lt, this.key, this.real, this.inj, this.val⟩
    · refine mergeF_mem (okL_mono (fun x hx => .inl hx) _ (okL_agr ⟨fun i hi => hI.ext i (.inl (hok.lt i hi)), hI.val⟩ _ hf.ok)) fun r hr _ => ok_mono (fun x hx => (hiff x).1 ?_) _ (hI.own r hr (hlr r hr)).1
      rcases hx with hx | hx
      · refine AL_mono (fun k hk => hall k ?_) hx
        have := alt r.i k (by rw [← hlen]; exact (rg.rng r hr).1) hk
        have := (rg.rng r hr).1
        omega
      · exact .inr ⟨r, hr, hlr r hr, hx⟩
  · unfold cntU
    rw [List.countP_eq_length.2 fun k _ => by rw [hl0]; rfl, List.length_range]
end Go.E2
/-
  The evaluator: code, functions, calls within calls. No program is named here. No conditions but those that are named.
-/
namespace Go.E2
open Go.RowKit Go.Al
set_option linter.unusedVariables false
set_option linter.unusedSimpArgs false
set_option linter.unusedSectionVars false
variable [Th] [Facts]

/-- so many rounds -/
def Rounds (l : Option Nat) (P : Program) (c : Code) (Q : Exit → Act → World → Prop) : Nat → Act → World → Prop
  | 0, a, w => c.wpIn (fW l) 0 P (Exit.then (fun _ _ => False) Q) a w
  | n + 1, a, w => c.wpIn (fW l) 0 P (Exit.then (Rounds l P c Q n) Q) a w
theorem Rounds.mono {l : Option Nat} {P : Program} {c : Code} {Q Q' : Exit → Act → World → Prop} (h : ∀ e a w, Q e a w → Q' e a w) : ∀ {n : Nat} {a : Act} {w : World}, Rounds l P c Q n a w → Rounds l P c Q' n a w
  | 0, a, w, hr => wpIn_mono hr fun e a w q => by cases e <;> first | exact q.elim | exact h _ _ _ q
  | n + 1, a, w, hr => wpIn_mono hr fun e a w q => by cases e <;> first | exact Rounds.mono h q | exact h _ _ _ q
theorem wpI_rounds {l : Option Nat} {P : Program} {c : Code} {Q : Exit → Act → World → Prop} {n : Nat} {a : Act} {w : World} (h : Rounds l P c Q n a w) : (Code.loop c).wpIn (fW l) 0 P Q a w := by
  have dec : ∀ a w, ∃ m : Nat, (∃ n, Rounds l P c Q n a w) → Rounds l P c Q m a w ∧ ∀ k, Rounds l P c Q k a w → m ≤ k := fun a w => by
    by_cases hex : ∃ n, Rounds l P c Q n a w
    · obtain ⟨n, hn⟩ := hex
      have key : ∀ n, Rounds l P c Q n a w → ∃ m, Rounds l P c Q m a w ∧ ∀ k, Rounds l P c Q k a w → m ≤ k := fun n => by
        induction n using Nat.strongRecOn with
        | _ n ih =>
          intro hn
          by_cases hlt : ∃ k, k < n ∧ Rounds l P c Q k a w
          · obtain ⟨k, hk, hr⟩ := hlt
            exact ih k hk hr
          · exact ⟨n, hn, fun k hk => Nat.not_lt.1 fun hl => hlt ⟨k, hl, hk⟩⟩
      obtain ⟨m, hm⟩ := key n hn
      exact ⟨m, fun _ => hm⟩
    · exact ⟨0, fun h => absurd h hex⟩
  refine wpIn_loop (fun a w => ∃ n, Rounds l P c Q n a w) (fun a w => (dec a w).choose) ⟨n, h⟩ fun a w hI => ?_
  have hm := (dec a w).choose_spec hI
  generalize (dec a w).choose = m at hm
  cases m with
  | zero => exact wpIn_mono hm.1 fun e a w q => by cases e <;> first | exact q.elim | exact q
  | succ m =>
    refine wpIn_mono hm.1 fun e a' w' q => ?_
    cases e <;> first
      | exact ⟨⟨m, q⟩, Nat.lt_succ_of_le (((dec a' w').choose_spec ⟨m, q⟩).2 m q)⟩
      | exact q
/-- the loop in whose round a frame is has its record -/
def rdB (st : St) : Option Nat → Bool
  | none => true
  | some m => match look st.H m with
    | some (.loop _ _ _ _ _ _) => true
    | _ => false
def busyB : LoopState → Bool
  | .busy => true
  | _ => false
def jumpX : Option Code → Option SX
  | none => some .nrm
  | some .ret => some .ret
  | some (.exit id) => some (.exit id)
  | some (.goto l) => some (.goto l)
  | _ => none
/-- code, in so many steps at most -/
def evC (P : Program) (call : Caller) (rd : Option Nat) : Nat → Code → List SV → St → Option (SX × List SV × St)
  | 0, _, _, _ => none
  | n + 1, c, fr, st => match c with
    | .skip => some (.nrm, fr, st)
    | .label _ => some (.nrm, fr, st)
    | .ret => some (.ret, fr, st)
    | .exit id => some (.exit id, fr, st)
    | .seq x y => match evC P call rd n x fr st with
      | some (.nrm, fr', st') => evC P call rd n y fr' st'
      | r => r
    | .cond x y z => match opv fr x with
      | some s => match decS s with
        | some b => evC P call rd n (cond b y z) fr st
        | none => none
      | none => none
    | .block id x => match evC P call rd n x fr st with
      | some (.exit id', fr', st') => cond (Nat.beq id' id) (some (.nrm, fr', st')) (some (.exit id', fr', st'))
      | r => r
    | .loop x => match evC P call rd n x fr st with
      | some (.nrm, fr', st') => evC P call rd n (.loop x) fr' st'
      | r => r
    | .region _ ops draw => match draw with
      | true => evDraw P call ops fr st
      | false => evL P call ops ops.toList fr st
    | .rangeFunc g ps assign body => match opv fr g, rdB st rd with
      | some (.func (.func k) fs cs), true => cond (bodyB P k) (match call (.inl k) (fs ++ [.yld st.nx] ++ cs) ⟨ins st.H st.nx (.loop .ready none fr ps assign body), st.nx + 1, st.wr⟩ with
        | some (.ret _, st1) => match look st1.H st.nx with
          | some (.loop s pend tm ps' as' bd') => match busyB s, jumpX pend with
            | false, some x => some (x, fr, ⟨ins st1.H st.nx (.loop .exhausted pend tm ps' as' bd'), st1.nx, st.nx :: st1.wr⟩)
            | _, _ => none
          | _ => none
        | some (.pan v, st1) => some (.pan v, fr, st1)
        | none => none) none
      | _, _ => none
    | _ => none
/-- no loops over functions -/
def noRF : Code → Bool
  | .seq x y => noRF x && noRF y
  | .cond _ x y => noRF x && noRF y
  | .block _ x => noRF x
  | .loop x => noRF x
  | .rangeFunc _ _ _ _ => false
  | _ => true
/-- the frame is a round's of the loop so named, or a function's -/
def RdOk (A : Nat → Prop) (I : In) (l : Option Nat) : Option Nat → Prop
  | none => l = none
  | some m => A m ∧ l = some (I.adr m)
theorem RdOk.mv {P : Program} {A : Nat → Prop} {I I' : In} {st st' : St} {w w' : World} {l rd : Option Nat} (h : RdOk A I l rd) (hok : Ok P A I st w) (hm : Mv P A I st w I' st' w') : RdOk (up A st.nx st'.nx) I' l rd := by
  cases rd with
  | none => exact h
  | some m => exact ⟨.inl h.1, by rw [(hm.ext m (.inl (hok.lt m h.1))).1]; exact h.2⟩
theorem chg_put {w : World} {l : Nat} {s : Loop} (s' : Loop) (h : w.heap[l]? = some (.loop s)) : Chg (fun b => b = l) w (w.putObj l (.loop s')) where
  os := rfl
  tape := rfl
  output := rfl
  size := by simp
  tys := fun k hk => by
    by_cases e : k = l
    · subst e
      simp [Go.Al.ty, World.shape?, h, World.putObj_heap_same hk]
    · simp [Go.Al.ty, World.shape?, World.putObj_heap_other e]
  block := fun k _ hk => World.putObj_heap_other hk
/-- a loop's record is written -/
theorem Mv.loop_ {P : Program} {A : Nat → Prop} {I : In} {st : St} {w : World} (hok : Ok P A I st w) {m : Nat} {s : LoopState} {pend : Option Code} {tm : List SV} {ps : Array Tmp} {assign body : Code} (hl : look st.H m = some (.loop s pend tm ps assign body)) :
    ∃ r : Loop, w.heap[I.adr m]? = some (.loop r) ∧ r.state = s ∧ r.pending = pend ∧ r.tmps = (denL I tm).toArray ∧ r.params = ps ∧ r.assign = assign ∧ r.body = body ∧
      ∀ s' pend', Mv P A I st w I ⟨ins st.H m (.loop s' pend' tm ps assign body), st.nx, m :: st.wr⟩ (w.putObj (I.adr m) (.loop { r with state := s', pending := pend' })) := by
  obtain ⟨_, ob, h1, d, f, rfl⟩ := hok.real m _ hl
  refine ⟨_, h1, rfl, rfl, rfl, rfl, rfl, rfl, fun s' pend' => ?_⟩
  exact Mv.upd hok hl trivial (chg_put _ h1) (World.putObj_heap_same (Array.getElem?_eq_some_iff.1 h1).1) (hok.key m _ hl).2 ⟨d, f, rfl⟩
/-- a loop over a function begins: its record is laid -/
theorem Mv.begin_ {P : Program} {A : Nat → Prop} {I : In} {st : St} {w : World} (hok : Ok P A I st w) {fr : List SV} {a : Act} (hf : Fr A I fr a) (f : FuncId) (ps : Array Tmp) (assign body : Code) {l rd : Option Nat} (hrd : RdOk A I l rd) (hb : rdB st rd = true) :
    ∃ I1 w1 mark, (Instr.enterLoop f a.tmps ps assign body l).run P w = .ok (I1.adr st.nx, mark) w1 ∧ Mv P A I st w I1 ⟨ins st.H st.nx (.loop .ready none fr ps assign body), st.nx + 1, st.wr⟩ w1 ∧
      MkOk w.heap.size I1 ⟨ins st.H st.nx (.loop .ready none fr ps assign body), st.nx + 1, st.wr⟩ w1 mark := by
  have hso : ∀ n, SO.ok (up A st.nx (st.nx + 1)) (I.put st.nx n 0) (.loop .ready none fr ps assign body) := fun n => okL_mono (fun i hi => .inl hi) _ (okL_agr (In.put_agr hok n 0) _ hf.ok)
  have hden : ∀ n, (denL (I.put st.nx n 0) fr).toArray = a.tmps := fun n => by rw [denL_agr (In.put_agr hok n 0) fr hf.ok, hf.tmps]
  cases rd with
  | none =>
    have hl : l = none := hrd
    subst hl
    have hs1 : Same w (w.alloc (.deferred (some []))) := (Chg.refl _ w).alloc _
    have hok1 := hok.same hs1
    have hm := Mv.alloc (st := st) hok1 (so := .loop .ready none fr ps assign body) (ob := .loop { state := .ready, pending := none, fn := f, tmps := a.tmps, params := ps, assign := assign, body := body, defers := w.heap.size }) 0 (Chg.refl _ _) rfl (hso _) ⟨w.heap.size, f, by rw [hden]⟩
    have he : (I.put st.nx (w.alloc (.deferred (some []))).heap.size 0).adr st.nx = w.heap.size + 1 := by simp [In.put]
    refine ⟨_, _, [{ target := .collected w.heap.size, args := #[] }], (by rw [he]; exact run_enterLoop_outer f a.tmps ps assign body), ?_, ?_⟩
    · exact ⟨hm.nx, hm.ext, hm.val, Chg.of_same hs1 hm.chg, hm.log, hm.wr, fun id hid hl b hb => by
        rcases hm.new id hid hl b hb with h | h
        · exact .inl (Nat.le_trans hs1.size h)
        · exact .inr h, hm.dead, hm.ok, fun b hb hn => (hm.own b (Nat.lt_of_lt_of_le hb hs1.size) hn).trans (hs1.block b hb fun x => x)⟩
    · refine ⟨fun d hd => ?_, by simp⟩
      rw [List.mem_singleton] at hd
      subst hd
      refine ⟨w.heap.size, rfl, Nat.le_refl _, (Below.heap_alloc _ _ _ (by simp)).trans (World.alloc_heap_new w _), fun id hl hb => ?_⟩
      have hl : look (ins st.H st.nx _) id ≠ none := hl
      rw [look_ins] at hl
      by_cases e : st.nx = id
      · subst e
        simp only [In.put, if_true] at hb
        have hb : w.heap.size = (w.alloc (.deferred (some []))).heap.size := hb
        simp at hb
      · rw [if_neg e] at hl
        have : ¬ id = st.nx := fun h => e h.symm
        simp only [In.put, this, if_false] at hb
        exact absurd (hok.fp_lt hl hb) (Nat.lt_irrefl _)
  | some m =>
    obtain ⟨hA, rfl⟩ := hrd
    simp only [rdB] at hb
    split at hb
    · rename_i s pend tm ps' as' bd' hl
      obtain ⟨r, h1, _⟩ := Mv.loop_ hok hl
      have hm := Mv.alloc (st := st) hok (so := .loop .ready none fr ps assign body) (ob := .loop { state := .ready, pending := none, fn := f, tmps := a.tmps, params := ps, assign := assign, body := body, defers := r.defers }) 0 (Chg.refl _ _) rfl (hso _) ⟨r.defers, f, by rw [hden]⟩
      refine ⟨_, _, [], ?_, hm, MkOk.nil _ _ _ _⟩
      unfold Instr.enterLoop
      simp only [Sem.run_bind, run_getLoop h1, run_newObj_alloc, Result.andThen, Sem.run_pure]
      simp [In.put]
    · cases hb
section
variable {P : Program} (hm : P.follows .mixedOrders = true) (hn : NameOk P) {call : Caller} (hc : CallOk P call) {rd : Option Nat}
include hm hn hc
theorem evC_run0 : ∀ (n : Nat) (c : Code) (fr : List SV) (st : St) (x : SX) (fr' : List SV) (st' : St), noRF c = true → evC P call rd n c fr st = some (x, fr', st') →
    (∀ A I w a l, Ok P A I st w → Fr A I fr a → RdOk A I l rd → c.wpIn (fW l) 0 P (Res0 P A I st w a.defers x fr' st') a w) ∧
    ∀ d, c = .loop d → ∃ k, ∀ A I w a l, Ok P A I st w → Fr A I fr a → RdOk A I l rd → Rounds l P d (Res0 P A I st w a.defers x fr' st') k a w
  | 0, c, fr, st, x, fr', st', _, h => by cases h
  | n + 1, c, fr, st, x, fr', st', hrf, h => by
    have ih := evC_run0 n
    have tr : ∀ {A : Nat → Prop} {I I1 : In} {st st1 : St} {w w1 : World} {D : List Deferred} {a1 : Act} {x : SX} {fr' : List SV} {st' : St}, Ok P A I st w → Mv P A I st w I1 st1 w1 → a1.defers = D → ∀ e a w', Res0 P (up A st.nx st1.nx) I1 st1 w1 a1.defers x fr' st' e a w' → Res0 P A I st w D x fr' st' e a w' := fun hok hm1 h1 e a w' r => by
      rw [h1] at r
      exact r.trans hok hm1
    have loop : ∀ d, c = .loop d → ∃ k, ∀ A I w a l, Ok P A I st w → Fr A I fr a → RdOk A I l rd → Rounds l P d (Res0 P A I st w a.defers x fr' st') k a w := fun d hd => by
      subst hd
      have hrd : noRF d = true := hrf
      have h : (match evC P call rd n d fr st with
        | some (.nrm, fr', st') => evC P call rd n (.loop d) fr' st'
        | r => r) = some (x, fr', st') := h
      split at h
      · rename_i fr1 st1 h1
        obtain ⟨k, hk⟩ := (ih _ _ _ _ _ _ hrf h).2 d rfl
        refine ⟨k + 1, fun A I w a l hok hf hr => ?_⟩
        refine wpIn_mono ((ih _ _ _ _ _ _ hrd h1).1 A I w a l hok hf hr) fun e a1 w1 r => ?_
        obtain ⟨I1, hm1, hf1, rfl, hD⟩ := r
        exact Rounds.mono (tr hok hm1 hD) (hk _ _ _ _ _ hm1.ok hf1 (hr.mv hok hm1))
      · rename_i hne
        refine ⟨0, fun A I w a l hok hf hr => ?_⟩
        refine wpIn_mono ((ih _ _ _ _ _ _ hrd h).1 A I w a l hok hf hr) fun e a1 w1 r => ?_
        have hx : x ≠ .nrm := fun e => by
          subst e
          exact hne _ _ h
        have hr := r
        obtain ⟨I1, hm1, hf1, hx1, hD⟩ := r
        cases x with
        | nrm => exact absurd rfl hx
        | exit id => cases hx1; exact hr
        | goto l => cases hx1; exact hr
        | ret => cases hx1; exact hr
        | pan v => obtain ⟨rfl, _⟩ := hx1; exact hr
    refine ⟨fun A I w a l hok hf hrd => ?_, loop⟩
    have here : ∀ {x : SX} {e : Exit}, x.is (up A st.nx st.nx) I e → Res0 P A I st w a.defers x fr st e a w := fun hx =>
      ⟨I, Mv.refl hok, hf.mono fun i hi => .inl hi, hx, rfl⟩
    have h0 := h
    unfold evC at h
    split at h
    · cases h; exact wpIn_skip (here rfl)
    · cases h; exact wpIn_label (here rfl)
    · cases h; exact wpIn_ret (here rfl)
    · cases h; exact wpIn_exit (here rfl)
    · rename_i y z
      have hr2 : (noRF y && noRF z) = true := hrf
      rw [Bool.and_eq_true] at hr2
      split at h
      · rename_i fr1 st1 h1
        refine wpIn_seq (wpIn_mono ((ih _ _ _ _ _ _ hr2.1 h1).1 A I w a l hok hf hrd) fun e a1 w1 r => ?_)
        obtain ⟨I1, hm1, hf1, rfl, hD⟩ := r
        exact wpIn_mono ((ih _ _ _ _ _ _ hr2.2 h).1 _ _ _ _ _ hm1.ok hf1 (hrd.mv hok hm1)) (tr hok hm1 hD)
      · rename_i hne
        refine wpIn_seq (wpIn_mono ((ih _ _ _ _ _ _ hr2.1 h).1 A I w a l hok hf hrd) fun e a1 w1 r => ?_)
        have hr := r
        obtain ⟨I1, hm1, hf1, hx1, hD⟩ := r
        cases x with
        | nrm => exact absurd h (hne _ _)
        | exit id => cases hx1; exact hr
        | goto l => cases hx1; exact hr
        | ret => cases hx1; exact hr
        | pan v => obtain ⟨rfl, _⟩ := hx1; exact hr
    · rename_i y z u
      have hr2 : (noRF z && noRF u) = true := hrf
      rw [Bool.and_eq_true] at hr2
      split at h
      · rename_i s hs
        split at h
        · rename_i b hb
          have hd := (opv_den hf hs).1.trans (decS_den hok.val hb)
          refine wpIn_cond hd ?_
          have := (ih _ _ _ _ _ _ (by cases b <;> first | exact hr2.1 | exact hr2.2) h).1 A I w a l hok hf hrd
          cases b <;> exact this
        · cases h
      · cases h
    · rename_i id y
      have hry : noRF y = true := hrf
      refine wpIn_block ?_
      split at h
      · rename_i id' fr1 st1 h1
        refine wpIn_mono ((ih _ _ _ _ _ _ hry h1).1 A I w a l hok hf hrd) fun e a1 w1 r => ?_
        obtain ⟨I1, hm1, hf1, rfl, hD⟩ := r
        rw [beq_cond] at h
        split at h
        · rename_i he
          cases h
          simp only [Exit.inBlock, he, if_true]
          exact ⟨I1, hm1, hf1, rfl, hD⟩
        · rename_i he
          cases h
          simp only [Exit.inBlock, he, if_false]
          exact ⟨I1, hm1, hf1, rfl, hD⟩
      · rename_i hne
        refine wpIn_mono ((ih _ _ _ _ _ _ hry h).1 A I w a l hok hf hrd) fun e a1 w1 r => ?_
        have hr := r
        obtain ⟨I1, hm1, hf1, hx1, hD⟩ := r
        cases x with
        | nrm => cases hx1; exact hr
        | exit id => exact absurd h (hne _ _ _)
        | goto l => cases hx1; exact hr
        | ret => cases hx1; exact hr
        | pan v => obtain ⟨rfl, _⟩ := hx1; exact hr
    · rename_i y
      obtain ⟨k, hk⟩ := loop y rfl
      exact wpI_rounds (hk A I w a l hok hf hrd)
    · rename_i id ops draw
      split at h
      · exact wpIn_mono (evDraw_run hm hn hc h hok hf id l) fun _ _ _ r => r
      · exact wpIn_mono (wpIn_region_list (evL_run hn hc h hok hf)) fun _ _ _ r => r
    · cases hrf
    · cases h
theorem evC_run : ∀ (n : Nat) (c : Code) (fr : List SV) (st : St) (x : SX) (fr' : List SV) (st' : St), evC P call rd n c fr st = some (x, fr', st') →
    (∀ A I w a l, Ok P A I st w → Fr A I fr a → RdOk A I l rd → c.wpIn (fW l) 0 P (Res P A I st w a.defers x fr' st') a w) ∧
    ∀ d, c = .loop d → ∃ k, ∀ A I w a l, Ok P A I st w → Fr A I fr a → RdOk A I l rd → Rounds l P d (Res P A I st w a.defers x fr' st') k a w
  | 0, c, fr, st, x, fr', st', h => by cases h
  | n + 1, c, fr, st, x, fr', st', h => by
    have ih := evC_run n
    have tr : ∀ {A : Nat → Prop} {I I1 : In} {st st1 : St} {w w1 : World} {D : List Deferred} {a1 : Act} {x : SX} {fr' : List SV} {st' : St}, Ok P A I st w → Mv P A I st w I1 st1 w1 → (∃ D', a1.defers = D' ++ D ∧ MkOk w.heap.size I1 st1 w1 D') → ∀ e a w', Res P (up A st.nx st1.nx) I1 st1 w1 a1.defers x fr' st' e a w' → Res P A I st w D x fr' st' e a w' := fun hok hm1 ⟨D', h1, h2⟩ e a w' r => by
      rw [h1] at r
      exact r.trans hok hm1 h2
    have loop : ∀ d, c = .loop d → ∃ k, ∀ A I w a l, Ok P A I st w → Fr A I fr a → RdOk A I l rd → Rounds l P d (Res P A I st w a.defers x fr' st') k a w := fun d hd => by
      subst hd
      have h : (match evC P call rd n d fr st with
        | some (.nrm, fr', st') => evC P call rd n (.loop d) fr' st'
        | r => r) = some (x, fr', st') := h
      split at h
      · rename_i fr1 st1 h1
        obtain ⟨k, hk⟩ := (ih _ _ _ _ _ _ h).2 d rfl
        refine ⟨k + 1, fun A I w a l hok hf hr => ?_⟩
        refine wpIn_mono ((ih _ _ _ _ _ _ h1).1 A I w a l hok hf hr) fun e a1 w1 r => ?_
        obtain ⟨I1, hm1, hf1, rfl, hD⟩ := r
        exact Rounds.mono (tr hok hm1 hD) (hk _ _ _ _ _ hm1.ok hf1 (hr.mv hok hm1))
      · rename_i hne
        refine ⟨0, fun A I w a l hok hf hr => ?_⟩
        refine wpIn_mono ((ih _ _ _ _ _ _ h).1 A I w a l hok hf hr) fun e a1 w1 r => ?_
        have hx : x ≠ .nrm := fun e => by
          subst e
          exact hne _ _ h
        have hr := r
        obtain ⟨I1, hm1, hf1, hx1, hD⟩ := r
        cases x with
        | nrm => exact absurd rfl hx
        | exit id => cases hx1; exact hr
        | goto l => cases hx1; exact hr
        | ret => cases hx1; exact hr
        | pan v => obtain ⟨rfl, _⟩ := hx1; exact hr
    refine ⟨fun A I w a l hok hf hrd => ?_, loop⟩
    have here : ∀ {x : SX} {e : Exit}, x.is (up A st.nx st.nx) I e → Res P A I st w a.defers x fr st e a w := fun hx =>
      ⟨I, Mv.refl hok, hf.mono fun i hi => .inl hi, hx, [], rfl, MkOk.nil _ _ _ _⟩
    have h0 := h
    unfold evC at h
    split at h
    · cases h; exact wpIn_skip (here rfl)
    · cases h; exact wpIn_label (here rfl)
    · cases h; exact wpIn_ret (here rfl)
    · cases h; exact wpIn_exit (here rfl)
    · rename_i y z
      split at h
      · rename_i fr1 st1 h1
        refine wpIn_seq (wpIn_mono ((ih _ _ _ _ _ _ h1).1 A I w a l hok hf hrd) fun e a1 w1 r => ?_)
        obtain ⟨I1, hm1, hf1, rfl, hD⟩ := r
        exact wpIn_mono ((ih _ _ _ _ _ _ h).1 _ _ _ _ _ hm1.ok hf1 (hrd.mv hok hm1)) (tr hok hm1 hD)
      · rename_i hne
        refine wpIn_seq (wpIn_mono ((ih _ _ _ _ _ _ h).1 A I w a l hok hf hrd) fun e a1 w1 r => ?_)
        have hr := r
        obtain ⟨I1, hm1, hf1, hx1, hD⟩ := r
        cases x with
        | nrm => exact absurd h (hne _ _)
        | exit id => cases hx1; exact hr
        | goto l => cases hx1; exact hr
        | ret => cases hx1; exact hr
        | pan v => obtain ⟨rfl, _⟩ := hx1; exact hr
    · rename_i y z u
      split at h
      · rename_i s hs
        split at h
        · rename_i b hb
          have hd := (opv_den hf hs).1.trans (decS_den hok.val hb)
          refine wpIn_cond hd ?_
          have := (ih _ _ _ _ _ _ h).1 A I w a l hok hf hrd
          cases b <;> exact this
        · cases h
      · cases h
    · rename_i id y
      refine wpIn_block ?_
      split at h
      · rename_i id' fr1 st1 h1
        refine wpIn_mono ((ih _ _ _ _ _ _ h1).1 A I w a l hok hf hrd) fun e a1 w1 r => ?_
        obtain ⟨I1, hm1, hf1, rfl, hD⟩ := r
        rw [beq_cond] at h
        split at h
        · rename_i he
          cases h
          simp only [Exit.inBlock, he, if_true]
          exact ⟨I1, hm1, hf1, rfl, hD⟩
        · rename_i he
          cases h
          simp only [Exit.inBlock, he, if_false]
          exact ⟨I1, hm1, hf1, rfl, hD⟩
      · rename_i hne
        refine wpIn_mono ((ih _ _ _ _ _ _ h).1 A I w a l hok hf hrd) fun e a1 w1 r => ?_
        have hr := r
        obtain ⟨I1, hm1, hf1, hx1, hD⟩ := r
        cases x with
        | nrm => cases hx1; exact hr
        | exit id => exact absurd h (hne _ _ _)
        | goto l => cases hx1; exact hr
        | ret => cases hx1; exact hr
        | pan v => obtain ⟨rfl, _⟩ := hx1; exact hr
    · rename_i y
      obtain ⟨k, hk⟩ := loop y rfl
      exact wpI_rounds (hk A I w a l hok hf hrd)
    · rename_i id ops draw
      split at h
      · exact wpIn_mono (evDraw_run hm hn hc h hok hf id l) fun _ _ _ r => r.to
      · exact wpIn_mono (wpIn_region_list (evL_run hn hc h hok hf)) fun _ _ _ r => r.to
    · rename_i g ps assign body
      split at h
      case h_2 => cases h
      rename_i k fs cs hg hrb
      cases hbk : bodyB P k
      · rw [hbk] at h; cases h
      rw [hbk, cond_true] at h
      have dg := opv_den hf hg
      refine wpIn_rangeFunc fun f _ => ?_
      obtain ⟨I1, w1, mark, h1, hm1, hD1⟩ := Mv.begin_ hok hf f ps assign body hrd hrb
      have hag := hm1.agr hok
      have hy : okL (up A st.nx (st.nx + 1)) I1 [.yld st.nx] := ⟨up_succ _, trivial⟩
      have hargs : okL (up A st.nx (st.nx + 1)) I1 (fs ++ [.yld st.nx] ++ cs) :=
        ((okL_mono (fun i hi => .inl hi) _ (okL_agr hag _ dg.2.1)).append hy).append (okL_mono (fun i hi => .inl hi) _ (okL_agr hag _ dg.2.2))
      have hden : (denL I1 (fs ++ [.yld st.nx] ++ cs)).toArray = (denL I fs).toArray ++ #[.func (.yield (I1.adr st.nx)) #[] #[]] ++ (denL I cs).toArray := by
        rw [denL_append, denL_append, denL_agr hag fs dg.2.1, denL_agr hag cs dg.2.2]
        simp [denL, SV.den]
      have hres : (resolve a.eval (rangeCall g (I1.adr st.nx)) 0).run P w1 = .ok { target := .fn (.func k) (denL I cs).toArray, args := (denL I fs).toArray ++ #[.func (.yield (I1.adr st.nx)) #[] #[]] } w1 := by
        have ec : a.eval (.const (.func (.yield (I1.adr st.nx)) #[] #[])) = .func (.yield (I1.adr st.nx)) #[] #[] := rfl
        simp [resolve, dg.1, SV.den, Deferred.ofValue, ec]
      refine ⟨I1.adr st.nx, mark, w1, _, w1, k, (denL I1 (fs ++ [.yld st.nx] ++ cs)).toArray, w1, h1, hres, fun _ _ => trivial, ?_, fun h => (by cases h), ?_⟩
      · rw [hden]
        simp only [invoke]
        exact callFunc_enter hn hbk _ w1
      · have fin : ∀ e w3, (∃ (r1 : SR) (st1 : St), call (.inl k) (fs ++ [.yld st.nx] ++ cs) ⟨ins st.H st.nx (.loop .ready none fr ps assign body), st.nx + 1, st.wr⟩ = some (r1, st1) ∧ ∃ I2, Mv P (up A st.nx (st.nx + 1)) I1 ⟨ins st.H st.nx (.loop .ready none fr ps assign body), st.nx + 1, st.wr⟩ w1 I2 st1 w3 ∧ r1.is (up (up A st.nx (st.nx + 1)) (st.nx + 1) st1.nx) I2 e) →
            rangePost (fW l) 0 P (I1.adr st.nx) (Res P A I st w a.defers x fr' st') { a with defers := mark ++ a.defers } e w3 := fun e w3 ⟨r1, st1, hcall, I2, hm2, hr2⟩ => by
          rw [hcall] at h
          have hm12 := Mv.trans hok hm1 hm2
          have hadr : I2.adr st.nx = I1.adr st.nx := (hm2.ext st.nx (.inl (Nat.lt_succ_self _))).1
          have hfr : ∀ {I' : In} {st' : St} {w' : World}, Mv P A I st w I' st' w' → Fr (up A st.nx st'.nx) I' fr { a with defers := mark ++ a.defers } := fun hmv =>
            ⟨(hf.agr (hmv.agr hok)).tmps, okL_mono (fun i hi => .inl hi) _ (okL_agr (hmv.agr hok) _ hf.ok)⟩
          cases r1 with
          | pan v =>
            cases h
            obtain ⟨rfl, hv⟩ := hr2
            exact ⟨I2, hm12, hfr hm12, ⟨rfl, ok_mono (up_up hm1.nx hm2.nx) v hv⟩, mark, rfl, hD1.mv hm1.ok hm2⟩
          | ret v =>
            obtain ⟨rfl, hv⟩ := hr2
            simp only at h
            split at h
            case h_2 => cases h
            rename_i s pend tm ps' as' bd' hlk
            split at h
            case h_2 => cases h
            rename_i x1 hbz hj
            cases h
            obtain ⟨r, k1, k2, k3, k4, k5, k6, k7, k8⟩ := Mv.loop_ hm12.ok hlk
            subst k3
            have hm3 := k8 .exhausted r.pending
            have hm13 := Mv.trans hok hm12 hm3
            have hD3 := (hD1.mv hm1.ok hm2).mv hm12.ok hm3
            have hend := run_endLoop (P := P) k1 (by
              rw [k2]
              intro he
              rw [he] at hbz
              cases hbz)
            rw [hadr] at hend
            have hw : w3.putObj (I2.adr st.nx) (.loop { r with state := .exhausted, pending := r.pending }) = w3.putObj (I1.adr st.nx) (.loop { r with state := .exhausted }) := by rw [hadr]
            rw [hw] at hm13 hD3
            refine ⟨r.pending, _, hend, ?_⟩
            generalize r.pending = pd at *
            have res : ∀ {e : Exit}, x.is (up A st.nx st1.nx) I2 e → Res P A I st w a.defers x fr ⟨ins st1.H st.nx (.loop .exhausted pd tm ps' as' bd'), st1.nx, st.nx :: st1.wr⟩ e { a with defers := mark ++ a.defers } _ := fun hx => ⟨I2, hm13, hfr hm13, hx, mark, rfl, hD3⟩
            unfold jumpX at hj
            split at hj
            · cases hj; exact res rfl
            · cases hj; exact wpIn_ret (res rfl)
            · cases hj; exact wpIn_exit (res rfl)
            · cases hj; exact wpIn_goto (res rfl)
            · cases hj
        have some1 : ∃ r1 st1, call (.inl k) (fs ++ [.yld st.nx] ++ cs) ⟨ins st.H st.nx (.loop .ready none fr ps assign body), st.nx + 1, st.wr⟩ = some (r1, st1) := by
          split at h
          · exact ⟨_, _, by assumption⟩
          · exact ⟨_, _, by assumption⟩
          · cases h
        obtain ⟨r1, st1, hc1⟩ := some1
        have := (callsIn_wide (n := 0)).2 (hc.1 k _ _ _ _ hc1 _ I1 w1 hm1.ok hargs)
        exact CallsIn.mono (show CallsIn (fW l) 0 P k _ w1 _ from this) fun e w' h2 => fin e w' ⟨r1, st1, hc1, h2⟩
    · cases h
end
/-- the results of a function -/
def resS (P : Program) (st : St) (fr : List SV) : List ResultVar → Option (List SV)
  | [] => some []
  | .tmp t :: l => match resS P st fr l with
    | some m => some (nth fr t :: m)
    | none => none
  | .cell a t :: l => match loadS P st t (nth fr a), resS P st fr l with
    | some v, some m => some (v :: m)
    | _, _ => none
def tupS : List SV → SV
  | [v] => v
  | l => .tup l
theorem nth_den {A : Nat → Prop} {I : In} {fr : List SV} (h : okL A I fr) (t : Nat) : (denL I fr).toArray.getD t undef = (nth fr t).den I ∧ (nth fr t).ok A I := by
  rw [nth_get]
  simp only [Array.getD_eq_getD_getElem?, List.getElem?_toArray, denL_get]
  cases ht : fr[t]? with
  | none => exact ⟨rfl, trivial⟩
  | some v => exact ⟨rfl, h.get ht⟩
theorem resS_run {P : Program} {A : Nat → Prop} {I : In} {st : St} {w : World} (hok : Ok P A I st w) {fr : List SV} (hf : okL A I fr) {f : ResultVar → Sem Value} (f1 : ∀ t, f (.tmp t) = pure ((denL I fr).toArray.getD t undef)) (f2 : ∀ a t, f (.cell a t) = do loadVar t (← asAddr ((denL I fr).toArray.getD a undef))) :
    ∀ {l : List ResultVar} {r : List SV}, resS P st fr l = some r → (l.mapM f).run P w = .ok (denL I r) w ∧ okL A I r
  | [], r, h => by cases h; exact ⟨by simp [denL], trivial⟩
  | .tmp t :: l, r, h => by
    unfold resS at h
    split at h
    · rename_i m hm
      cases h
      have ih := resS_run hok hf f1 f2 hm
      have d := nth_den hf t
      refine ⟨?_, d.2, ih.2⟩
      rw [List.mapM_cons, Sem.run_bind, f1]
      simp only [Sem.run_pure, Result.andThen_ok, Sem.run_bind, ih.1, d.1, denL]
    · cases h
  | .cell a t :: l, r, h => by
    unfold resS at h
    split at h
    · rename_i v m hv hm
      cases h
      have ih := resS_run hok hf f1 f2 hm
      have d := nth_den hf a
      have ld := loadS_run hok hv
      refine ⟨?_, ld.2, ih.2⟩
      rw [List.mapM_cons, Sem.run_bind, f2, d.1]
      have hl : (do loadVar t (← asAddr ((nth fr a).den I)) : Sem Value).run P w = .ok (v.den I) w := by
        have h1 := ld.1
        cases hx : nth fr a <;> (rw [hx] at hv; try (cases hv; done))
        rename_i p
        cases p with
        | none => cases hv
        | some q =>
          rw [hx] at h1
          simpa [Instr.loadAt, Instr.sureAddr, SV.den, asAddr] using h1
      simp only [hl, Result.andThen_ok, Sem.run_bind, ih.1, Sem.run_pure, denL]
    · cases h
theorem results_run {P : Program} {A : Nat → Prop} {I : In} {st : St} {w : World} (hok : Ok P A I st w) {fr : List SV} (hf : okL A I fr) {fn : Func} {r : List SV} (h : resS P st fr fn.results.toList = some r) : (results fn (denL I fr).toArray).run P w = .ok ((tupS r).den I) w ∧ (tupS r).ok A I := by
  constructor
  · unfold results
    rw [Sem.run_bind, Array.mapM_eq_mapM_toList, Sem.run_map, (resS_run hok hf (fun _ => rfl) (fun _ _ => rfl) h).1]
    simp only [Result.andThen_ok, Sem.run_pure]
    match r with
    | [] => simp [tupS, SV.den, denL]
    | [v] => simp [tupS, denL]
    | v :: u :: l => simp [tupS, SV.den, denL]
  · have := (resS_run (f := fun x => match x with
      | .tmp t => pure ((denL I fr).toArray.getD t undef)
      | .cell a t => do loadVar t (← asAddr ((denL I fr).toArray.getD a undef))) hok hf (fun _ => rfl) (fun _ _ => rfl) h).2
    match r, this with
    | [], h => exact h
    | [v], h => exact h.1
    | v :: u :: l, h => exact h
/-- a function's body -/
def evF (P : Program) (call : Caller) (fuel : Nat) (f : FuncId) (args : List SV) (st : St) : Option (SR × St) :=
  match P.funcs[f]? with
  | some fn => match fn.body with
    | some c => match evC P call none fuel c (args ++ List.replicate (fn.ntmps - args.length) (.tup [])) st with
      | some (.nrm, fr', st') => match resS P st' fr' fn.results.toList with
        | some r => some (.ret (tupS r), st')
        | none => none
      | some (.ret, fr', st') => match resS P st' fr' fn.results.toList with
        | some r => some (.ret (tupS r), st')
        | none => none
      | some (.pan v, fr', st') => some (.pan v, st')
      | _ => none
    | none => none
  | none => none
/-- nobody's block is written -/
theorem Mv.free {P : Program} {A : Nat → Prop} {I I' : In} {st st' : St} {w w' : World} (hm : Mv P A I st w I' st' w') {r : Nat} (hr : w.heap.size ≤ r) (hn : ∀ id, look st'.H id ≠ none → ¬ (I'.esl id).fp r) (o : Obj) : Mv P A I st w I' st' (w'.putObj r o) where
  nx := hm.nx
  ext := hm.ext
  val := hm.val
  chg := by
    have hne : ∀ k, k < w.heap.size → (w'.putObj r o).heap[k]? = w'.heap[k]? := fun k hk => World.putObj_heap_other (by omega)
    refine ⟨hm.chg.os, hm.chg.tape, hm.chg.output, by simpa using hm.chg.size, fun k hk => ?_, fun k hk h => (hne k hk).trans (hm.chg.block k hk h)⟩
    rw [← hm.chg.tys k hk]
    exact ty_of_heap (hne k hk)
  log := hm.log
  wr := hm.wr
  new := hm.new
  dead := hm.dead
  ok := ⟨hm.ok.lt, hm.ok.key, fun id so hl => (hm.ok.real id so hl).frame fun b hb => World.putObj_heap_other fun e => hn id (by rw [hl]; simp) (e ▸ hb), hm.ok.inj, hm.ok.val⟩
  own := fun b hb hn' => (World.putObj_heap_other (by omega)).trans (hm.own b hb hn')
/-- a function that holds loops over functions leaves -/
theorem leaves_marks {P : Program} {fn : Func} {tmps : Array Value} {R : Ending → World → Prop} {A : Nat → Prop} {I I' : In} {st st' : St} {w : World} {u : FrameMode} (hu : u ≠ .run) (base : ∀ w', Mv P A I st w I' st' w' → LeavesIn (fW none) 0 P fn tmps R [] u w') :
    ∀ (D : List Deferred) (w' : World), MkOk w.heap.size I' st' w' D → Mv P A I st w I' st' w' → LeavesInM (fW none) 0 P fn tmps R D u w'
  | [], w', _, hm => base w' hm
  | d :: ds, w', hD, hm => by
    obtain ⟨r, rfl, h2, h3, h4⟩ := hD.all d (List.mem_cons_self ..)
    have hnd := List.nodup_cons.1 hD.nd
    refine ⟨hu, .inl ⟨r, _, rfl, run_takeDeferred h3, leaves_marks hu base ds _ ⟨fun d' hd' => ?_, hnd.2⟩ (hm.free h2 h4 _)⟩⟩
    obtain ⟨r', k1, k2, k3, k4⟩ := hD.all d' (List.mem_cons_of_mem _ hd')
    refine ⟨r', k1, k2, ?_, k4⟩
    rw [World.putObj_heap_other]
    · exact k3
    · intro e
      subst e
      exact hnd.1 (k1 ▸ hd')
theorem evF_run {P : Program} (hm : P.follows .mixedOrders = true) (hn : NameOk P) {call : Caller} (hc : CallOk P call) (fuel : Nat) {f : FuncId} {args : List SV} {st : St} {r : SR} {st' : St} (h : evF P call fuel f args st = some (r, st')) {A : Nat → Prop} {I : In} {w : World} (hok : Ok P A I st w) (ha : okL A I args) :
    Calls P f (denL I args).toArray w fun e w' => ∃ I', Mv P A I st w I' st' w' ∧ r.is (up A st.nx st'.nx) I' e := by
  unfold evF at h
  split at h
  case h_2 => cases h
  rename_i fn hfn
  split at h
  case h_2 => cases h
  rename_i c hb
  refine (callsIn_wide (n := 0)).1 (callsIn_of_wp_marks (F := fW none) hfn hb trivial ?_)
  have hF : Fr A I (args ++ List.replicate (fn.ntmps - args.length) (.tup [])) { tmps := (denL I args).toArray ++ Array.replicate (fn.ntmps - (denL I args).toArray.size) undef, defers := [] } := by
    refine ⟨?_, ha.append (okL_iff.2 fun v hv => by rw [(List.mem_replicate.1 hv).2]; trivial)⟩
    have : denL I (List.replicate (fn.ntmps - args.length) (.tup [])) = List.replicate (fn.ntmps - args.length) undef := by
      rw [denL_map, List.map_replicate]; rfl
    rw [denL_append, this]
    simp
  have back : ∀ (x : SX) (fr' : List SV) (st1 : St) (e : Exit) (a' : Act) (w' : World), (x = .nrm ∨ x = .ret) → (match resS P st1 fr' fn.results.toList with
        | some r => some (SR.ret (tupS r), st1)
        | none => none) = some (r, st') → Res P A I st w [] x fr' st1 e a' w' → bodyPostM (fW none) 0 P fn (fun e w' => ∃ I', Mv P A I st w I' st' w' ∧ r.is (up A st.nx st'.nx) I' e) e a' w' := fun x fr' st1 e a' w' hx h ⟨I', hmv, hf', hx', D, hD, hMk⟩ => by
    split at h
    case h_2 => cases h
    rename_i rr hr
    cases h
    rw [List.append_nil] at hD
    subst hD
    have key : LeavesInM (fW none) 0 P fn a'.tmps (fun e w' => ∃ I', Mv P A I st w I' st' w' ∧ (SR.ret (tupS rr)).is (up A st.nx st'.nx) I' e) a'.defers .returning w' := by
      refine leaves_marks (by simp) (fun w2 hm2 => ?_) a'.defers w' hMk hmv
      have := results_run hm2.ok hf'.ok hr
      rw [← hf'.tmps] at this
      unfold LeavesIn
      exact ⟨_, this.1, I', hm2, rfl, this.2⟩
    rcases hx with rfl | rfl
    · cases hx'; exact key
    · cases hx'; exact key
  split at h
  · rename_i fr' st1 he
    exact wpIn_mono ((evC_run hm hn hc _ _ _ _ _ _ _ he).1 A I w _ none hok hF rfl) fun e a' w' r => back _ _ _ _ _ _ (.inl rfl) h r
  · rename_i fr' st1 he
    exact wpIn_mono ((evC_run hm hn hc _ _ _ _ _ _ _ he).1 A I w _ none hok hF rfl) fun e a' w' r => back _ _ _ _ _ _ (.inr rfl) h r
  · rename_i v fr' st1 he
    cases h
    refine wpIn_mono ((evC_run hm hn hc _ _ _ _ _ _ _ he).1 A I w _ none hok hF rfl) fun e a' w' r => ?_
    obtain ⟨I', hmv, hf', ⟨rfl, hv⟩, D, hD, hMk⟩ := r
    rw [List.append_nil] at hD
    subst hD
    exact leaves_marks (u := .panicking (chain (v.den I'))) (by simp) (fun w2 hm2 => by
      unfold LeavesIn
      exact ⟨I', hm2, rfl, hv⟩) a'.defers w' hMk hmv
  · cases h
/-! ### a round -/
def zipF : List SV → List Tmp → List SV → List SV
  | fr, t :: ts, v :: vs => zipF (fr.set t v) ts vs
  | fr, _, _ => fr
theorem zipF_den {A : Nat → Prop} {I : In} : ∀ (ts : List Tmp) (vs fr : List SV), okL A I fr → okL A I vs → ((ts.zip (denL I vs)).foldl (fun tmps (x : Tmp × Value) => tmps.setIfInBounds x.1 x.2) (denL I fr).toArray) = (denL I (zipF fr ts vs)).toArray ∧ okL A I (zipF fr ts vs)
  | [], vs, fr, h, _ => by simp [zipF, h]
  | t :: ts, [], fr, h, _ => by simp [zipF, h, denL]
  | t :: ts, v :: vs, fr, h, hv => by
    have := zipF_den ts vs (fr.set t v) (h.set t hv.1) hv.2
    simp only [zipF, denL, List.zip_cons_cons, List.foldl_cons]
    rw [← this.1, denL_set]
    exact ⟨by simp, this.2⟩
def jumpS : SX → Option (Option Code)
  | .nrm => some none
  | .ret => some (some .ret)
  | .exit id => some (some (.exit id))
  | .goto l => some (some (.goto l))
  | .pan _ => none
/-- a round of a loop over a function -/
def evR (P : Program) (call : Caller) (fuel : Nat) (m : Nat) (args : List SV) (st : St) : Option (SR × St) :=
  match look st.H m with
  | some (.loop _ _ tm ps assign body) => cond (Nat.beq args.length ps.size) (match evC P call (some m) fuel assign (zipF tm ps.toList args) st with
    | some (.nrm, fr1, st1) => match look st1.H m with
      | some (.loop .ready pend1 tm1 ps1 as1 bd1) => match evC P call (some m) fuel body fr1 ⟨ins st1.H m (.loop .busy pend1 tm1 ps1 as1 bd1), st1.nx, m :: st1.wr⟩ with
        | some (x, _, st2) => match look st2.H m, jumpS x with
          | some (.loop _ _ tm2 ps2 as2 bd2), some j => some (.ret (.bool j.isNone), ⟨ins st2.H m (.loop (match j.isNone with
            | true => .ready
            | false => .done) j tm2 ps2 as2 bd2), st2.nx, m :: st2.wr⟩)
          | _, _ => none
        | none => none
      | _ => none
    | _ => none) none
  | _ => none
theorem evR_run {P : Program} (hm : P.follows .mixedOrders = true) (hn : NameOk P) {call : Caller} (hc : CallOk P call) (fuel : Nat) {m : Nat} {args : List SV} {st : St} {r : SR} {st' : St} (h : evR P call fuel m args st = some (r, st')) {A : Nat → Prop} {I : In} {w : World} (hok : Ok P A I st w) (ha : okL A I args) (hA : A m) :
    ∃ f tmps assign body, (Instr.yield (I.adr m) (denL I args).toArray).run P w = .ok (.round (I.adr m) f tmps assign body) w ∧
      RoundIn (fW none) 0 P (I.adr m) f tmps assign body w fun e w' => ∃ I', Mv P A I st w I' st' w' ∧ r.is (up A st.nx st'.nx) I' e := by
  unfold evR at h
  split at h
  case h_2 => cases h
  rename_i s pend tm ps assign body hl
  cases hb : Nat.beq args.length ps.size
  · rw [hb] at h; cases h
  rw [hb, cond_true] at h
  rw [Nat.beq_eq] at hb
  obtain ⟨r0, k1, k2, k3, k4, k5, k6, k7, _⟩ := Mv.loop_ hok hl
  have hy := run_yield (P := P) (args := (denL I args).toArray) k1 (by rw [k5]; simp [hb])
  rw [k4, k5, k6, k7] at hy
  have htm : okL A I tm := (hok.key m _ hl).2
  have hz := zipF_den ps.toList args tm htm ha
  refine ⟨_, _, _, _, hy, ?_⟩
  split at h
  case h_2 => cases h
  rename_i fr1 st1 he1
  split at h
  case h_2 => cases h
  rename_i pend1 tm1 ps1 as1 bd1 hl1
  split at h
  case h_2 => cases h
  rename_i x fr2 st2 he2
  split at h
  case h_2 => cases h
  rename_i s2 pend2 tm2 ps2 as2 bd2 j hl2 hj
  cases h
  refine roundIn_of_wpIn trivial ?_
  have hF : Fr A I (zipF tm ps.toList args) { tmps := (ps.zip (denL I args).toArray).foldl (fun tmps (x : Tmp × Value) => tmps.setIfInBounds x.1 x.2) (denL I tm).toArray, defers := [] } := by
    refine ⟨?_, hz.2⟩
    rw [← hz.1, ← Array.foldl_toList]
    simp
  have r1 := (evC_run hm hn hc _ _ _ _ _ _ _ he1).1 A I w _ (some (I.adr m)) hok hF ⟨hA, rfl⟩
  refine wpIn_mono r1 fun e a1 w1 r => ?_
  obtain ⟨I1, hm1, hf1, rfl, _⟩ := r
  obtain ⟨q1, j1, j2, j3, j4, j5, j6, j7, j8⟩ := Mv.loop_ hm1.ok hl1
  have hadr1 : I1.adr m = I.adr m := (hm1.ext m (.inl (hok.lt m hA))).1
  have hbr := run_beginRound (P := P) j1 j2
  rw [hadr1] at hbr
  refine ⟨_, hbr, ?_⟩
  have hmb := j8 .busy q1.pending
  subst j3
  rw [hadr1] at hmb
  have hm1b := Mv.trans hok hm1 hmb
  have hfb := (hf1.agr (hmb.agr hm1.ok)).mono (fun i (hi : up A st.nx st1.nx i) => (hi : up A st.nx st1.nx i))
  have r2 := (evC_run hm hn hc _ _ _ _ _ _ _ he2).1 (up A st.nx st1.nx) I1 _ a1 (some (I.adr m)) hm1b.ok hf1 ⟨.inl hA, by rw [hadr1]⟩
  refine wpIn_mono r2 fun e a2 w2 r => ?_
  obtain ⟨I2, hm2, hf2, hx2, _⟩ := r
  have hm12 := Mv.trans hok hm1b hm2
  obtain ⟨q2, g1, g2, g3, g4, g5, g6, g7, g8⟩ := Mv.loop_ hm12.ok hl2
  have hadr2 : I2.adr m = I.adr m := (hm12.ext m (.inl (hok.lt m hA))).1
  have fin : ∀ jump : Option Code, jump = j → ∃ v w', (Instr.endRound (I.adr m) jump).run P w2 = .ok v w' ∧ ∃ I', Mv P A I st w I' ⟨ins st2.H m (.loop (match j.isNone with
            | true => .ready
            | false => .done) j tm2 ps2 as2 bd2), st2.nx, m :: st2.wr⟩ w' ∧ (SR.ret (.bool j.isNone)).is (up A st.nx st2.nx) I' (.returned v) := fun jump hjj => by
    subst hjj
    have := run_endRound (P := P) jump g1
    rw [hadr2] at this
    refine ⟨_, _, this, I2, ?_, rfl, trivial⟩
    have := Mv.trans hok hm12 (g8 (match jump.isNone with
            | true => .ready
            | false => .done) jump)
    rw [hadr2] at this
    cases jump <;> exact this
  cases x with
  | nrm => cases hx2; cases hj; exact fin _ rfl
  | exit id => cases hx2; cases hj; exact fin _ rfl
  | goto l => cases hx2; cases hj; exact fin _ rfl
  | ret => cases hx2; cases hj; exact fin _ rfl
  | pan v => cases hj
/-- functions that are not walked through: what is known of them; none: walk through -/
abbrev Extra := Caller → FuncId → List SV → St → Option (Option (SR × St))
def ExtraOk (P : Program) (X : Extra) : Prop := ∀ call, CallOk P call → ∀ f args st r st', X call f args st = some (some (r, st')) → ∀ A I w, Ok P A I st w → okL A I args →
  Calls P f (denL I args).toArray w fun e w' => ∃ I', Mv P A I st w I' st' w' ∧ r.is (up A st.nx st'.nx) I' e
/-- calls so deep at most -/
def evN (P : Program) (X : Extra) (fuel : Nat) : Nat → Caller
  | 0 => fun _ _ _ => none
  | n + 1 => fun k args st => match k with
    | .inl f => match X (evN P X fuel n) f args st with
      | some r => r
      | none => evF P (evN P X fuel n) fuel f args st
    | .inr m => evR P (evN P X fuel n) fuel m args st
theorem evN_run {P : Program} (hm : P.follows .mixedOrders = true) (hn : NameOk P) {X : Extra} (hX : ExtraOk P X) (fuel : Nat) : ∀ n, CallOk P (evN P X fuel n)
  | 0 => ⟨fun f args st r st' h => (by cases h), fun f args st r st' h => (by cases h)⟩
  | n + 1 => by
    refine ⟨fun f args st r st' h A I w hok ha => ?_, fun m args st r st' h A I w hok ha hA => ?_⟩
    · unfold evN at h
      simp only at h
      split at h
      · rename_i r1 h1
        subst h
        exact hX _ (evN_run hm hn hX fuel n) f args st r st' h1 A I w hok ha
      · exact evF_run hm hn (evN_run hm hn hX fuel n) fuel h hok ha
    · unfold evN at h
      exact evR_run hm hn (evN_run hm hn hX fuel n) fuel h hok ha hA
end Go.E2
/-
  The evaluator: functions of which something is known already, and parts of memory that turn into another one. No program is named here. No conditions.
-/
namespace Go.E2
open Go.RowKit Go.Al
set_option linter.unusedVariables false
set_option linter.unusedSimpArgs false
set_option linter.unusedSectionVars false
variable [Th] [Facts]

/-- what is known of a function -/
def Entry (P : Program) (f : FuncId) (E : List SV → St → Option (SR × St)) : Prop :=
  ∀ args st r st', E args st = some (r, st') → ∀ A I w, Ok P A I st w → okL A I args →
    Calls P f (denL I args).toArray w fun e w' => ∃ I', Mv P A I st w I' st' w' ∧ r.is (up A st.nx st'.nx) I' e
def xOf : List (FuncId × (List SV → St → Option (SR × St))) → Extra
  | [] => fun _ _ _ _ => none
  | x :: l => fun call f args st => cond (Nat.beq x.1 f) (match x.2 args st with
    | some r => some (some r)
    | none => xOf l call f args st) (xOf l call f args st)
theorem xOf_ok {P : Program} : ∀ {l : List (FuncId × (List SV → St → Option (SR × St)))}, (∀ x ∈ l, Entry P x.1 x.2) → ExtraOk P (xOf l)
  | [], _ => fun call hc f args st r st' h => by cases h
  | x :: l, hl => fun call hc f args st r st' h A I w hok ha => by
    have rest := fun h => xOf_ok (l := l) (fun y hy => hl y (List.mem_cons_of_mem _ hy)) call hc f args st r st' h A I w hok ha
    unfold xOf at h
    rw [beq_cond] at h
    split at h
    · rename_i hf
      subst hf
      split at h
      · rename_i r1 h1
        cases h
        exact hl x (List.mem_cons_self ..) args st r st' h1 A I w hok ha
      · exact rest h
    · exact rest h
section
variable {P : Program} {A : Nat → Prop} {I : In} {st : St} {w w' : World}
/-- a memory out of a list -/
theorem Ok.of (H : List (Nat × SO)) (n : Nat) (hv : ValOk P I.val) (h : ∀ x ∈ H, x.1 < n ∧ x.2.ok (fun i => i < n) I ∧ RealW P I x.1 x.2 w) (hd : H.Pairwise fun x y => x.1 ≠ y.1 ∧ ∀ b, (I.esl x.1).fp b → ¬ (I.esl y.1).fp b) :
    Ok P (fun i => i < n) I ⟨H, n, []⟩ w := by
  have mem : ∀ {H : List (Nat × SO)} {id : Nat} {o : SO}, look H id = some o → (id, o) ∈ H := fun {H} => by
    induction H with
    | nil => intro id o h; cases h
    | cons x H ih =>
      intro id o h
      obtain ⟨i, p⟩ := x
      rw [look_cons] at h
      split at h
      · rename_i e; subst e; cases h; exact List.mem_cons_self ..
      · exact List.mem_cons_of_mem _ (ih h)
  have live : ∀ {H : List (Nat × SO)} {id : Nat}, look H id ≠ none → ∃ o, (id, o) ∈ H := fun {H id} hl => by
    obtain ⟨o, ho⟩ := Option.ne_none_iff_exists'.1 hl
    exact ⟨o, mem ho⟩
  refine ⟨fun i hi => hi, fun id o ho => ⟨(h _ (mem ho)).1, (h _ (mem ho)).2.1⟩, fun id o ho => (h _ (mem ho)).2.2, fun id id' h1 h2 b hb hb' => ?_, hv⟩
  obtain ⟨o, ho⟩ := live h1
  obtain ⟨o', ho'⟩ := live h2
  clear h1 h2
  induction hd with
  | nil => cases ho
  | cons hx hd ih =>
    rcases List.mem_cons.1 ho with e | ho <;> rcases List.mem_cons.1 ho' with e' | ho'
    · exact (congrArg Prod.fst e).trans (congrArg Prod.fst e').symm
    · have := hx _ ho'
      rw [← e] at this
      exact absurd hb' (this.2 b hb)
    · have := hx _ ho
      rw [← e'] at this
      exact absurd hb (this.2 b hb')
    · exact ih (fun x hx => h x (List.mem_cons_of_mem _ hx)) ho ho'
end
end Go.E2
/-
  The evaluator: what a call that was evaluated leaves, told by what was expected. No program is named here. No conditions.
-/
namespace Go.E2
open Go.RowKit Go.Al
set_option linter.unusedVariables false
set_option linter.unusedSimpArgs false
set_option linter.unusedSectionVars false

def eqP : Option (Nat × Nat) → Option (Nat × Nat) → Bool
  | none, none => true
  | some p, some q => Nat.beq p.1 q.1 && Nat.beq p.2 q.2
  | _, _ => false
theorem eqP_eq {p q : Option (Nat × Nat)} (h : eqP p q = true) : p = q := by
  cases p <;> cases q <;> simp only [eqP, Bool.and_eq_true, Nat.beq_eq, Bool.false_eq_true] at h
  · rfl
  · rw [Prod.ext h.1 h.2]
mutual
def SV.eqb : SV → SV → Bool
  | .bool a, .bool b => a == b
  | .int k n, .int l m => decide (k = l) && eqZ n m
  | .ptr p, .ptr q => eqP p q
  | .slice p n (.lit c), .slice q m (.lit d) => eqP p q && Nat.beq n m && Nat.beq c d
  | .nilFunc, .nilFunc => true
  | .nilIface, .nilIface => true
  | .agg l, .agg m => eqbS l m
  | .tup l, .tup m => eqbS l m
  | .atom n, .atom m => Nat.beq n m
  | .any n, .any m => Nat.beq n m
  | .ix t, .ix u => t.eqb u
  | .ix t, .int .i64 n => t.eqb (.lit n)
  | .bx t p, .bx u q => t.eqb u && (p == q)
  | .root j, .root k => Nat.beq j k
  | .func (.func f) l m, .func (.func g) l' m' => Nat.beq f g && eqbS l l' && eqbS m m'
  | .vw j s o n, .vw k t p m => Nat.beq j k && Nat.beq s t && o.eqb p && n.eqb m
  | .pel j s i q, .pel k t l p => Nat.beq j k && Nat.beq s t && i.eqb l && Nat.beq q p
  | _, _ => false
def eqbS : List SV → List SV → Bool
  | [], [] => true
  | x :: l, y :: m => SV.eqb x y && eqbS l m
  | _, _ => false
end
variable [Th]
mutual
/-- alike: they mean the same, and have the same names -/
theorem SV.eqb_den (I : In) : ∀ (x y : SV), x.eqb y = true → y.den I = x.den I ∧ ∀ A, y.ok A I → x.ok A I
  | .bool a, y, h => by
    cases y <;> simp only [SV.eqb, Bool.false_eq_true, beq_iff_eq] at h
    subst h
    exact ⟨rfl, fun _ h => h⟩
  | .int k n, y, h => by
    cases y <;> simp only [SV.eqb, Bool.false_eq_true, Bool.and_eq_true, decide_eq_true_eq] at h
    obtain ⟨rfl, h⟩ := h
    rw [eqZ_eq h]
    exact ⟨rfl, fun _ h => h⟩
  | .ptr p, y, h => by
    cases y <;> simp only [SV.eqb, Bool.false_eq_true] at h
    rw [eqP_eq h]
    exact ⟨rfl, fun _ h => h⟩
  | .slice p n c, y, h => by
    cases c <;> cases y <;> (try (rename_i c2; cases c2)) <;> simp only [SV.eqb, Bool.false_eq_true, Bool.and_eq_true, Nat.beq_eq] at h
    rw [eqP_eq h.1.1, h.1.2, h.2]
    exact ⟨rfl, fun _ h => h⟩
  | .nilFunc, y, h => by
    cases y <;> simp only [SV.eqb, Bool.false_eq_true] at h
    exact ⟨rfl, fun _ h => h⟩
  | .nilIface, y, h => by
    cases y <;> simp only [SV.eqb, Bool.false_eq_true] at h
    exact ⟨rfl, fun _ h => h⟩
  | .agg l, y, h => by
    cases y <;> simp only [SV.eqb, Bool.false_eq_true] at h
    have := eqbS_den I _ _ h
    exact ⟨by simp only [SV.den, this.1], fun A h => this.2 A h⟩
  | .tup l, y, h => by
    cases y <;> simp only [SV.eqb, Bool.false_eq_true] at h
    have := eqbS_den I _ _ h
    exact ⟨by simp only [SV.den, this.1], fun A h => this.2 A h⟩
  | .atom n, y, h => by
    cases y <;> simp only [SV.eqb, Bool.false_eq_true, Nat.beq_eq] at h
    subst h
    exact ⟨rfl, fun _ h => h⟩
  | .any n, y, h => by
    cases y <;> simp only [SV.eqb, Bool.false_eq_true, Nat.beq_eq] at h
    subst h
    exact ⟨rfl, fun _ h => h⟩
  | .ix t, y, h => by
    cases y
    case ix u =>
      simp only [SV.eqb] at h
      rw [eqb_eq _ _ h]
      exact ⟨rfl, fun _ h => h⟩
    case int k n =>
      cases k <;> simp only [SV.eqb, Bool.false_eq_true] at h
      rw [eqb_eq _ _ h]
      exact ⟨by simp only [SV.den, Tm.den, Th.ofI_], fun _ _ => trivial⟩
    all_goals simp only [SV.eqb, Bool.false_eq_true] at h
  | .bx t p, y, h => by
    cases y <;> simp only [SV.eqb, Bool.false_eq_true, Bool.and_eq_true, beq_iff_eq] at h
    rw [eqb_eq _ _ h.1, h.2]
    exact ⟨rfl, fun _ h => h⟩
  | .root j, y, h => by
    cases y <;> simp only [SV.eqb, Bool.false_eq_true, Nat.beq_eq] at h
    subst h
    exact ⟨rfl, fun _ h => h⟩
  | .vw j s o n, y, h => by
    cases y <;> simp only [SV.eqb, Bool.false_eq_true, Bool.and_eq_true, Nat.beq_eq] at h
    obtain ⟨⟨⟨rfl, rfl⟩, h1⟩, h2⟩ := h
    rw [eqb_eq _ _ h1, eqb_eq _ _ h2]
    exact ⟨rfl, fun _ h => h⟩
  | .pel j s i q, y, h => by
    cases y <;> simp only [SV.eqb, Bool.false_eq_true, Bool.and_eq_true, Nat.beq_eq] at h
    obtain ⟨⟨⟨rfl, rfl⟩, h1⟩, rfl⟩ := h
    rw [eqb_eq _ _ h1]
    exact ⟨rfl, fun _ h => h⟩
  | .str _, y, h => by cases y <;> simp [SV.eqb] at h
  | .esl _, y, h => by cases y <;> simp [SV.eqb] at h
  | .map _, y, h => by cases y <;> simp [SV.eqb] at h
  | .func fn l m, y, h => by
    cases y with
    | func gn l' m' =>
      cases fn <;> cases gn <;> simp only [SV.eqb, Bool.false_eq_true, Bool.and_eq_true, Nat.beq_eq] at h
      obtain ⟨⟨rfl, h1⟩, h2⟩ := h
      have a := eqbS_den I _ _ h1
      have b := eqbS_den I _ _ h2
      exact ⟨by simp only [SV.den, a.1, b.1], fun A h => ⟨a.2 A h.1, b.2 A h.2⟩⟩
    | _ => cases fn <;> simp [SV.eqb] at h
  | .iface _ _, y, h => by cases y <;> simp [SV.eqb] at h
  | .yld _, y, h => by cases y <;> simp [SV.eqb] at h
theorem eqbS_den (I : In) : ∀ (l m : List SV), eqbS l m = true → denL I m = denL I l ∧ ∀ A, okL A I m → okL A I l
  | [], [], _ => ⟨rfl, fun _ h => h⟩
  | x :: l, y :: m, h => by
    simp only [eqbS, Bool.and_eq_true] at h
    have a := SV.eqb_den I x y h.1
    have b := eqbS_den I l m h.2
    exact ⟨by simp only [denL, a.1, b.1], fun A h => ⟨a.2 A h.1, b.2 A h.2⟩⟩
  | [], _ :: _, h => by simp [eqbS] at h
  | _ :: _, [], h => by simp [eqbS] at h
end
/-- is a part of the memory as expected? -/
def eqSO : SO → Option SO → Bool
  | .cells e cs none, some (.cells e' cs' none) => Nat.beq e e' && eqbS cs cs'
  | .blob c t, some (.blob c' t') => Nat.beq c c' && t.eqb t'
  | _, _ => false
theorem eqSO_real {P : Program} {I : In} {id : Nat} {w : World} {x : SO} {o : Option SO} (h : eqSO x o = true) : ∃ y, o = some y ∧ (RealW P I id y w → RealW P I id x w) := by
  unfold eqSO at h
  split at h
  · rename_i e cs e' cs'
    simp only [Bool.and_eq_true, Nat.beq_eq] at h
    obtain ⟨rfl, h⟩ := h
    refine ⟨_, rfl, fun ⟨h1, ob, h2, h3⟩ => ⟨h1, ob, h2, ?_⟩⟩
    simp only [Real] at h3 ⊢
    rw [h3, (eqbS_den I _ _ h).1]
  · rename_i c t c' t'
    simp only [Bool.and_eq_true, Nat.beq_eq] at h
    obtain ⟨rfl, h⟩ := h
    rw [eqb_eq _ _ h]
    exact ⟨_, rfl, fun h => h⟩
  · cases h
variable [Facts]
/-- what is expected of a call: what it returns, and what is to be found behind it -/
def evalsB (P : Program) (X : Extra) (fuel depth : Nat) (f : FuncId) (args : List SV) (st : St) (v : SV) (F : List (Nat × SO)) (W : List Nat) : Bool :=
  match evN P X fuel depth (.inl f) args st with
  | some (.ret u, st') => v.eqb u && (F.all fun x => eqSO x.2 (look st'.H x.1)) && st'.wr.all fun i => memN i W || Nat.ble st.nx i
  | _ => false
theorem evalsB_run {P : Program} (hm : P.follows .mixedOrders = true) (hn : NameOk P) {X : Extra} (hX : ExtraOk P X) {fuel depth : Nat} {f : FuncId} {args : List SV} {H : List (Nat × SO)} {n : Nat} {v : SV} {F : List (Nat × SO)} {W : List Nat} (h : evalsB P X fuel depth f args ⟨H, n, []⟩ v F W = true)
    {A : Nat → Prop} {I : In} {w : World} (hok : Ok P A I ⟨H, n, []⟩ w) (ha : okL A I args) :
    Calls P f (denL I args).toArray w fun e w' => ∃ I' : In, e = .returned (v.den I') ∧ (∀ i, i < n → I'.adr i = I.adr i ∧ I'.cap i = I.cap i ∧ I'.esl i = I.esl i) ∧ I'.val = I.val ∧ Chg (fun b => ∃ id, id ∈ W ∧ look H id ≠ none ∧ (I.esl id).fp b) w w' ∧
      (∀ x ∈ F, RealW P I' x.1 x.2 w' ∧ (n ≤ x.1 → ∀ b, (I'.esl x.1).fp b → w.heap.size ≤ b ∨ ∃ k, look H k ≠ none ∧ (I.esl k).fp b)) ∧
      ∀ x ∈ F, ∀ y ∈ F, ∀ b, (I'.esl x.1).fp b → (I'.esl y.1).fp b → x.1 = y.1 := by
  unfold evalsB at h
  split at h
  · rename_i u st' he
    rw [Bool.and_eq_true, Bool.and_eq_true] at h
    obtain ⟨h, hwr⟩ := h
    refine Calls.mono ((evN_run hm hn hX fuel depth).1 f args _ _ _ he A I w hok ha) fun e w' ⟨I', hmv, hr⟩ => ?_
    obtain ⟨rfl, hu⟩ := hr
    have hF : ∀ x ∈ F, ∃ y, look st'.H x.1 = some y ∧ (RealW P I' x.1 y w' → RealW P I' x.1 x.2 w') := fun x hx => eqSO_real (List.all_eq_true.1 h.2 x hx)
    refine ⟨I', by rw [(SV.eqb_den I' _ _ h.1).1], fun i hi => hmv.ext i (.inl hi), hmv.val, hmv.chgW.mono fun b _ ⟨id, h1, h2, h3⟩ => ⟨id, ?_, h2, h3⟩, fun x hx => ?_, fun x hx y hy b hb1 hb2 => ?_⟩
    · have := List.all_eq_true.1 hwr id h1
      rw [Bool.or_eq_true, memN_iff, Nat.ble_eq] at this
      refine this.resolve_right fun h => ?_
      have := hok.live_lt h2
      simp only at this h
      omega
    · obtain ⟨y, hy, hr⟩ := hF x hx
      refine ⟨hr (hmv.ok.real _ _ hy), fun hnx b hb => ?_⟩
      rcases hmv.new x.1 hnx (by rw [hy]; simp) b hb with h1 | ⟨k, h1, _, h2⟩
      · exact .inl h1
      · exact .inr ⟨k, h1, h2⟩
    · obtain ⟨y1, hy1, _⟩ := hF x hx
      obtain ⟨y2, hy2, _⟩ := hF y hy
      exact hmv.ok.inj _ _ (by rw [hy1]; simp) (by rw [hy2]; simp) b hb1 hb2
  · cases h
end Go.E2
/-
  The evaluator: what terms mean, made out of its parts. No program is named here. No conditions.
-/
namespace Go.E2
open Go.RowKit Go.Al
set_option linter.unusedVariables false
set_option linter.unusedSimpArgs false

/-- arithmetic of terms, beside what else there is -/
def ariD {D : Type} (toI : D → Int) (toB : D → Bool) (ofI : Int → D) (ofB : Bool → D) (nil : D → Bool) (len : D → Int) (other : Nat → List D → D) (c : Nat) (l : List D) : D :=
  match c, l with
  | 0, [a, b] => ofI (IntKind.i64.wrap (toI a + toI b))
  | 1, [a, b] => ofI (IntKind.i64.wrap (toI a - toI b))
  | 2, [a, b] => ofI (IntKind.i64.wrap (toI a * toI b))
  | 3, [a, b] => ofB (decide (toI a < toI b))
  | 4, [a, b] => ofB (decide (toI a = toI b))
  | 5, [a, b] => ofI (min (toI a) (toI b))
  | 6, [a, b] => ofI (max (toI a) (toI b))
  | 7, [a, b] => ofB (toB a && toB b)
  | 8, [a] => ofB (nil a)
  | 9, [a] => ofI (len a)
  | 10, [a, b] => ofI (IntKind.i64.wrap ((toI a).tdiv (toI b)))
  | 11, [a, b] => ofI ((toI a).tmod (toI b))
  | c, l => other c l
/-- terms' meaning, made -/
@[reducible] def mkTh (D : Type) (toI : D → Int) (toB : D → Bool) (ofI : Int → D) (ofB : Bool → D) (hI : ∀ z, toI (ofI z) = z) (hB : ∀ b, toB (ofB b) = b) (nil : D → Bool) (len : D → Int) (other : Nat → List D → D)
    (kd : Nat → Nat) (holds : Nat → Value → D → (Nat → Prop) → World → Prop)
    (frame : ∀ {c r d fp w w'}, holds c r d fp w → (∀ b, fp b → w'.heap[b]? = w.heap[b]?) → holds c r d fp w')
    (lt : ∀ {c r d fp w b}, holds c r d fp w → fp b → b < w.heap.size)
    (ptr : ∀ {c r d fp w}, holds c r d fp w → kd c = 0 → ∃ p, r = .pointer p ∧ p.isNone = nil d)
    (sl : ∀ {c r d fp w}, holds c r d fp w → kd c = 1 → ∃ p n k, r = .slice p n k ∧ p.isNone = nil d ∧ (n : Int) = len d)
    (mp : ∀ {c r d fp w}, holds c r d fp w → kd c = 2 → ∃ p, r = .map p ∧ p.isNone = nil d) : Th where
  D := D
  toI := toI
  toB := toB
  ofI := ofI
  ap := ariD toI toB ofI ofB nil len other
  ofI_ := hI
  add_ := fun a b => hI _
  sub_ := fun a b => hI _
  mul_ := fun a b => hI _
  lss_ := fun a b => hB _
  eql_ := fun a b => hB _
  min_ := fun a b => hI _
  max_ := fun a b => hI _
  and_ := fun a b => hB _
  quo_ := fun a b _ => hI _
  rem_ := fun a b _ => hI _
  kd := kd
  holds := holds
  frame := frame
  lt := lt
  ptr_ := fun h hk => by
    obtain ⟨p, h1, h2⟩ := ptr h hk
    exact ⟨p, h1, h2.trans (hB _).symm⟩
  sl_ := fun h hk => by
    obtain ⟨p, n, k, h1, h2, h3⟩ := sl h hk
    exact ⟨p, n, k, h1, h2.trans (hB _).symm, h3.trans (hI _).symm⟩
  mp_ := fun h hk => by
    obtain ⟨p, h1, h2⟩ := mp h hk
    exact ⟨p, h1, h2.trans (hB _).symm⟩
  rw_ := fun _ => []
  rowc := fun _ => none
  ownc := fun _ => none
  rows_ := fun h => by cases h
  row_ := fun h => by cases h
/-- arithmetic of terms, rows of numbers too -/
def ariR {D : Type} (toI : D → Int) (toB : D → Bool) (ofI : Int → D) (ofB : Bool → D) (nil : D → Bool) (rw0 : D → List (List Int)) (mkr : List (List Int) → D) (other : Nat → List D → D) (c : Nat) (l : List D) : D :=
  match c, l with
  | 12, [a] => ofI ((rw0 a).length : Nat)
  | 13, [] => mkr []
  | 14, d :: xs => mkr (rw0 d ++ [xs.map toI])
  | 15, [a, b] => mkr (rw0 a ++ rw0 b)
  | 16, [d, o, n] => mkr (((rw0 d).drop (toI o).toNat).take (toI n).toNat)
  | 17, [d, i, q] => ofI ((((rw0 d)[(toI i).toNat]?).bind fun l => l[(toI q).toNat]?).getD 0)
  | 18, d :: i :: xs => mkr ((rw0 d).set (toI i).toNat (xs.map toI))
  | 19, [d, o, s] => mkr ((rw0 d).take (toI o).toNat ++ List.replicate ((rw0 d).length - (toI o).toNat) (List.replicate (toI s).toNat 0))
  | c, l => ariD toI toB ofI ofB nil (fun _ => 0) other c l
/-- the same, with rows of numbers -/
@[reducible] def mkThR (D : Type) (toI : D → Int) (toB : D → Bool) (ofI : Int → D) (ofB : Bool → D) (hI : ∀ z, toI (ofI z) = z) (hB : ∀ b, toB (ofB b) = b) (nil : D → Bool) (rw0 : D → List (List Int)) (mkr : List (List Int) → D) (hR : ∀ L, rw0 (mkr L) = L) (other : Nat → List D → D)
    (rowc : Nat → Option (TypeId × Nat × Bool)) (ownc : TypeId → Option Nat)
    (kd : Nat → Nat) (holds : Nat → Value → D → (Nat → Prop) → World → Prop)
    (frame : ∀ {c r d fp w w'}, holds c r d fp w → (∀ b, fp b → w'.heap[b]? = w.heap[b]?) → holds c r d fp w')
    (lt : ∀ {c r d fp w b}, holds c r d fp w → fp b → b < w.heap.size)
    (ptr : ∀ {c r d fp w}, holds c r d fp w → kd c = 0 → ∃ p, r = .pointer p ∧ p.isNone = nil d)
    (mp : ∀ {c r d fp w}, holds c r d fp w → kd c = 2 → ∃ p, r = .map p ∧ p.isNone = nil d)
    (no1 : ∀ c, kd c ≠ 1) : Th where
  D := D
  toI := toI
  toB := toB
  ofI := ofI
  ap := ariR toI toB ofI ofB nil rw0 mkr other
  ofI_ := hI
  add_ := fun a b => hI _
  sub_ := fun a b => hI _
  mul_ := fun a b => hI _
  lss_ := fun a b => hB _
  eql_ := fun a b => hB _
  min_ := fun a b => hI _
  max_ := fun a b => hI _
  and_ := fun a b => hB _
  quo_ := fun a b _ => hI _
  rem_ := fun a b _ => hI _
  kd := fun c => match rowc c with
    | some _ => 3
    | none => kd c
  holds := fun c r d fp w => match rowc c with
    | some x => RowAt x.1 x.2.1 x.2.2 r (rw0 d) fp w
    | none => holds c r d fp w
  frame := fun {c r d fp w w'} h hw => by
    cases hc : rowc c with
    | none => simp only [hc] at h ⊢; exact frame h hw
    | some x => simp only [hc] at h ⊢; exact h.frame hw
  lt := fun {c r d fp w b} h hb => by
    cases hc : rowc c with
    | none => simp only [hc] at h; exact lt h hb
    | some x => simp only [hc] at h; exact h.lt hb
  ptr_ := fun {c r d fp w} h hk => by
    cases hc : rowc c with
    | none =>
      simp only [hc] at h hk
      obtain ⟨p, h1, h2⟩ := ptr h hk
      exact ⟨p, h1, h2.trans (hB _).symm⟩
    | some x => simp only [hc] at hk; cases hk
  sl_ := fun {c r d fp w} h hk => by
    cases hc : rowc c with
    | none =>
      simp only [hc] at hk
      exact absurd hk (no1 c)
    | some x => simp only [hc] at hk; cases hk
  mp_ := fun {c r d fp w} h hk => by
    cases hc : rowc c with
    | none =>
      simp only [hc] at h hk
      obtain ⟨p, h1, h2⟩ := mp h hk
      exact ⟨p, h1, h2.trans (hB _).symm⟩
    | some x => simp only [hc] at hk; cases hk
  rw_ := rw0
  rowc := rowc
  ownc := ownc
  rows_ := fun _ => ⟨fun d => hI _, hR _, fun d xs => hR _, fun d e => hR _, fun d o n => hR _, fun d i q => hI _, fun d i xs => hR _, fun d o s => hR _⟩
  row_ := fun {c r d fp w e sz own} hc => by simp only [hc]
/-- numbers alone, and truths as numbers -/
@[reducible] def noTh : Th := mkTh Int id (fun z => decide (z = 1)) id (fun b => cond b 1 0) (fun _ => rfl) (fun b => by cases b <;> rfl) (fun _ => true) (fun _ => 0) (fun _ _ => 0) (fun _ => 3) (fun _ _ _ _ _ => False)
  (fun h _ => h) (fun h _ => h.elim) (fun h _ => h.elim) (fun h _ => h.elim) (fun h _ => h.elim)
end Go.E2
