/-
  The evaluator: loops of which something is known already. No program is named here. No conditions.
-/
import Derived.Test.YthjnecicagmdeaaGreatEc
namespace Go.E2
open Go.RowKit Go.Al
set_option linter.unusedVariables false
set_option linter.unusedSectionVars false
variable [Th] [Facts]

/-- what is known of the loops of a piece of code -/
inductive LT where
  | nil
  | two (a b : LT)
  | one (a : LT)
  | lp (E : List SV → St → Option (SX × List SV × St))
/-- what is told of a piece of code is so -/
def CodeOk (P : Program) (c : Code) (E : List SV → St → Option (SX × List SV × St)) : Prop :=
  ∀ fr st x fr' st', E fr st = some (x, fr', st') → ∀ A I w a, Ok P A I st w → Fr A I fr a → c.wpIn (fW none) 0 P (Res P A I st w a.defers x fr' st') a w
def LTok (P : Program) : LT → Code → Prop
  | .nil, _ => True
  | .two a b, .seq x y => LTok P a x ∧ LTok P b y
  | .two a b, .cond _ x y => LTok P a x ∧ LTok P b y
  | .one a, .block _ x => LTok P a x
  | .lp E, c => CodeOk P c E
  | _, _ => False
/-- code of whose loops something is known -/
def evCL (P : Program) (call : Caller) (fuel : Nat) : LT → Code → List SV → St → Option (SX × List SV × St)
  | .nil, c, fr, st => evC P call none fuel c fr st
  | .two a b, .seq x y, fr, st => match evCL P call fuel a x fr st with
    | some (.nrm, fr', st') => evCL P call fuel b y fr' st'
    | r => r
  | .two a b, .cond x y z, fr, st => match opv fr x with
    | some s => match decS s with
      | some true => evCL P call fuel a y fr st
      | some false => evCL P call fuel b z fr st
      | none => none
    | none => none
  | .one a, .block id x, fr, st => match evCL P call fuel a x fr st with
    | some (.exit id', fr', st') => cond (Nat.beq id' id) (some (.nrm, fr', st')) (some (.exit id', fr', st'))
    | r => r
  | .lp E, _, fr, st => E fr st
  | _, _, _, _ => none
section
variable {P : Program} (hm : P.follows .mixedOrders = true) (hn : NameOk P) {call : Caller} (hc : CallOk P call)
include hm hn hc
theorem evCL_run (fuel : Nat) : ∀ (t : LT) (c : Code) (fr : List SV) (st : St) (x : SX) (fr' : List SV) (st' : St), evCL P call fuel t c fr st = some (x, fr', st') → LTok P t c →
    ∀ A I w a, Ok P A I st w → Fr A I fr a → c.wpIn (fW none) 0 P (Res P A I st w a.defers x fr' st') a w := by
  have tr : ∀ {A : Nat → Prop} {I I1 : In} {st st1 : St} {w w1 : World} {D : List Deferred} {a1 : Act} {x : SX} {fr' : List SV} {st' : St}, Ok P A I st w → Mv P A I st w I1 st1 w1 → (∃ D', a1.defers = D' ++ D ∧ MkOk w.heap.size I1 st1 w1 D') → ∀ e a w', Res P (up A st.nx st1.nx) I1 st1 w1 a1.defers x fr' st' e a w' → Res P A I st w D x fr' st' e a w' := fun hok hm1 ⟨D', h1, h2⟩ e a w' r => by
    rw [h1] at r
    exact r.trans hok hm1 h2
  intro t
  induction t with
  | nil =>
    intro c fr st x fr' st' h _ A I w a hok hf
    unfold evCL at h
    exact (evC_run hm hn hc _ _ _ _ _ _ _ h).1 A I w a none hok hf rfl
  | two p q ihp ihq =>
    intro c fr st x fr' st' h ht A I w a hok hf
    cases c with
    | seq y z =>
      unfold evCL at h
      obtain ⟨ht1, ht2⟩ := ht
      split at h
      · rename_i fr1 st1 h1
        refine wpIn_seq (wpIn_mono (ihp _ _ _ _ _ _ h1 ht1 A I w a hok hf) fun e a1 w1 r => ?_)
        obtain ⟨I1, hm1, hf1, rfl, hD⟩ := r
        exact wpIn_mono (ihq _ _ _ _ _ _ h ht2 _ _ _ _ hm1.ok hf1) (tr hok hm1 hD)
      · rename_i hne
        refine wpIn_seq (wpIn_mono (ihp _ _ _ _ _ _ h ht1 A I w a hok hf) fun e a1 w1 r => ?_)
        have hr := r
        obtain ⟨I1, hm1, hf1, hx1, hD⟩ := r
        cases x with
        | nrm => exact absurd h (hne _ _)
        | exit id => cases hx1; exact hr
        | goto l => cases hx1; exact hr
        | ret => cases hx1; exact hr
        | pan v => obtain ⟨rfl, _⟩ := hx1; exact hr
    | cond y z u =>
      unfold evCL at h
      obtain ⟨ht1, ht2⟩ := ht
      split at h
      · rename_i s hs
        split at h
        · rename_i hb
          have hd := (opv_den hf hs).1.trans (decS_den hok.val hb)
          exact wpIn_cond hd (ihp _ _ _ _ _ _ h ht1 A I w a hok hf)
        · rename_i hb
          have hd := (opv_den hf hs).1.trans (decS_den hok.val hb)
          exact wpIn_cond hd (ihq _ _ _ _ _ _ h ht2 A I w a hok hf)
        · cases h
      · cases h
    | _ => exact ht.elim
  | one p ih =>
    intro c fr st x fr' st' h ht A I w a hok hf
    cases c with
    | block id y =>
      unfold evCL at h
      refine wpIn_block ?_
      have ht : LTok P p y := ht
      split at h
      · rename_i id' fr1 st1 h1
        refine wpIn_mono (ih _ _ _ _ _ _ h1 ht A I w a hok hf) fun e a1 w1 r => ?_
        obtain ⟨I1, hm1, hf1, rfl, hD⟩ := r
        rw [beq_cond] at h
        split at h
        · rename_i he
          cases h
          simp only [Exit.inBlock, he, if_true]
          exact ⟨I1, hm1, hf1, rfl, hD⟩
        · rename_i he
          cases h
          simp only [Exit.inBlock, he, if_false]
          exact ⟨I1, hm1, hf1, rfl, hD⟩
      · rename_i hne
        refine wpIn_mono (ih _ _ _ _ _ _ h ht A I w a hok hf) fun e a1 w1 r => ?_
        have hr := r
        obtain ⟨I1, hm1, hf1, hx1, hD⟩ := r
        cases x with
        | nrm => cases hx1; exact hr
        | exit id => exact absurd h (hne _ _ _)
        | goto l => cases hx1; exact hr
        | ret => cases hx1; exact hr
        | pan v => obtain ⟨rfl, _⟩ := hx1; exact hr
    | _ => exact ht.elim
  | lp E =>
    intro c fr st x fr' st' h ht A I w a hok hf
    unfold evCL at h
    exact ht _ _ _ _ _ h A I w a hok hf
end
/-- a function of whose loops something is known -/
def evFL (P : Program) (call : Caller) (fuel : Nat) (t : LT) (f : FuncId) (args : List SV) (st : St) : Option (SR × St) :=
  match P.funcs[f]? with
  | some fn => match fn.body with
    | some c => match evCL P call fuel t c (args ++ List.replicate (fn.ntmps - args.length) (.tup [])) st with
      | some (.nrm, fr', st') => match resS P st' fr' fn.results.toList with
        | some r => some (.ret (tupS r), st')
        | none => none
      | some (.ret, fr', st') => match resS P st' fr' fn.results.toList with
        | some r => some (.ret (tupS r), st')
        | none => none
      | some (.pan v, fr', st') => some (.pan v, st')
      | _ => none
    | none => none
  | none => none
theorem evFL_run {P : Program} (hm : P.follows .mixedOrders = true) (hn : NameOk P) {call : Caller} (hc : CallOk P call) (fuel : Nat) {f : FuncId} {args : List SV} {st : St} {r : SR} {st' : St} {t : LT} (ht : ∀ fn c, P.funcs[f]? = some fn → fn.body = some c → LTok P t c) (h : evFL P call fuel t f args st = some (r, st')) {A : Nat → Prop} {I : In} {w : World} (hok : Ok P A I st w) (ha : okL A I args) :
    Calls P f (denL I args).toArray w fun e w' => ∃ I', Mv P A I st w I' st' w' ∧ r.is (up A st.nx st'.nx) I' e := by
  unfold evFL at h
  split at h
  case h_2 => cases h
  rename_i fn hfn
  split at h
  case h_2 => cases h
  rename_i c hb
  refine (callsIn_wide (n := 0)).1 (callsIn_of_wp_marks (F := fW none) hfn hb trivial ?_)
  have hF : Fr A I (args ++ List.replicate (fn.ntmps - args.length) (.tup [])) { tmps := (denL I args).toArray ++ Array.replicate (fn.ntmps - (denL I args).toArray.size) undef, defers := [] } := by
    refine ⟨?_, ha.append (okL_iff.2 fun v hv => by rw [(List.mem_replicate.1 hv).2]; trivial)⟩
    have : denL I (List.replicate (fn.ntmps - args.length) (.tup [])) = List.replicate (fn.ntmps - args.length) undef := by
      rw [denL_map, List.map_replicate]; rfl
    rw [denL_append, this]
    simp
  have back : ∀ (x : SX) (fr' : List SV) (st1 : St) (e : Exit) (a' : Act) (w' : World), (x = .nrm ∨ x = .ret) → (match resS P st1 fr' fn.results.toList with
        | some r => some (SR.ret (tupS r), st1)
        | none => none) = some (r, st') → Res P A I st w [] x fr' st1 e a' w' → bodyPostM (fW none) 0 P fn (fun e w' => ∃ I', Mv P A I st w I' st' w' ∧ r.is (up A st.nx st'.nx) I' e) e a' w' := fun x fr' st1 e a' w' hx h ⟨I', hmv, hf', hx', D, hD, hMk⟩ => by
    split at h
    case h_2 => cases h
    rename_i rr hr
    cases h
    rw [List.append_nil] at hD
    subst hD
    have key : LeavesInM (fW none) 0 P fn a'.tmps (fun e w' => ∃ I', Mv P A I st w I' st' w' ∧ (SR.ret (tupS rr)).is (up A st.nx st'.nx) I' e) a'.defers .returning w' := by
      refine leaves_marks (by simp) (fun w2 hm2 => ?_) a'.defers w' hMk hmv
      have := results_run hm2.ok hf'.ok hr
      rw [← hf'.tmps] at this
      unfold LeavesIn
      exact ⟨_, this.1, I', hm2, rfl, this.2⟩
    rcases hx with rfl | rfl
    · cases hx'; exact key
    · cases hx'; exact key
  split at h
  · rename_i fr' st1 he
    exact wpIn_mono (evCL_run hm hn hc fuel t c _ _ _ _ _ he (ht _ _ hfn hb) A I w _ hok hF) fun e a' w' r => back _ _ _ _ _ _ (.inl rfl) h r
  · rename_i fr' st1 he
    exact wpIn_mono (evCL_run hm hn hc fuel t c _ _ _ _ _ he (ht _ _ hfn hb) A I w _ hok hF) fun e a' w' r => back _ _ _ _ _ _ (.inr rfl) h r
  · rename_i v fr' st1 he
    cases h
    refine wpIn_mono (evCL_run hm hn hc fuel t c _ _ _ _ _ he (ht _ _ hfn hb) A I w _ hok hF) fun e a' w' r => ?_
    obtain ⟨I', hmv, hf', ⟨rfl, hv⟩, D, hD, hMk⟩ := r
    rw [List.append_nil] at hD
    subst hD
    exact leaves_marks (u := .panicking (chain (v.den I'))) (by simp) (fun w2 hm2 => by
      unfold LeavesIn
      exact ⟨I', hm2, rfl, hv⟩) a'.defers w' hMk hmv
  · cases h
/-- a function of whose loops something is known, as the evaluator takes it -/
def loopX (P : Program) (f0 : FuncId) (t : LT) (fuel : Nat) : Extra := fun call f args st => cond (Nat.beq f0 f) (some (evFL P call fuel t f args st)) none
theorem loopX_ok {P : Program} (hm : P.follows .mixedOrders = true) (hn : NameOk P) {f0 : FuncId} {t : LT} {fuel : Nat} (ht : ∀ fn c, P.funcs[f0]? = some fn → fn.body = some c → LTok P t c) : ExtraOk P (loopX P f0 t fuel) := by
  intro call hc f args st r st' h A I w hok ha
  unfold loopX at h
  cases hb : Nat.beq f0 f
  · rw [hb] at h; cases h
  rw [hb, cond_true] at h
  obtain rfl := Nat.eq_of_beq_eq_true hb
  exact evFL_run hm hn hc fuel ht (Option.some.inj h) hok ha
/-- how a piece of code is left, as a number -/
def codeX : SX → Option Nat
  | .nrm => some 0
  | .ret => some 1
  | .exit id => some (id + 2)
  | _ => none
def isX : Nat → Exit → Prop
  | 0, e => e = .normal
  | 1, e => e = .ret
  | id + 2, e => e = .exit id
/-- how a piece of code is left, and the frame behind it -/
def vR (k : Nat) (fr : List SV) : SV := .agg [.int .i64 (k : Int), .tup fr]
/-- what is expected of a piece of code -/
def evalsR (P : Program) (X : Extra) (fuel depth : Nat) (d : Code) (fr : List SV) (st : St) (v : SV) (F : List (Nat × SO)) (W : List Nat) : Bool :=
  match evC P (evN P X fuel depth) none fuel d fr st with
  | some (x, fr', st') => match codeX x with
    | some k => v.eqb (vR k fr') && (F.all fun x => eqSO x.2 (look st'.H x.1)) && st'.wr.all fun i => memN i W || Nat.ble st.nx i
    | none => false
  | none => false
theorem evalsR_run {P : Program} (hm : P.follows .mixedOrders = true) (hn : NameOk P) {X : Extra} (hX : ExtraOk P X) {fuel depth : Nat} {d : Code} {fr : List SV} {H : List (Nat × SO)} {n : Nat} {k : Nat} {fr' : List SV} {F : List (Nat × SO)} {W : List Nat} (h : evalsR P X fuel depth d fr ⟨H, n, []⟩ (vR k fr') F W = true)
    {A : Nat → Prop} {I : In} {w : World} {a : Act} (hok : Ok P A I ⟨H, n, []⟩ w) (hf : Fr A I fr a) :
    d.wpIn (fW none) 0 P (fun e a' w' => ∃ I' : In, isX k e ∧ a'.tmps = (denL I' fr').toArray ∧ (∃ D' st', a'.defers = D' ++ a.defers ∧ MkOk w.heap.size I' st' w' D') ∧ (∀ i, i < n → I'.adr i = I.adr i ∧ I'.cap i = I.cap i ∧ I'.esl i = I.esl i) ∧ I'.val = I.val ∧ Chg (fun b => ∃ id, id ∈ W ∧ look H id ≠ none ∧ (I.esl id).fp b) w w' ∧
      (∀ x ∈ F, RealW P I' x.1 x.2 w' ∧ (n ≤ x.1 → ∀ b, (I'.esl x.1).fp b → w.heap.size ≤ b ∨ ∃ k, look H k ≠ none ∧ (I.esl k).fp b)) ∧
      ∀ x ∈ F, ∀ y ∈ F, ∀ b, (I'.esl x.1).fp b → (I'.esl y.1).fp b → x.1 = y.1) a w := by
  unfold evalsR at h
  split at h
  · rename_i x fr1 st' he
    split at h
    · rename_i k1 hk
      rw [Bool.and_eq_true, Bool.and_eq_true] at h
      obtain ⟨h, hwr⟩ := h
      refine wpIn_mono ((evC_run hm hn (evN_run hm hn hX fuel depth) _ _ _ _ _ _ _ he).1 A I w a none hok hf rfl) fun e a' w' ⟨I', hmv, hf', hx, D', hD, hMk⟩ => ?_
      have hv := (SV.eqb_den I' _ _ h.1).1
      simp only [vR, SV.den, denL, Value.agg.injEq, List.cons.injEq, Array.mk.injEq, Value.int.injEq, Value.tuple.injEq, true_and, and_true] at hv
      obtain ⟨hk1, hfr⟩ := hv
      have hk1 : k = k1 := by omega
      subst hk1
      have hF : ∀ x ∈ F, ∃ y, look st'.H x.1 = some y ∧ (RealW P I' x.1 y w' → RealW P I' x.1 x.2 w') := fun x hx => eqSO_real (List.all_eq_true.1 h.2 x hx)
      refine ⟨I', ?_, by rw [hf'.tmps, hfr], ⟨D', st', hD, hMk⟩, fun i hi => hmv.ext i (.inl hi), hmv.val, hmv.chgW.mono fun b _ ⟨id, h1, h2, h3⟩ => ⟨id, ?_, h2, h3⟩, fun x hx => ?_, fun x hx y hy b hb1 hb2 => ?_⟩
      · cases x with
        | nrm => cases hk; exact hx
        | exit id => cases hk; exact hx
        | goto l => cases hk
        | ret => cases hk; exact hx
        | pan v => cases hk
      · have := List.all_eq_true.1 hwr id h1
        rw [Bool.or_eq_true, memN_iff, Nat.ble_eq] at this
        refine this.resolve_right fun h => ?_
        have := hok.live_lt h2
        simp only at this h
        omega
      · obtain ⟨y, hy, hr⟩ := hF x hx
        refine ⟨hr (hmv.ok.real _ _ hy), fun hnx b hb => ?_⟩
        rcases hmv.new x.1 hnx (by rw [hy]; simp) b hb with h1 | ⟨k, h1, _, h2⟩
        · exact .inl h1
        · exact .inr ⟨k, h1, h2⟩
      · obtain ⟨y1, hy1, _⟩ := hF x hx
        obtain ⟨y2, hy2, _⟩ := hF y hy
        exact hmv.ok.inj _ _ (by rw [hy1]; simp) (by rw [hy2]; simp) b hb1 hb2
    · cases h
  · cases h
theorem evalsR_run0 {P : Program} (hm : P.follows .mixedOrders = true) (hn : NameOk P) {X : Extra} (hX : ExtraOk P X) {fuel depth : Nat} {d : Code} {fr : List SV} {H : List (Nat × SO)} {n : Nat} {k : Nat} {fr' : List SV} {F : List (Nat × SO)} {W : List Nat} (hrf : noRF d = true) (h : evalsR P X fuel depth d fr ⟨H, n, []⟩ (vR k fr') F W = true)
    {A : Nat → Prop} {I : In} {w : World} {a : Act} (hok : Ok P A I ⟨H, n, []⟩ w) (hf : Fr A I fr a) :
    d.wpIn (fW none) 0 P (fun e a' w' => ∃ I' : In, isX k e ∧ a'.tmps = (denL I' fr').toArray ∧ a'.defers = a.defers ∧ (∀ i, i < n → I'.adr i = I.adr i ∧ I'.cap i = I.cap i ∧ I'.esl i = I.esl i) ∧ I'.val = I.val ∧ Chg (fun b => ∃ id, id ∈ W ∧ look H id ≠ none ∧ (I.esl id).fp b) w w' ∧
      (∀ x ∈ F, RealW P I' x.1 x.2 w' ∧ (n ≤ x.1 → ∀ b, (I'.esl x.1).fp b → w.heap.size ≤ b ∨ ∃ k, look H k ≠ none ∧ (I.esl k).fp b)) ∧
      ∀ x ∈ F, ∀ y ∈ F, ∀ b, (I'.esl x.1).fp b → (I'.esl y.1).fp b → x.1 = y.1) a w := by
  unfold evalsR at h
  split at h
  · rename_i x fr1 st' he
    split at h
    · rename_i k1 hk
      rw [Bool.and_eq_true, Bool.and_eq_true] at h
      obtain ⟨h, hwr⟩ := h
      refine wpIn_mono ((evC_run0 hm hn (evN_run hm hn hX fuel depth) _ _ _ _ _ _ _ hrf he).1 A I w a none hok hf rfl) fun e a' w' ⟨I', hmv, hf', hx, hD⟩ => ?_
      have hv := (SV.eqb_den I' _ _ h.1).1
      simp only [vR, SV.den, denL, Value.agg.injEq, List.cons.injEq, Array.mk.injEq, Value.int.injEq, Value.tuple.injEq, true_and, and_true] at hv
      obtain ⟨hk1, hfr⟩ := hv
      have hk1 : k = k1 := by omega
      subst hk1
      have hF : ∀ x ∈ F, ∃ y, look st'.H x.1 = some y ∧ (RealW P I' x.1 y w' → RealW P I' x.1 x.2 w') := fun x hx => eqSO_real (List.all_eq_true.1 h.2 x hx)
      refine ⟨I', ?_, by rw [hf'.tmps, hfr], hD, fun i hi => hmv.ext i (.inl hi), hmv.val, hmv.chgW.mono fun b _ ⟨id, h1, h2, h3⟩ => ⟨id, ?_, h2, h3⟩, fun x hx => ?_, fun x hx y hy b hb1 hb2 => ?_⟩
      · cases x with
        | nrm => cases hk; exact hx
        | exit id => cases hk; exact hx
        | goto l => cases hk
        | ret => cases hk; exact hx
        | pan v => cases hk
      · have := List.all_eq_true.1 hwr id h1
        rw [Bool.or_eq_true, memN_iff, Nat.ble_eq] at this
        refine this.resolve_right fun h => ?_
        have := hok.live_lt h2
        simp only at this h
        omega
      · obtain ⟨y, hy, hr⟩ := hF x hx
        refine ⟨hr (hmv.ok.real _ _ hy), fun hnx b hb => ?_⟩
        rcases hmv.new x.1 hnx (by rw [hy]; simp) b hb with h1 | ⟨k, h1, _, h2⟩
        · exact .inl h1
        · exact .inr ⟨k, h1, h2⟩
      · obtain ⟨y1, hy1, _⟩ := hF x hx
        obtain ⟨y2, hy2, _⟩ := hF y hy
        exact hmv.ok.inj _ _ (by rw [hy1]; simp) (by rw [hy2]; simp) b hb1 hb2
    · cases h
  · cases h
/-! ### the end of a function -/
/-- what is known of a function's end -/
inductive TT where
  | seq (a : LT) (b : TT)
  | cond (a b : TT)
  | ev (t : LT)
  | lp (E : List SV → St → Option (SV × St))
/-- how a function ends: what it returns, whatever the world is -/
def EndOk (P : Program) (fn : Func) (A : Nat → Prop) (I : In) (st : St) (w : World) (D : List Deferred) (v : SV) (st' : St) (e : Exit) (a' : Act) (w' : World) : Prop :=
  (e = .normal ∨ e = .ret) ∧ ∃ I', Mv P A I st w I' st' w' ∧ (∀ w2, (results fn a'.tmps).run P w2 = .ok (v.den I') w2) ∧ v.ok (up A st.nx st'.nx) I' ∧ ∃ D', a'.defers = D' ++ D ∧ MkOk w.heap.size I' st' w' D'
def TailOk (P : Program) (fn : Func) (c : Code) (E : List SV → St → Option (SV × St)) : Prop :=
  ∀ fr st v st', E fr st = some (v, st') → ∀ A I w a, Ok P A I st w → Fr A I fr a → c.wpIn (fW none) 0 P (EndOk P fn A I st w a.defers v st') a w
def TTok (P : Program) (fn : Func) : TT → Code → Prop
  | .seq a b, .seq x y => LTok P a x ∧ TTok P fn b y
  | .cond a b, .cond _ x y => TTok P fn a x ∧ TTok P fn b y
  | .ev t, c => LTok P t c
  | .lp E, c => TailOk P fn c E
  | _, _ => False
/-- what a function returns, out of its frame alone -/
def endS (P : Program) (fn : Func) : Option (SX × List SV × St) → Option (SV × St)
  | some (.nrm, fr, st) => (resS P ⟨[], st.nx, []⟩ fr fn.results.toList).map fun r => (tupS r, st)
  | some (.ret, fr, st) => (resS P ⟨[], st.nx, []⟩ fr fn.results.toList).map fun r => (tupS r, st)
  | _ => none
def evTL (P : Program) (call : Caller) (fuel : Nat) (fn : Func) : TT → Code → List SV → St → Option (SV × St)
  | .seq a b, .seq x y, fr, st => match evCL P call fuel a x fr st with
    | some (.nrm, fr', st') => evTL P call fuel fn b y fr' st'
    | r => endS P fn r
  | .cond a b, .cond x y z, fr, st => match opv fr x with
    | some s => match decS s with
      | some true => evTL P call fuel fn a y fr st
      | some false => evTL P call fuel fn b z fr st
      | none => none
    | none => none
  | .ev t, c, fr, st => endS P fn (evCL P call fuel t c fr st)
  | .lp E, _, fr, st => E fr st
  | _, _, _, _ => none
theorem EndOk.of {P : Program} {fn : Func} {A : Nat → Prop} {I : In} {st : St} {w : World} {D : List Deferred} {x : SX} {fr' : List SV} {st1 st' : St} {v : SV} {e : Exit} {a' : Act} {w' : World} (h : endS P fn (some (x, fr', st1)) = some (v, st')) (hr : Res P A I st w D x fr' st1 e a' w') : EndOk P fn A I st w D v st' e a' w' := by
  obtain ⟨I', hm, hf, hx, D', hD, hMk⟩ := hr
  have key : (resS P ⟨[], st1.nx, []⟩ fr' fn.results.toList).map (fun r => (tupS r, st1)) = some (v, st') → (e = .normal ∨ e = .ret) → EndOk P fn A I st w D v st' e a' w' := fun h he => by
    obtain ⟨r, hr, h⟩ := Option.map_eq_some_iff.1 h
    cases h
    have ok0 : ∀ w2, Ok P (up A st.nx st1.nx) I' ⟨[], st1.nx, []⟩ w2 := fun w2 => ⟨hm.ok.lt, fun _ _ h => (by cases h), fun _ _ h => (by cases h), fun _ _ h => absurd rfl h, hm.ok.val⟩
    refine ⟨he, I', hm, fun w2 => ?_, (results_run (ok0 w') hf.ok hr).2, D', hD, hMk⟩
    rw [hf.tmps]
    exact (results_run (ok0 w2) hf.ok hr).1
  cases x with
  | nrm => exact key h (.inl hx)
  | ret => exact key h (.inr hx)
  | _ => cases h
theorem EndOk.trans {P : Program} {fn : Func} {A : Nat → Prop} {I I1 : In} {st st1 : St} {w w1 : World} (hok : Ok P A I st w) (hm : Mv P A I st w I1 st1 w1) {D D1 : List Deferred} (hD : MkOk w.heap.size I1 st1 w1 D1) {v : SV} {st' : St} {e : Exit} {a' : Act} {w' : World} (h : EndOk P fn (up A st.nx st1.nx) I1 st1 w1 (D1 ++ D) v st' e a' w') :
    EndOk P fn A I st w D v st' e a' w' := by
  obtain ⟨he, I', hm', hr, hv, D', hd, hMk⟩ := h
  refine ⟨he, I', hm.trans hok hm', hr, ok_mono (up_up hm.nx hm'.nx) v hv, D' ++ D1, by rw [hd, List.append_assoc], ?_⟩
  exact (hD.mv hm.ok hm').app hD hm.chg.size hMk
section
variable {P : Program} (hm : P.follows .mixedOrders = true) (hn : NameOk P) {call : Caller} (hc : CallOk P call)
include hm hn hc
theorem evTL_run (fuel : Nat) (fn : Func) : ∀ (t : TT) (c : Code) (fr : List SV) (st : St) (v : SV) (st' : St), evTL P call fuel fn t c fr st = some (v, st') → TTok P fn t c →
    ∀ A I w a, Ok P A I st w → Fr A I fr a → c.wpIn (fW none) 0 P (EndOk P fn A I st w a.defers v st') a w := by
  intro t
  induction t with
  | seq p q ihq =>
    intro c fr st v st' h ht A I w a hok hf
    cases c with
    | seq y z =>
      unfold evTL at h
      obtain ⟨ht1, ht2⟩ := ht
      split at h
      · rename_i fr1 st1 h1
        refine wpIn_seq (wpIn_mono (evCL_run hm hn hc fuel _ _ _ _ _ _ _ h1 ht1 A I w a hok hf) fun e a1 w1 r => ?_)
        obtain ⟨I1, hm1, hf1, rfl, D1, hD, hMk⟩ := r
        refine wpIn_mono (ihq _ _ _ _ _ h ht2 _ _ _ _ hm1.ok hf1) fun e a2 w2 r => ?_
        rw [hD] at r
        exact EndOk.trans hok hm1 hMk r
      · rename_i hne
        cases ho : evCL P call fuel p y fr st with
        | none => rw [ho] at h; cases h
        | some x =>
          obtain ⟨x, fr1, st1⟩ := x
          rw [ho] at h
          refine wpIn_seq (wpIn_mono (evCL_run hm hn hc fuel _ _ _ _ _ _ _ ho ht1 A I w a hok hf) fun e a1 w1 r => ?_)
          have hr := r
          obtain ⟨I1, hm1, hf1, hx1, hD⟩ := r
          cases x with
          | nrm => exact absurd ho (hne _ _)
          | ret => cases hx1; exact EndOk.of h hr
          | _ => cases h
    | _ => exact ht.elim
  | cond p q ihp ihq =>
    intro c fr st v st' h ht A I w a hok hf
    cases c with
    | cond y z u =>
      unfold evTL at h
      obtain ⟨ht1, ht2⟩ := ht
      split at h
      · rename_i s hs
        split at h
        · rename_i hb
          have hd := (opv_den hf hs).1.trans (decS_den hok.val hb)
          exact wpIn_cond hd (ihp _ _ _ _ _ h ht1 A I w a hok hf)
        · rename_i hb
          have hd := (opv_den hf hs).1.trans (decS_den hok.val hb)
          exact wpIn_cond hd (ihq _ _ _ _ _ h ht2 A I w a hok hf)
        · cases h
      · cases h
    | _ => exact ht.elim
  | ev p =>
    intro c fr st v st' h ht A I w a hok hf
    unfold evTL at h
    have ht : LTok P p c := ht
    cases ho : evCL P call fuel p c fr st with
    | none => rw [ho] at h; cases h
    | some x =>
      obtain ⟨x, fr1, st1⟩ := x
      rw [ho] at h
      exact wpIn_mono (evCL_run hm hn hc fuel _ _ _ _ _ _ _ ho ht A I w a hok hf) fun e a1 w1 r => EndOk.of h r
  | lp E =>
    intro c fr st v st' h ht A I w a hok hf
    unfold evTL at h
    exact ht _ _ _ _ h A I w a hok hf
/-- a function of whose end something is known -/
theorem evTL_calls (fuel : Nat) {f : FuncId} {fn : Func} {c : Code} (hfn : P.funcs[f]? = some fn) (hb : fn.body = some c) {t : TT} (ht : TTok P fn t c) {args : List SV} {st : St} {v : SV} {st' : St} (h : evTL P call fuel fn t c (args ++ List.replicate (fn.ntmps - args.length) (.tup [])) st = some (v, st')) {A : Nat → Prop} {I : In} {w : World} (hok : Ok P A I st w) (ha : okL A I args) :
    Calls P f (denL I args).toArray w fun e w' => ∃ I', Mv P A I st w I' st' w' ∧ (SR.ret v).is (up A st.nx st'.nx) I' e := by
  refine (callsIn_wide (n := 0)).1 (callsIn_of_wp_marks (F := fW none) hfn hb trivial ?_)
  have hF : Fr A I (args ++ List.replicate (fn.ntmps - args.length) (.tup [])) { tmps := (denL I args).toArray ++ Array.replicate (fn.ntmps - (denL I args).toArray.size) undef, defers := [] } := by
    refine ⟨?_, ha.append (okL_iff.2 fun v hv => by rw [(List.mem_replicate.1 hv).2]; trivial)⟩
    have : denL I (List.replicate (fn.ntmps - args.length) (.tup [])) = List.replicate (fn.ntmps - args.length) undef := by
      rw [denL_map, List.map_replicate]; rfl
    rw [denL_append, this]
    simp
  refine wpIn_mono (evTL_run hm hn hc fuel fn t c _ _ _ _ h ht A I w _ hok hF) fun e a' w' r => ?_
  obtain ⟨he, I', hmv, hr, hv, D, hD, hMk⟩ := r
  rw [List.append_nil] at hD
  subst hD
  have key : LeavesInM (fW none) 0 P fn a'.tmps (fun e w' => ∃ I', Mv P A I st w I' st' w' ∧ (SR.ret v).is (up A st.nx st'.nx) I' e) a'.defers .returning w' := by
    refine leaves_marks (by simp) (fun w2 hm2 => ?_) a'.defers w' hMk hmv
    unfold LeavesIn
    exact ⟨_, hr w2, I', hm2, rfl, hv⟩
  rcases he with rfl | rfl
  · exact key
  · exact key
end
/-! ### out of what is known at worlds -/
theorem Rounds.succ {l : Option Nat} {P : Program} {c : Code} {Q : Exit → Act → World → Prop} : ∀ {n : Nat} {a : Act} {w : World}, Rounds l P c Q n a w → Rounds l P c Q (n + 1) a w
  | 0, a, w, h => wpIn_mono h fun e a w q => by cases e <;> first | exact q.elim | exact q
  | n + 1, a, w, h => wpIn_mono h fun e a w q => by cases e <;> first | exact Rounds.succ q | exact q
theorem Rounds.le {l : Option Nat} {P : Program} {c : Code} {Q : Exit → Act → World → Prop} {n m : Nat} (hnm : n ≤ m) {a : Act} {w : World} (h : Rounds l P c Q n a w) : Rounds l P c Q m a w := by
  induction hnm with
  | refl => exact h
  | step _ ih => exact ih.succ
/-- a loop, by an invariant with a measure -/
theorem loop_ind {l : Option Nat} {P : Program} {d : Code} {Q : Exit → Act → World → Prop} (Inv : Nat → Act → World → Prop) (round : ∀ k a w, Inv k a w → d.wpIn (fW l) 0 P (Exit.then (fun a' w' => ∃ j, j < k ∧ Inv j a' w') Q) a w) {k : Nat} {a : Act} {w : World} (h : Inv k a w) : (Code.loop d).wpIn (fW l) 0 P Q a w := by
  have key : ∀ k a w, Inv k a w → Rounds l P d Q k a w := by
    intro k
    induction k using Nat.strongRecOn with
    | _ k ih =>
      intro a w h
      cases k with
      | zero =>
        refine wpIn_mono (round 0 a w h) fun e a w q => ?_
        cases e with
        | normal => obtain ⟨j, hj, _⟩ := q; exact absurd hj (Nat.not_lt_zero _)
        | _ => exact q
      | succ k =>
        refine wpIn_mono (round (k + 1) a w h) fun e a w q => ?_
        cases e with
        | normal => obtain ⟨j, hj, hi⟩ := q; exact (ih j hj a w hi).le (Nat.le_of_lt_succ hj)
        | _ => exact q
  exact wpI_rounds (key k a w h)
/-- a function's end that reads alone -/
theorem tail_read {P : Program} {A : Nat → Prop} {I : In} {st : St} {w : World} (hok : Ok P A I st w) {fn : Func} {c : Code} {a : Act} {v : SV} (hv : v.ok A I)
    (h : c.wpIn (fW none) 0 P (fun e a' w' => (e = .normal ∨ e = .ret) ∧ (∀ w2, (results fn a'.tmps).run P w2 = .ok (v.den I) w2) ∧ a'.defers = a.defers ∧ Same w w') a w) :
    c.wpIn (fW none) 0 P (EndOk P fn A I st w a.defers v st) a w :=
  wpIn_mono h fun e a' w' ⟨h1, h2, h3, h4⟩ => ⟨h1, I, Mv.same hok h4, h2, ok_mono (fun i hi => .inl hi) v hv, [], h3, MkOk.nil _ _ _ _⟩
/-- a function of whose end something is known, as the evaluator takes it -/
def tailX (P : Program) (f0 : FuncId) (fn : Func) (c : Code) (t : TT) (fuel : Nat) : Extra := fun call f args st => cond (Nat.beq f0 f) (match evTL P call fuel fn t c (args ++ List.replicate (fn.ntmps - args.length) (.tup [])) st with
  | some (v, st') => some (some (.ret v, st'))
  | none => none) none
theorem tailX_ok {P : Program} (hm : P.follows .mixedOrders = true) (hn : NameOk P) {f0 : FuncId} {fn : Func} {c : Code} (hfn : P.funcs[f0]? = some fn) (hb : fn.body = some c) {t : TT} {fuel : Nat} (ht : TTok P fn t c) : ExtraOk P (tailX P f0 fn c t fuel) := by
  intro call hc f args st r st' h A I w hok ha
  unfold tailX at h
  cases hbq : Nat.beq f0 f
  · rw [hbq] at h; cases h
  rw [hbq, cond_true] at h
  obtain rfl := Nat.eq_of_beq_eq_true hbq
  split at h
  · rename_i v st1 he
    cases h
    exact evTL_calls hm hn hc fuel hfn hb ht he hok ha
  · cases h
end Go.E2
