/-
  The evaluator: code, functions, calls within calls. No program is named here. No conditions but those that are named.
-/
import Derived.Test.YtopkdiiigidfdaaGreatEvQ
namespace Go.Ev
open Go.RowKit Go.Al
set_option linter.unusedVariables false

/-- so many rounds -/
def Rounds (P : Program) (c : Code) (Q : Exit → Act → World → Prop) : Nat → Act → World → Prop
  | 0, a, w => c.wp P (Exit.then (fun _ _ => False) Q) a w
  | n + 1, a, w => c.wp P (Exit.then (Rounds P c Q n) Q) a w
theorem Rounds.mono {P : Program} {c : Code} {Q Q' : Exit → Act → World → Prop} (h : ∀ e a w, Q e a w → Q' e a w) : ∀ {n : Nat} {a : Act} {w : World}, Rounds P c Q n a w → Rounds P c Q' n a w
  | 0, a, w, hr => wp_mono hr fun e a w q => by cases e <;> first | exact q.elim | exact h _ _ _ q
  | n + 1, a, w, hr => wp_mono hr fun e a w q => by cases e <;> first | exact Rounds.mono h q | exact h _ _ _ q
theorem wp_rounds {P : Program} {c : Code} {Q : Exit → Act → World → Prop} {n : Nat} {a : Act} {w : World} (h : Rounds P c Q n a w) : (Code.loop c).wp P Q a w := by
  have dec : ∀ a w, ∃ m : Nat, (∃ n, Rounds P c Q n a w) → Rounds P c Q m a w ∧ ∀ k, Rounds P c Q k a w → m ≤ k := fun a w => by
    by_cases hex : ∃ n, Rounds P c Q n a w
    · obtain ⟨n, hn⟩ := hex
      have key : ∀ n, Rounds P c Q n a w → ∃ m, Rounds P c Q m a w ∧ ∀ k, Rounds P c Q k a w → m ≤ k := fun n => by
        induction n using Nat.strongRecOn with
        | _ n ih =>
          intro hn
          by_cases hlt : ∃ k, k < n ∧ Rounds P c Q k a w
          · obtain ⟨k, hk, hr⟩ := hlt
            exact ih k hk hr
          · exact ⟨n, hn, fun k hk => Nat.not_lt.1 fun hl => hlt ⟨k, hl, hk⟩⟩
      obtain ⟨m, hm⟩ := key n hn
      exact ⟨m, fun _ => hm⟩
    · exact ⟨0, fun h => absurd h hex⟩
  refine wp_loop (fun a w => ∃ n, Rounds P c Q n a w) (fun a w => (dec a w).choose) ⟨n, h⟩ fun a w hI => ?_
  have hm := (dec a w).choose_spec hI
  generalize (dec a w).choose = m at hm
  cases m with
  | zero => exact wp_mono hm.1 fun e a w q => by cases e <;> first | exact q.elim | exact q
  | succ m =>
    refine wp_mono hm.1 fun e a' w' q => ?_
    cases e <;> first
      | exact ⟨⟨m, q⟩, Nat.lt_succ_of_le (((dec a' w').choose_spec ⟨m, q⟩).2 m q)⟩
      | exact q
/-- code, in so many steps at most -/
def evC (P : Program) (call : Caller) : Nat → Code → List SV → St → Option (SX × List SV × St)
  | 0, _, _, _ => none
  | n + 1, c, fr, st => match c with
    | .skip => some (.nrm, fr, st)
    | .label _ => some (.nrm, fr, st)
    | .ret => some (.ret, fr, st)
    | .exit id => some (.exit id, fr, st)
    | .seq x y => match evC P call n x fr st with
      | some (.nrm, fr', st') => evC P call n y fr' st'
      | r => r
    | .cond x y z => match opv fr x with
      | some (.bool b) => evC P call n (cond b y z) fr st
      | _ => none
    | .block id x => match evC P call n x fr st with
      | some (.exit id', fr', st') => cond (Nat.beq id' id) (some (.nrm, fr', st')) (some (.exit id', fr', st'))
      | r => r
    | .loop x => match evC P call n x fr st with
      | some (.nrm, fr', st') => evC P call n (.loop x) fr' st'
      | r => r
    | .region _ ops draw => match draw with
      | true => evDraw P call ops fr st
      | false => evL P call ops ops.toList fr st
    | _ => none
section
variable {P : Program} (hm : P.follows .mixedOrders = true) (hn : NameOk P) {call : Caller} (hc : CallOk P call)
include hm hn hc
theorem evC_run : ∀ (n : Nat) (c : Code) (fr : List SV) (st : St) (x : SX) (fr' : List SV) (st' : St), evC P call n c fr st = some (x, fr', st') →
    (∀ A I w a, Ok P A I st w → Fr A I fr a → c.wp P (Res P A I st w x fr' st') a w) ∧
    ∀ d, c = .loop d → ∃ k, ∀ A I w a, Ok P A I st w → Fr A I fr a → Rounds P d (Res P A I st w x fr' st') k a w
  | 0, c, fr, st, x, fr', st', h => by cases h
  | n + 1, c, fr, st, x, fr', st', h => by
    have ih := evC_run n
    have loop : ∀ d, c = .loop d → ∃ k, ∀ A I w a, Ok P A I st w → Fr A I fr a → Rounds P d (Res P A I st w x fr' st') k a w := fun d hd => by
      subst hd
      have h : (match evC P call n d fr st with
        | some (.nrm, fr', st') => evC P call n (.loop d) fr' st'
        | r => r) = some (x, fr', st') := h
      split at h
      · rename_i fr1 st1 h1
        obtain ⟨k, hk⟩ := (ih _ _ _ _ _ _ h).2 d rfl
        refine ⟨k + 1, fun A I w a hok hf => ?_⟩
        refine wp_mono ((ih _ _ _ _ _ _ h1).1 A I w a hok hf) fun e a1 w1 r => ?_
        obtain ⟨I1, hm1, hf1, rfl⟩ := r
        exact Rounds.mono (fun e a w r => r.trans hok hm1) (hk _ _ _ _ hm1.ok hf1)
      · rename_i hne
        refine ⟨0, fun A I w a hok hf => ?_⟩
        refine wp_mono ((ih _ _ _ _ _ _ h).1 A I w a hok hf) fun e a1 w1 r => ?_
        have hx : x ≠ .nrm := fun e => by
          subst e
          exact hne _ _ h
        have hr := r
        obtain ⟨I1, hm1, hf1, hx1⟩ := r
        cases x with
        | nrm => exact absurd rfl hx
        | exit id => cases hx1; exact hr
        | goto l => cases hx1; exact hr
        | ret => cases hx1; exact hr
        | pan v => obtain ⟨rfl, _⟩ := hx1; exact hr
    refine ⟨fun A I w a hok hf => ?_, loop⟩
    have here : x = .nrm → fr' = fr → st' = st → Res P A I st w x fr' st' .normal a w := fun e1 e2 e3 => by
      subst e1 e2 e3
      exact ⟨I, Mv.refl hok, hf.mono fun i hi => .inl hi, rfl⟩
    have h0 := h
    unfold evC at h
    split at h
    · cases h; exact wp_skip (here rfl rfl rfl)
    · cases h; exact wp_label (here rfl rfl rfl)
    · cases h; exact wp_ret ⟨I, Mv.refl hok, hf.mono fun i hi => .inl hi, rfl⟩
    · cases h; exact wp_exit ⟨I, Mv.refl hok, hf.mono fun i hi => .inl hi, rfl⟩
    · rename_i y z
      split at h
      · rename_i fr1 st1 h1
        refine wp_seq (wp_mono ((ih _ _ _ _ _ _ h1).1 A I w a hok hf) fun e a1 w1 r => ?_)
        obtain ⟨I1, hm1, hf1, rfl⟩ := r
        exact wp_mono ((ih _ _ _ _ _ _ h).1 _ _ _ _ hm1.ok hf1) fun e a w r => r.trans hok hm1
      · rename_i hne
        refine wp_seq (wp_mono ((ih _ _ _ _ _ _ h).1 A I w a hok hf) fun e a1 w1 r => ?_)
        have hr := r
        obtain ⟨I1, hm1, hf1, hx1⟩ := r
        cases x with
        | nrm => exact absurd h (hne _ _)
        | exit id => cases hx1; exact hr
        | goto l => cases hx1; exact hr
        | ret => cases hx1; exact hr
        | pan v => obtain ⟨rfl, _⟩ := hx1; exact hr
    · rename_i y z u
      split at h
      · rename_i b hb
        have hd := (opv_den hf hb).1
        refine wp_cond hd ?_
        have := (ih _ _ _ _ _ _ h).1 A I w a hok hf
        cases b <;> exact this
      · cases h
    · rename_i id y
      refine wp_block ?_
      split at h
      · rename_i id' fr1 st1 h1
        refine wp_mono ((ih _ _ _ _ _ _ h1).1 A I w a hok hf) fun e a1 w1 r => ?_
        obtain ⟨I1, hm1, hf1, rfl⟩ := r
        rw [beq_cond] at h
        split at h
        · rename_i he
          cases h
          simp only [Exit.inBlock, he, if_true]
          exact ⟨I1, hm1, hf1, rfl⟩
        · rename_i he
          cases h
          simp only [Exit.inBlock, he, if_false]
          exact ⟨I1, hm1, hf1, rfl⟩
      · rename_i hne
        refine wp_mono ((ih _ _ _ _ _ _ h).1 A I w a hok hf) fun e a1 w1 r => ?_
        have hr := r
        obtain ⟨I1, hm1, hf1, hx1⟩ := r
        cases x with
        | nrm => cases hx1; exact hr
        | exit id => exact absurd h (hne _ _ _)
        | goto l => cases hx1; exact hr
        | ret => cases hx1; exact hr
        | pan v => obtain ⟨rfl, _⟩ := hx1; exact hr
    · rename_i y
      obtain ⟨k, hk⟩ := loop y rfl
      exact wp_rounds (hk A I w a hok hf)
    · rename_i id ops draw
      split at h
      · exact evDraw_run hm hn hc h hok hf id
      · exact wp_region_list (evL_run hn hc h hok hf)
    · cases h
end
/-- the results of a function -/
def resS (P : Program) (st : St) (fr : List SV) : List ResultVar → Option (List SV)
  | [] => some []
  | .tmp t :: l => match resS P st fr l with
    | some m => some (nth fr t :: m)
    | none => none
  | .cell a t :: l => match loadS P st t (nth fr a), resS P st fr l with
    | some v, some m => some (v :: m)
    | _, _ => none
def tupS : List SV → SV
  | [v] => v
  | l => .tup l
theorem nth_den {A : Nat → Prop} {I : In} {fr : List SV} (h : okL A I fr) (t : Nat) : (denL I fr).toArray.getD t undef = (nth fr t).den I ∧ (nth fr t).ok A I := by
  rw [nth_get]
  simp only [Array.getD_eq_getD_getElem?, List.getElem?_toArray, denL_get]
  cases ht : fr[t]? with
  | none => exact ⟨rfl, trivial⟩
  | some v => exact ⟨rfl, h.get ht⟩
theorem resS_run {P : Program} {A : Nat → Prop} {I : In} {st : St} {w : World} (hok : Ok P A I st w) {fr : List SV} (hf : okL A I fr) {f : ResultVar → Sem Value} (f1 : ∀ t, f (.tmp t) = pure ((denL I fr).toArray.getD t undef)) (f2 : ∀ a t, f (.cell a t) = do loadVar t (← asAddr ((denL I fr).toArray.getD a undef))) :
    ∀ {l : List ResultVar} {r : List SV}, resS P st fr l = some r → (l.mapM f).run P w = .ok (denL I r) w ∧ okL A I r
  | [], r, h => by cases h; exact ⟨by simp [denL], trivial⟩
  | .tmp t :: l, r, h => by
    unfold resS at h
    split at h
    · rename_i m hm
      cases h
      have ih := resS_run hok hf f1 f2 hm
      have d := nth_den hf t
      refine ⟨?_, d.2, ih.2⟩
      rw [List.mapM_cons, Sem.run_bind, f1]
      simp only [Sem.run_pure, Result.andThen_ok, Sem.run_bind, ih.1, d.1, denL]
    · cases h
  | .cell a t :: l, r, h => by
    unfold resS at h
    split at h
    · rename_i v m hv hm
      cases h
      have ih := resS_run hok hf f1 f2 hm
      have d := nth_den hf a
      have ld := loadS_run hok hv
      refine ⟨?_, ld.2, ih.2⟩
      rw [List.mapM_cons, Sem.run_bind, f2, d.1]
      have hl : (do loadVar t (← asAddr ((nth fr a).den I)) : Sem Value).run P w = .ok (v.den I) w := by
        have h1 := ld.1
        cases hx : nth fr a <;> (rw [hx] at hv; try (cases hv; done))
        rename_i p
        cases p with
        | none => cases hv
        | some q =>
          rw [hx] at h1
          simpa [Instr.loadAt, Instr.sureAddr, SV.den, asAddr] using h1
      simp only [hl, Result.andThen_ok, Sem.run_bind, ih.1, Sem.run_pure, denL]
    · cases h
theorem results_run {P : Program} {A : Nat → Prop} {I : In} {st : St} {w : World} (hok : Ok P A I st w) {fr : List SV} (hf : okL A I fr) {fn : Func} {r : List SV} (h : resS P st fr fn.results.toList = some r) : (results fn (denL I fr).toArray).run P w = .ok ((tupS r).den I) w ∧ (tupS r).ok A I := by
  constructor
  · unfold results
    rw [Sem.run_bind, Array.mapM_eq_mapM_toList, Sem.run_map, (resS_run hok hf (fun _ => rfl) (fun _ _ => rfl) h).1]
    simp only [Result.andThen_ok, Sem.run_pure]
    match r with
    | [] => simp [tupS, SV.den, denL]
    | [v] => simp [tupS, denL]
    | v :: u :: l => simp [tupS, SV.den, denL]
  · have := (resS_run (f := fun x => match x with
      | .tmp t => pure ((denL I fr).toArray.getD t undef)
      | .cell a t => do loadVar t (← asAddr ((denL I fr).toArray.getD a undef))) hok hf (fun _ => rfl) (fun _ _ => rfl) h).2
    match r, this with
    | [], h => exact h
    | [v], h => exact h.1
    | v :: u :: l, h => exact h
/-- a function's body -/
def evF (P : Program) (call : Caller) (fuel : Nat) (f : FuncId) (args : List SV) (st : St) : Option (SR × St) :=
  match P.funcs[f]? with
  | some fn => match fn.body with
    | some c => match evC P call fuel c (args ++ List.replicate (fn.ntmps - args.length) (.tup [])) st with
      | some (.nrm, fr', st') => match resS P st' fr' fn.results.toList with
        | some r => some (.ret (tupS r), st')
        | none => none
      | some (.ret, fr', st') => match resS P st' fr' fn.results.toList with
        | some r => some (.ret (tupS r), st')
        | none => none
      | some (.pan v, fr', st') => some (.pan v, st')
      | _ => none
    | none => none
  | none => none
theorem evF_run {P : Program} (hm : P.follows .mixedOrders = true) (hn : NameOk P) {call : Caller} (hc : CallOk P call) (fuel : Nat) : CallOk P (evF P call fuel) := by
  intro f args st r st' h A I w hok ha
  unfold evF at h
  split at h
  case h_2 => cases h
  rename_i fn hfn
  split at h
  case h_2 => cases h
  rename_i c hb
  refine calls_of_wp hfn hb ?_
  have hF : Fr A I (args ++ List.replicate (fn.ntmps - args.length) (.tup [])) { tmps := (denL I args).toArray ++ Array.replicate (fn.ntmps - (denL I args).toArray.size) undef, defers := [] } := by
    refine ⟨rfl, ?_, ha.append (okL_iff.2 fun v hv => by rw [(List.mem_replicate.1 hv).2]; trivial)⟩
    have : denL I (List.replicate (fn.ntmps - args.length) (.tup [])) = List.replicate (fn.ntmps - args.length) undef := by
      rw [denL_map, List.map_replicate]; rfl
    rw [denL_append, this]
    simp
  have back : ∀ (x : SX) (fr' : List SV) (st1 : St) (e : Exit) (a' : Act) (w' : World), (x = .nrm ∨ x = .ret) → (match resS P st1 fr' fn.results.toList with
        | some r => some (SR.ret (tupS r), st1)
        | none => none) = some (r, st') → Res P A I st w x fr' st1 e a' w' → bodyPost P fn (fun e w' => ∃ I', Mv P A I st w I' st' w' ∧ r.is (up A st.nx st'.nx) I' e) e a' w' := fun x fr' st1 e a' w' hx h ⟨I', hmv, hf', hx'⟩ => by
    split at h
    case h_2 => cases h
    rename_i rr hr
    cases h
    have := results_run hmv.ok hf'.ok hr
    rw [← hf'.tmps] at this
    have key : a'.defers = [] ∧ ∃ v, (results fn a'.tmps).run P w' = .ok v w' ∧ ∃ I', Mv P A I st w I' st' w' ∧ (SR.ret (tupS rr)).is (up A st.nx st'.nx) I' (.returned v) := ⟨hf'.defers, _, this.1, I', hmv, rfl, this.2⟩
    rcases hx with rfl | rfl
    · cases hx'; exact key
    · cases hx'; exact key
  split at h
  · rename_i fr' st1 he
    exact wp_mono ((evC_run hm hn hc _ _ _ _ _ _ _ he).1 A I w _ hok hF) fun e a' w' r => back _ _ _ _ _ _ (.inl rfl) h r
  · rename_i fr' st1 he
    exact wp_mono ((evC_run hm hn hc _ _ _ _ _ _ _ he).1 A I w _ hok hF) fun e a' w' r => back _ _ _ _ _ _ (.inr rfl) h r
  · rename_i v fr' st1 he
    cases h
    refine wp_mono ((evC_run hm hn hc _ _ _ _ _ _ _ he).1 A I w _ hok hF) fun e a' w' r => ?_
    obtain ⟨I', hmv, hf', rfl, hv⟩ := r
    exact ⟨hf'.defers, I', hmv, rfl, hv⟩
  · cases h
/-- functions that are not walked through: what is known of them; none: walk through -/
abbrev Extra := Caller → FuncId → List SV → St → Option (Option (SR × St))
def ExtraOk (P : Program) (X : Extra) : Prop := ∀ call, CallOk P call → ∀ f args st r st', X call f args st = some (some (r, st')) → ∀ A I w, Ok P A I st w → okL A I args →
  Calls P f (denL I args).toArray w fun e w' => ∃ I', Mv P A I st w I' st' w' ∧ r.is (up A st.nx st'.nx) I' e
/-- calls so deep at most -/
def evN (P : Program) (X : Extra) (fuel : Nat) : Nat → Caller
  | 0 => fun _ _ _ => none
  | n + 1 => fun f args st => match X (evN P X fuel n) f args st with
    | some r => r
    | none => evF P (evN P X fuel n) fuel f args st
theorem evN_run {P : Program} (hm : P.follows .mixedOrders = true) (hn : NameOk P) {X : Extra} (hX : ExtraOk P X) (fuel : Nat) : ∀ n, CallOk P (evN P X fuel n)
  | 0 => fun f args st r st' h => by cases h
  | n + 1 => fun f args st r st' h => by
    unfold evN at h
    split at h
    · rename_i r1 h1
      subst h
      exact hX _ (evN_run hm hn hX fuel n) f args st r st' h1
    · exact evF_run hm hn (evN_run hm hn hX fuel n) fuel f args st r st' h
end Go.Ev
