/-
  The evaluator at this program: what is thrown and caught; a closed call that is true. No conditions.
-/
import Derived.Test.YthjnecicagmdeaaGreatTrC
import Derived.Test.YthjnecicagmdeaaGreatEc
namespace Go.Proofs.YthjnecicagmdeaaGreat.V
open Go.Proofs.YthjnecicagmdeaaGreat Go.RowKit Go.Al Go.E2
set_option linter.unusedVariables false

theorem nameOk : NameOk Tryz.prog := ⟨fun f fn hf hb => by
  have h : (Tryz.prog.funcs.toList.all fun fn => !(fn.name == "runtime.NumGoroutine")) = true := by kernel_rfl
  have hm : fn ∈ Tryz.prog.funcs.toList := by
    rw [Array.mem_toList_iff]
    exact Array.mem_of_getElem? hf
  have := List.all_eq_true.1 h fn hm
  simpa using this⟩
section
set_option linter.unusedSectionVars false
variable [Th] [Facts]
/-- what is known behind a call, though blocks that are nobody's have changed -/
theorem Mv.after {P : Program} {A : Nat → Prop} {I I' : In} {st st' : St} {w w1 w2 w3 : World} (hok : Ok P A I st w) (h01 : Same w w1) (hm : Mv P A I st w1 I' st' w2) (hc : Chg (fun k => w.heap.size ≤ k ∧ k < w1.heap.size) w2 w3) : Mv P A I st w I' st' w3 := by
  have hlive : ∀ id, E2.look st'.H id ≠ none → ∀ b, (I'.esl id).fp b → ¬ (w.heap.size ≤ b ∧ b < w1.heap.size) := fun id hl b hb h => by
    rcases Nat.lt_or_ge id st.nx with hlt | hge
    · have h1 : E2.look st.H id ≠ none := fun h0 => hl (hm.dead id hlt h0)
      rw [(hm.ext id (.inl hlt)).2.2] at hb
      have := hok.fp_lt h1 hb
      omega
    · rcases hm.new id hge hl b hb with h1 | ⟨k, h1, _, h2⟩
      · omega
      · have := hok.fp_lt h1 h2
        omega
  refine ⟨hm.nx, hm.ext, hm.val, ?_, hm.log, hm.wr, fun id hid hl b hb => ?_, hm.dead, ⟨hm.ok.lt, hm.ok.key, fun id o ho => (hm.ok.real id o ho).frame fun b hb => hc.block _ ((hm.ok.real id o ho).lt b hb) (hlive id (by rw [ho]; simp) b hb), hm.ok.inj, hm.ok.val⟩, fun b hb hn => ((hc.block b (Nat.lt_of_lt_of_le hb (Nat.le_trans h01.size hm.chg.size)) fun h => by omega).trans (hm.own b (Nat.lt_of_lt_of_le hb h01.size) hn)).trans (h01.block b hb fun x => x)⟩
  · have h1 : Chg (fun b => ∃ id, E2.look st.H id ≠ none ∧ (I.esl id).fp b) w w2 := Chg.of_same h01 hm.chg
    have h2 := h1.trans (hc.mono (S' := fun k => w.heap.size ≤ k ∧ k < w1.heap.size) fun _ _ h => h) (fun k hk h => absurd h.1 (by omega))
    exact h2
  · rcases hm.new id hid hl b hb with h1 | h1
    · exact .inl (Nat.le_trans h01.size h1)
    · exact .inr h1
/-- catch, as the evaluator knows it -/
noncomputable def catchX : Extra := fun call f args st => match Nat.beq f 323, args with
  | true, [.func (.func K) fs caps] => cond (bodyB Tryz.prog K) (some (match call (.inl K) (fs ++ caps) st with
    | some (.ret (.tup []), st') => some (.ret (.tup [.agg [.int .i64 0, .int .i64 0], .bool false]), st')
    | some (.pan (.iface t (.agg [.int .i64 wh, .int .i64 c])), st') => cond (Nat.beq t 375) (some (.ret (.tup [.agg [.int .i64 wh, .int .i64 c], .bool true]), st')) none
    | _ => none)) none
  | _, _ => none
theorem catchX_ok : ExtraOk Tryz.prog catchX := by
  intro call hcall f args st r st' h A I w hok hargs
  unfold catchX at h
  split at h
  case h_2 => cases h
  rename_i K fs caps hf
  rw [Nat.beq_eq] at hf
  subst hf
  cases hb : bodyB Tryz.prog K
  · rw [hb] at h; cases h
  rw [hb, cond_true] at h
  have hcaps : okL A I (fs ++ caps) := hargs.1.1.append hargs.1.2
  have hden : (denL I (fs ++ caps)).toArray = (denL I fs).toArray ++ (denL I caps).toArray := by rw [denL_append]; simp
  have eK : ∀ args w, (callFunc K args).run Tryz.prog w = .ok (.enter K args) w := fun args w => callFunc_enter nameOk hb args w
  have hS : ∀ k, (∃ id, E2.look st.H id ≠ none ∧ (I.esl id).fp k) → k < w.heap.size := fun k ⟨id, h1, h2⟩ => hok.fp_lt h1 h2
  injection h with h
  split at h
  · rename_i st1 hc
    cases h
    have := catchG_ok eK (S := fun b => ∃ id, E2.look st.H id ≠ none ∧ (I.esl id).fp b) (fun w1 w2 => ∃ I', Mv Tryz.prog A I st w1 I' st' w2) (fs := (denL I fs).toArray) (caps := (denL I caps).toArray) w hS fun w1 hs =>
      (hden ▸ hcall.1 K (fs ++ caps) st _ _ hc A I w1 (hok.same hs) hcaps).mono fun e w2 ⟨I', hm, he, _⟩ => ⟨he, hm.chg, I', hm⟩
    refine this.mono ?_
    rintro e w' ⟨rfl, w1, w2, h1, h2, ⟨I', hm⟩, h3⟩
    exact ⟨I', Mv.after hok h1 hm h3, rfl, ⟨trivial, trivial, trivial⟩, trivial, trivial⟩
  · rename_i t wh c st1 hc
    rw [beq_cond] at h
    split at h
    · rename_i ht
      subst ht
      cases h
      have := catchG_bad eK (S := fun b => ∃ id, E2.look st.H id ≠ none ∧ (I.esl id).fp b) (fun w1 w2 => ∃ I', Mv Tryz.prog A I st w1 I' st' w2) wh c (fs := (denL I fs).toArray) (caps := (denL I caps).toArray) w hS fun w1 hs =>
        (hden ▸ hcall.1 K (fs ++ caps) st _ _ hc A I w1 (hok.same hs) hcaps).mono fun e w2 ⟨I', hm, he, _⟩ => ⟨he, hm.chg, I', hm⟩
      refine this.mono ?_
      rintro e w' ⟨rfl, w1, w2, h1, h2, ⟨I', hm⟩, h3⟩
      exact ⟨I', Mv.after hok h1 hm h3, rfl, ⟨trivial, trivial, trivial⟩, trivial, trivial⟩
    · cases h
  · cases h
/-- nothing is there but letters -/
def st0 : St := ⟨[], 0, []⟩
def isT : Option (SR × St) → Bool
  | some (.ret (.bool true), _) => true
  | _ => false
theorem isT_spec {r : Option (SR × St)} (h : isT r = true) : ∃ S, r = some (.ret (.bool true), S) := by
  unfold isT at h
  split at h
  · exact ⟨_, rfl⟩
  · cases h
theorem ok0 (P : Program) (v : VL) (hv : ValOk P v) (w : World) : Ok P (fun _ => False) ⟨fun _ => 0, fun _ => 0, fun _ => EX.lit (none, 0), v⟩ st0 w :=
  ⟨fun _ h => h.elim, fun id o h => (by cases h), fun id o h => (by cases h), fun id id' h => absurd rfl h, hv⟩
/-- a call that is evaluated to true is true, and leaves all as it was -/
theorem evT {X : Extra} (hX : ExtraOk Tryz.prog X) {fuel depth : Nat} {f : FuncId} {args : List SV} (h : isT (evN Tryz.prog X fuel depth (.inl f) args st0) = true) (v : VL) (hv : ValOk Tryz.prog v) (ha : okL (fun _ => False) ⟨fun _ => 0, fun _ => 0, fun _ => EX.lit (none, 0), v⟩ args) (w : World) :
    Calls Tryz.prog f (denL ⟨fun _ => 0, fun _ => 0, fun _ => EX.lit (none, 0), v⟩ args).toArray w fun e w' => e = .returned (.bool true) ∧ Same w w' := by
  obtain ⟨S, hS⟩ := isT_spec h
  refine ((evN_run (by kernel_rfl) nameOk hX fuel depth).1 f args st0 _ _ hS _ _ w (ok0 _ v hv w) ha).mono ?_
  rintro e w' ⟨I', hm, rfl, _⟩
  exact ⟨rfl, hm.chg.mono fun k _ ⟨id, h, _⟩ => h rfl⟩
/-- one extra, or another -/
def orX (X Y : Extra) : Extra := fun call f args st => match X call f args st with
  | some r => some r
  | none => Y call f args st
theorem orX_ok {P : Program} {X Y : Extra} (hX : ExtraOk P X) (hY : ExtraOk P Y) : ExtraOk P (orX X Y) := by
  intro call hcall f args st r st' h
  unfold orX at h
  split at h
  · rename_i r' hr
    cases h
    exact hX call hcall f args st r st' hr
  · exact hY call hcall f args st r st' h
/-- a closed call of which it is known that it is true -/
def knownX (f0 : FuncId) : Extra := fun _ f args st => match Nat.beq f f0, args with
  | true, [] => some (some (.ret (.bool true), st))
  | _, _ => none
theorem knownX_ok {f0 : FuncId} (h0 : ∀ w, Calls Tryz.prog f0 #[] w fun e w' => e = .returned (.bool true) ∧ Same w w') : ExtraOk Tryz.prog (knownX f0) := by
  intro call hcall f args st r st' h A I w hok hargs
  unfold knownX at h
  split at h
  · rename_i hf
    rw [Nat.beq_eq] at hf
    subst hf
    cases h
    refine (h0 w).mono ?_
    rintro e w' ⟨rfl, hs⟩
    exact ⟨I, Mv.same hok hs, rfl, trivial⟩
  · cases h
end
/-- nothing is known of letters -/
instance (priority := 10) noThI : Th := noTh
instance (priority := 10) noF : Facts := ⟨[], [], fun _ => True, []⟩
theorem noF_ok (P : Program) {v : VL} (h : ∀ n, (v.v n).oneCell' = true) : ValOk P v := ⟨h, fun f hf => (by cases hf), fun f hf => (by cases hf), trivial, fun f hf => (by cases hf)⟩
/-- the same, of a call without arguments -/
theorem evT0 {X : Extra} (hX : ExtraOk Tryz.prog X) {fuel depth : Nat} {f : FuncId} (h : isT (evN Tryz.prog X fuel depth (.inl f) [] st0) = true) (w : World) : Calls Tryz.prog f #[] w fun e w' => e = .returned (.bool true) ∧ Same w w' :=
  evT hX h ⟨fun _ => .bool true, fun _ => (0 : Int), fun _ => .bool true⟩ (noF_ok _ fun _ => rfl) trivial w
end Go.Proofs.YthjnecicagmdeaaGreat.V
