/-
  What points and intervals suggest, as the evaluator takes it: contracts of suggested, Grow, Around, DeleteFunc. No conditions but those that are named.
-/
import Derived.Test.YthjnecicagmdeaaGreatAqF
import Derived.Test.YthjnecicagmdeaaGreatAqB
import Derived.Test.YthjnecicagmdeaaGreatAqSP
import Derived.Test.YthjnecicagmdeaaGreatAqSS
import Derived.Test.YthjnecicagmdeaaGreatLay
namespace Go.Proofs.YthjnecicagmdeaaGreat.V.AqE
open Go.Proofs.YthjnecicagmdeaaGreat Go.Proofs.YthjnecicagmdeaaGreat.V Go.RowKit Go.E2
open Go.Al hiding P3
set_option linter.unusedVariables false
set_option linter.unusedSectionVars false

theorem grow_any (n : Nat) (hn : n ≤ 1000) (w : World) : Calls Tryz.prog 35 #[.slice none 0 0, .int .i64 n] w (Turns (fun v fp' w' => RowAt 34 10 true v [] fp' w') (fun _ => False) w) := by
  letI : Facts := ⟨[], [], fun _ => True, []⟩
  by_cases h0 : n = 0
  · subst h0
    refine (Any8.slices_Grow_room growQ none 0 0 0 w (Nat.le_refl _) (Nat.zero_le _) (Nat.zero_le _) (Nat.le_refl _)).mono fun e w' ⟨h1, h2⟩ => ?_
    subst h2
    exact ⟨_, fun _ => False, h1, ⟨by decide, (fun l hl => by cases hl), none, 0, rfl, Nat.le_refl _, Nat.zero_le _, fun h => absurd rfl h, fun b => by simp [blkOf], (fun b hb => by cases hb), fun _ => World.ownsRow_nil w' 0 _ _⟩, Chg.refl _ _, fun b hb => hb.elim⟩
  · have hb : Option.map (fun i : TypeInfo => (i.size, i.bytes, (i.zero.map fun z => z.cells.size))) (Tryz.prog.info? 34) = some (10, 80, some 10) := by kernel_rfl
    obtain ⟨i0, hi0⟩ : ∃ i, Tryz.prog.info? 34 = some i := by
      cases h : Tryz.prog.info? 34 with
      | some i => exact ⟨i, rfl⟩
      | none => rw [h] at hb; cases hb
    rw [hi0] at hb
    simp only [Option.map_some, Option.some.injEq, Prod.mk.injEq] at hb
    obtain ⟨hs, hby, hz⟩ := hb
    obtain ⟨z, hiz, hzs⟩ := Option.map_eq_some_iff.1 hz
    refine (Any8.slices_Grow_grow growQ i0 z hi0 hiz (by omega) none 0 0 n [] w (Nat.le_refl _) (by omega) (by rw [hby]; omega) (by omega) (by simp) (fun _ => rfl) (fun a ha => by cases ha)).mono fun e w' ⟨h1, h2⟩ => ?_
    rw [show grownCap w (0 + n) 0 (growQ_ren.t 25) = grownCap w (0 + n) 0 34 from rfl, show growQ_ren.t 25 = 34 from rfl] at *
    have hge : 0 + n ≤ grownCap w (0 + n) 0 34 := grownCap_ge w _ _ _
    have hmx := grownCap_le_maxLen w (0 + n) 0 34 (by unfold maxLen; omega)
    generalize hG : grownCap w (0 + n) 0 34 = G at *
    generalize hcur : (([] : List Value).toArray ++ Builtin.zeroCells z.cells (0 + n - 0) ++ Builtin.zeroCells z.cells (G - (0 + n))) = cur at h2
    have hsz : cur.size = G * 10 := by
      rw [← hcur]
      simp [Builtin.zeroCells, hzs]
      omega
    have hown := World.ownsRow_made (base := 0) (e := 34) (size := 10) w.drew cur G (Nat.zero_le _) hmx hsz
    rw [← h2] at hown
    have hrow := RowAt.grown (L := []) (by decide) (fun l hl => (by cases hl)) hown
    refine ⟨_, _, h1, hrow, ?_, fun b hb => .inl ?_⟩
    · rw [h2]
      exact ((Chg.refl _ w).drew).alloc _
    · cases hb
      exact Nat.le_refl _
def sugE [Facts] (of e code : Nat) : List SV → St → Option (SR × St)
  | [.root j, .func (.func f) [] []], st => match rowJ st j with
    | some (e', sz, own, c, t) => cond (Nat.beq f of && (Nat.beq e' e && (Nat.beq sz 3 && leB (.app 12 [t]) (.lit 20)))) (some (.ret (.root st.nx), ⟨ins (killL [] st.H) st.nx (.blob 106 (.app code [t])), st.nx + 1, [] ++ st.wr⟩)) none
    | none => none
  | _, _ => none
theorem sugE_ok {F : Facts} {g of e code : Nat} (hc : ∀ {own : Bool} {L : List (List Int)} {r : Value} {fp : Nat → Prop} {w : World}, RowAt e 3 own r L fp w → L.length ≤ 20 → Calls Tryz.prog g #[r, .func (.func of) #[] #[]] w (Turns (fun v fp' w' => RowAt 34 10 true v (Th.rw_ (Th.ap code [LD.r L])) fp' w') (fun _ => False) w))
    (hcode : ∀ d : LD, (Th.ap code [d] : LD) = Th.ap code [LD.r d.toR]) : Entry Tryz.prog g (@sugE F of e code) := by
  intro args st r st' h A I w hok ha
  unfold sugE at h
  split at h
  case h_2 => cases h
  rename_i j f
  split at h
  case h_2 => cases h
  rename_i e' sz own c t hj
  rw [Bool.cond_eq_ite] at h
  split at h
  case isFalse => cases h
  rename_i hb
  simp only [Bool.and_eq_true, Nat.beq_eq] at hb
  obtain ⟨rfl, rfl, rfl, hb⟩ := hb
  cases h
  obtain ⟨hl, hrc, hA, hR, hrow⟩ := rowJ_spec hok hj
  have hlen : ((Tm.den I.val.r t).toR).length ≤ 20 := by
    have h1 : (((Tm.den I.val.r t).toR).length : Int) ≤ 20 := leB_den hok.val hb
    omega
  refine turn_entry hok (ks := []) (c := 106) (t := .app code [t]) (fun k hk => by cases hk) ((hc hrow hlen).mono fun e w' ht => ht.mono (fun r fp w' h => ⟨h.one, ?_⟩) (fun b hb => hb.elim))
  have e2 : (Tm.app code [t]).den I.val.r = Th.ap code [LD.r (Tm.den I.val.r t).toR] := hcode _
  show RowAt 34 10 true r (((Tm.app code [t]).den I.val.r).toR) fp w'
  rw [e2]
  exact h
def growE [Facts] : List SV → St → Option (SR × St)
  | [.slice none 0 (.lit 0), v], st => match tmI v with
    | some t => cond (leB (.lit 0) t && leB t (.lit 1000)) (some (.ret (.root st.nx), ⟨ins (killL [] st.H) st.nx (.blob 106 (.app 13 [])), st.nx + 1, [] ++ st.wr⟩)) none
    | none => none
  | _, _ => none
theorem growE_ok {F : Facts} : Entry Tryz.prog 35 growE := by
  intro args st r st' h A I w hok ha
  unfold growE at h
  split at h
  case h_2 => cases h
  rename_i v
  split at h
  case h_2 => cases h
  rename_i t ht
  rw [Bool.cond_eq_ite] at h
  split at h
  case isFalse => cases h
  rename_i hb
  rw [Bool.and_eq_true] at hb
  cases h
  have m0 : (0 : Int) ≤ (t.den I.val.r).toI := leB_den hok.val hb.1
  have m1 : (t.den I.val.r).toI ≤ (1000 : Int) := leB_den hok.val hb.2
  obtain ⟨n, hn⟩ := Int.eq_ofNat_of_zero_le m0
  have e1 : (denL I [.slice none 0 (.lit 0), v]).toArray = #[.slice none 0 0, .int .i64 n] := by
    simp only [denL, tmI_den ht]
    show #[Value.slice none 0 0, .int .i64 ((t.den I.val.r).toI)] = _
    rw [hn]
  rw [e1]
  exact turn_entry hok (ks := []) (c := 106) (t := .app 13 []) (fun k hk => by cases hk) ((grow_any n (by omega) w).mono fun e w' ht => ht.mono (fun r fp w' h => ⟨h.one, h⟩) (fun b hb => hb.elim))
def aroundE [Facts] : List SV → St → Option (SR × St)
  | [.root j], st => match rowJ st j with
    | some (e, sz, own, c, t) => cond (Nat.beq e 40 && (Nat.beq sz 3 && leB (.app 12 [t]) (.lit 20))) (some (.ret (.tup [.agg [.ix (.app 23 [t]), .ix (.app 24 [t]), .ix (.app 25 [t]), .ix (.app 26 [t])], .bx (.app 4 [.app 12 [t], .lit 0]) false]), st)) none
    | none => none
  | _, _ => none
theorem aroundE_ok {F : Facts} : Entry Tryz.prog 20 aroundE := by
  intro args st r st' h A I w hok ha
  unfold aroundE at h
  split at h
  case h_2 => cases h
  rename_i j
  split at h
  case h_2 => cases h
  rename_i e sz own c t hj
  rw [Bool.cond_eq_ite] at h
  split at h
  case isFalse => cases h
  rename_i hb
  simp only [Bool.and_eq_true, Nat.beq_eq] at hb
  obtain ⟨rfl, rfl, hb⟩ := hb
  cases h
  obtain ⟨hl, hrc, hA, hR, hrow⟩ := rowJ_spec hok hj
  obtain ⟨L, hL⟩ : ∃ L, (Tm.den I.val.r t).toR = L := ⟨_, rfl⟩
  have hlen : L.length ≤ 20 := by
    have h1 : (((Tm.den I.val.r t).toR).length : Int) ≤ 20 := leB_den hok.val hb
    rw [hL] at h1
    omega
  have hrow2 : RowAt 40 3 own ((I.esl j).rt.1) L (I.esl j).fp w := by
    have := hrow
    rw [show Th.rw_ (Tm.den I.val.r t) = (Tm.den I.val.r t).toR from rfl, hL] at this
    exact this
  refine read_entry hok ⟨⟨trivial, trivial, trivial, trivial, trivial⟩, trivial, trivial⟩ ((AqB.around_any (L := L) hrow2 hlen).mono fun e w' ⟨h1, h2⟩ => ⟨?_, h2⟩)
  rw [h1]
  show Ending.returned (.tuple #[AqB.boxV L, .bool (decide (L ≠ []))]) = Ending.returned (.tuple #[AqB.boxV (Tm.den I.val.r t).toR, .bool (decide (((Tm.den I.val.r t).toR.length : Int) = 0) == false)])
  rw [hL]
  have : decide (L ≠ []) = (decide ((L.length : Int) = 0) == false) := by
    cases L with
    | nil => rfl
    | cons x l =>
      rw [decide_eq_false (show ¬ (((x :: l).length : Nat) : Int) = 0 by rw [List.length_cons]; omega)]
      rfl
  rw [this]
def delE [Facts] : List SV → St → Option (SR × St)
  | [.root j, .func (.func f) [] []], st => match rowJ st j with
    | some (e, sz, true, c, t) => cond (Nat.beq f 22 && (Nat.beq e 34 && (Nat.beq sz 10 && leB (.app 12 [t]) (.lit 1000)))) (some (.ret (.root st.nx), ⟨ins (killL [j] st.H) st.nx (.blob 107 (.app 27 [t])), st.nx + 1, [j] ++ st.wr⟩)) none
    | _ => none
  | _, _ => none
theorem delE_ok {F : Facts} : Entry Tryz.prog 21 delE := by
  intro args st r st' h A I w hok ha
  unfold delE at h
  split at h
  case h_2 => cases h
  rename_i j f
  split at h
  case h_2 => cases h
  rename_i e sz c t hj
  rw [Bool.cond_eq_ite] at h
  split at h
  case isFalse => cases h
  rename_i hb
  simp only [Bool.and_eq_true, Nat.beq_eq] at hb
  obtain ⟨rfl, rfl, rfl, hb⟩ := hb
  cases h
  obtain ⟨hl, hrc, hA, hR, hrow⟩ := rowJ_spec hok hj
  have hlen : ((Tm.den I.val.r t).toR).length ≤ 1000 := by
    have h1 : (((Tm.den I.val.r t).toR).length : Int) ≤ 1000 := leB_den hok.val hb
    omega
  exact turn_entry hok (ks := [j]) (c := 107) (t := .app 27 [t]) (fun k hk => by rw [List.mem_singleton.1 hk, hl]; simp) ((AqF.delete_any (L := (Tm.den I.val.r t).toR) hrow hlen).mono fun e w' ht => ht.mono (fun r fp w' h => ⟨h.one, h⟩) (fun b hb => ⟨j, List.mem_singleton.2 rfl, hb⟩))
noncomputable def XQ : Facts → Extra := fun F => xOf [(16, @sugE F 17 40 21), (18, @sugE F 19 42 22), (35, @growE F), (20, @aroundE F), (21, @delE F)]
theorem XQ_ok (F : Facts) (_ : F.say = fun _ => True) : @ExtraOk _ F Tryz.prog (XQ F) := by
  letI := F
  exact xOf_ok fun x hx => by
    simp only [List.mem_cons, List.not_mem_nil, or_false] at hx
    rcases hx with rfl | rfl | rfl | rfl | rfl
    · exact sugE_ok (fun h hl => AqSP.sug_any h hl) fun d => rfl
    · exact sugE_ok (fun h hl => AqSS.sug_any h hl) fun d => rfl
    · exact growE_ok
    · exact aroundE_ok
    · exact delE_ok
end Go.Proofs.YthjnecicagmdeaaGreat.V.AqE
