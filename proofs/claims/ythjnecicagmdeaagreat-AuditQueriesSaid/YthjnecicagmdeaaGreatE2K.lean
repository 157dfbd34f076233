/-
  The evaluator at this program: from a form of frame and memory to another one (pieces of code, chained; loops). No conditions but those that are named.
-/
import Derived.Test.YthjnecicagmdeaaGreatE2L
import Derived.Test.YthjnecicagmdeaaGreatE2N
namespace Go.Proofs.YthjnecicagmdeaaGreat.V
open Go.Proofs.YthjnecicagmdeaaGreat Go.RowKit Go.Al Go.E2
set_option linter.unusedVariables false
set_option linter.unusedSectionVars false

/-- a form of what is at hand: memory, how many names, frame -/
structure Frm where
  H : List (Nat × SO)
  n : Nat
  fr : List SV
/-- what a form's name stands for: a name of what was evaluated, or a row that is none yet -/
inductive Src where
  | nm (i : Nat)
  | nil
def Src.isNm : Src → Nat → Bool
  | .nm i, j => Nat.beq i j
  | _, _ => false
def Src.isNil : Src → Bool
  | .nil => true
  | _ => false
def rnAt (rn : List Src) (j : Nat) : Src := rn.getD j (.nm j)
def nilEX : EX := ⟨(none, 0), fun _ => False, ⟨.slice none 0 0, rfl⟩⟩
def rnIn [Th] (I : In) (rn : List Src) : In := ⟨fun j => match rnAt rn j with
  | .nm i => I.adr i
  | .nil => 0, fun j => match rnAt rn j with
  | .nm i => I.cap i
  | .nil => 0, fun j => match rnAt rn j with
  | .nm i => I.esl i
  | .nil => nilEX, I.val⟩
theorem isNm_eq {s : Src} {j : Nat} (h : s.isNm j = true) : s = .nm j := by
  match s, h with
  | .nm i, h => rw [Nat.eq_of_beq_eq_true h]
theorem isNil_eq {s : Src} (h : s.isNil = true) : s = .nil := by
  match s, h with
  | .nil, _ => rfl
def tsD (ts : List Tm) (j : Nat) : Tm := ts.getD j (.var j)
/-- a value fits a form's -/
def fitV (ts : List Tm) (rn : List Src) (m : Nat) (a b : SV) : Bool := match a with
  | .ix (.var j) => match tmI b with
    | some t => t.eqb (tsD ts j)
    | none => false
  | .root j => match b with
    | .root j' => (rnAt rn j).isNm j'
    | .slice none 0 (.lit 0) => (rnAt rn j).isNil
    | _ => false
  | .ptr (some (j, o)) => match b with
    | .ptr (some (j', o')) => (rnAt rn j).isNm j' && Nat.beq o o'
    | _ => false
  | .vw j sz (.lit o) (.var v) => match b with
    | .vw j' sz' o' t => (rnAt rn j).isNm j' && (Nat.beq sz sz' && ((Tm.lit o).eqb o' && t.eqb (tsD ts v)))
    | _ => false
  | a => closedB m a && a.eqb b
def fitVs (ts : List Tm) (rn : List Src) (m : Nat) : List SV → List SV → Bool
  | [], [] => true
  | a :: l, b :: k => fitV ts rn m a b && fitVs ts rn m l k
  | _, _ => false
def fitFr (ts : List Tm) (rn : List Src) (m : Nat) : Nat → List SV → List SV → Bool
  | _, [], [] => true
  | i, .any k :: l, _ :: b => Nat.beq k i && fitFr ts rn m (i + 1) l b
  | i, a :: l, b :: k => fitV ts rn m a b && fitFr ts rn m (i + 1) l k
  | _, _, _ => false
def idUp (rn : List Src) (m : Nat) : Bool := (List.range m).all fun i => (rnAt rn i).isNm i
def rowB [Th] (c : Nat) : Bool := match Th.rowc c with
  | some (_, sz, _) => Nat.blt 0 sz
  | none => false
def fitM [Th] (H : List (Nat × SO)) (ts : List Tm) (rn : List Src) (m : Nat) (x : Nat × SO) : Bool := match x.2, rnAt rn x.1 with
  | .blob c (.var v), .nm j => match E2.look H j with
    | some (.blob c' t) => Nat.beq c c' && t.eqb (tsD ts v)
    | _ => false
  | .blob c (.var v), .nil => rowB c && (tsD ts v).eqb (.app 13 [])
  | .cells e cs none, .nm j => match E2.look H j with
    | some (.cells e' cs' none) => Nat.beq e e' && fitVs ts rn m cs cs'
    | _ => false
  | _, _ => false
def apartB (rn : List Src) : List (Nat × SO) → Bool
  | [] => true
  | x :: l => (l.all fun y => !Nat.beq x.1 y.1 && (match rnAt rn x.1, rnAt rn y.1 with
    | .nm i, .nm j => !Nat.beq i j
    | _, _ => true)) && apartB rn l
/-- a frame's form -/
def formV (n : Nat) : List SV → Bool
  | [] => true
  | .vw j _ _ _ :: l => Nat.blt j n && formV n l
  | v :: l => formB n [v] && formV n l
/-- a form whose parts are known values, letters, names below n -/
def Frm.okB (F : Frm) : Bool := formV F.n F.fr && F.H.all fun x => Nat.blt x.1 F.n && match x.2 with
  | .cells _ cs none => formB F.n cs
  | .blob _ _ => true
  | _ => false
def _root_.Go.E2.SV.isVw : SV → Bool
  | .vw _ _ _ _ => true
  | _ => false
/-- memory and frame have a form -/
structure At [Th] (F : Frm) (N : In) (r : Nat → Th.D) (u : Nat → Value) (a : Act) (w : World) : Prop where
  tmps : a.tmps = (denL (Imk N r u) F.fr).toArray
  mem : ∀ x ∈ F.H, RealW Tryz.prog (Imk N r u) x.1 x.2 w
  dis : F.H.Pairwise fun x y => x.1 ≠ y.1 ∧ ∀ b, (N.esl x.1).fp b → ¬ (N.esl y.1).fp b
  vws : ∀ v ∈ F.fr, v.isVw = true → v.ok (fun i => i < F.n) (Imk N r u)
theorem formV_ok [Th] {n : Nat} {I : In} : ∀ l : List SV, formV n l = true → (∀ v ∈ l, v.isVw = true → v.ok (fun i => i < n) I) → okL (fun i => i < n) I l
  | [], _, _ => trivial
  | v :: l, h, hv => by
    have tl := fun h => formV_ok (n := n) (I := I) l h fun v' h' => hv v' (List.mem_cons_of_mem _ h')
    unfold formV at h
    split at h
    · rename_i e; cases e
    · rename_i e
      cases e
      rw [Bool.and_eq_true] at h
      exact ⟨hv _ (List.mem_cons_self ..) rfl, tl h.2⟩
    · rename_i e
      cases e
      rw [Bool.and_eq_true] at h
      exact ⟨(formB_ok _ h.1).1, tl h.2⟩
theorem Frm.ok_of [Th] {F : Frm} (h : F.okB = true) (I : In) (hv : ∀ v ∈ F.fr, v.isVw = true → v.ok (fun i => i < F.n) I) : okL (fun i => i < F.n) I F.fr ∧ ∀ x ∈ F.H, x.1 < F.n ∧ x.2.ok (fun i => i < F.n) I := by
  unfold Frm.okB at h
  rw [Bool.and_eq_true] at h
  refine ⟨formV_ok _ h.1 hv, fun x hx => ?_⟩
  have h2 := List.all_eq_true.1 h.2 x hx
  rw [Bool.and_eq_true] at h2
  refine ⟨Nat.le_of_ble_eq_true h2.1, ?_⟩
  obtain ⟨k, so⟩ := x
  have h3 := h2.2
  revert h3
  match so with
  | .cells _ cs none => exact fun h => ⟨formB_ok _ h, fun j hj => by cases hj⟩
  | .blob _ _ => exact fun _ => trivial
  | .cells _ _ (some _) => exact fun h => by cases h
  | .map _ _ => exact fun h => by cases h
  | .loop _ _ _ _ _ _ => exact fun h => by cases h
  | .iter _ _ _ _ => exact fun h => by cases h
section
variable [Th] {ts : List Tm} {rn : List Src} {m : Nat} {I' : In} {r : Nat → Th.D} {u : Nat → Value}
def newR (ts : List Tm) (r : Nat → Th.D) (j : Nat) : Th.D := (tsD ts j).den r
theorem rnIn_id (hm : idUp rn m = true) {i : Nat} (hi : i < m) : (rnIn I' rn).adr i = I'.adr i ∧ (rnIn I' rn).cap i = I'.cap i ∧ (rnIn I' rn).esl i = I'.esl i := by
  have := isNm_eq (List.all_eq_true.1 hm i (List.mem_range.2 hi))
  simp only [rnIn, this, and_self]
theorem fitV_den (hm : idUp rn m = true) (hr : I'.val.r = r) {a b : SV} (h : fitV ts rn m a b = true) : a.den (Imk (rnIn I' rn) (newR ts r) u) = b.den I' := by
  letI : Facts := ⟨[], [], fun _ => True, []⟩
  have key : ∀ {a b : SV}, (closedB m a && a.eqb b) = true → a.den (Imk (rnIn I' rn) (newR ts r) u) = b.den I' := fun {a b} h => by
    rw [Bool.and_eq_true] at h
    rw [(SV.eqb_den I' a b h.2).1]
    exact closedB_den (I := Imk (rnIn I' rn) (newR ts r) u) (J := I') (fun i hi => rnIn_id hm hi) a h.1
  unfold fitV at h
  split at h
  · rename_i j
    split at h
    · rename_i t ht
      rw [tmI_den ht, hr]
      simp only [SV.den, Tm.den, Imk, vlu, newR]
      rw [eqb_eq _ _ h]
    · cases h
  · rename_i j
    split at h
    · rename_i j'
      simp only [SV.den, Imk, rnIn, isNm_eq h]
    · simp only [SV.den, Imk, rnIn, isNil_eq h, nilEX, Option.map_none, Cap.den]
    · cases h
  · rename_i j o
    split at h
    · rename_i j' o'
      rw [Bool.and_eq_true] at h
      rw [Nat.eq_of_beq_eq_true h.2]
      simp only [SV.den, Option.map_some, padr, Imk, rnIn, isNm_eq h.1]
    · cases h
  · rename_i j sz o v
    split at h
    · rename_i j' sz' o' t
      simp only [Bool.and_eq_true] at h
      obtain ⟨h1, h2, h3, h4⟩ := h
      rw [← Nat.eq_of_beq_eq_true h2, ← eqb_eq _ _ h3]
      simp only [SV.den, Imk, rnIn, isNm_eq h1, Tm.den, vlu, newR]
      rw [← eqb_eq _ _ h4, hr]
    · cases h
  · exact key h
theorem fitV_vw (hm : idUp rn m = true) (hr : I'.val.r = r) {B : Nat → Prop} {n : Nat} {a b : SV} (h : fitV ts rn m a b = true) (hv : a.isVw = true) (hn : formV n [a] = true) (hb : b.ok B I') : a.ok (fun i => i < n) (Imk (rnIn I' rn) (newR ts r) u) := by
  match a, hv with
  | .vw j sz (.lit o) (.var v), _ =>
    unfold fitV at h
    dsimp only at h
    split at h
    · rename_i j' sz' o' t
      simp only [Bool.and_eq_true] at h
      obtain ⟨h1, h2, h3, h4⟩ := h
      simp only [formV, Bool.and_true] at hn
      simp only [SV.ok] at hb ⊢
      refine ⟨Nat.le_of_ble_eq_true hn, ?_⟩
      rw [← eqb_eq _ _ h3, eqb_eq _ _ h4, hr] at hb
      simp only [Imk, rnIn, isNm_eq h1, Tm.den, vlu, newR] at hb ⊢
      exact hb.2
    · cases h
  | .vw j sz (.var _) _, _ => simp only [fitV, closedB, Bool.false_and, Bool.false_eq_true] at h
  | .vw j sz (.app _ _) _, _ => simp only [fitV, closedB, Bool.false_and, Bool.false_eq_true] at h
  | .vw j sz (.lit _) (.lit _), _ => simp only [fitV, closedB, Bool.false_and, Bool.false_eq_true] at h
  | .vw j sz (.lit _) (.app _ _), _ => simp only [fitV, closedB, Bool.false_and, Bool.false_eq_true] at h
theorem formV_cons {n : Nat} {a : SV} {l : List SV} (h : formV n (a :: l) = true) : formV n [a] = true ∧ formV n l = true := by
  unfold formV at h
  split at h
  · rename_i e; cases e
  · rename_i e
    cases e
    rw [Bool.and_eq_true] at h
    exact ⟨by simp [formV, h.1], h.2⟩
  · rename_i hn e
    cases e
    rw [Bool.and_eq_true] at h
    refine ⟨?_, h.2⟩
    unfold formV
    split
    · rename_i e; cases e
    · rename_i e; cases e; exact absurd rfl (hn _ _ _ _)
    · rename_i e; cases e; simp [h.1, formV]
theorem fitFr_vw (hm : idUp rn m = true) (hr : I'.val.r = r) {B : Nat → Prop} {n : Nat} : ∀ (l k : List SV) (i : Nat), fitFr ts rn m i l k = true → formV n l = true → okL B I' k → ∀ v ∈ l, v.isVw = true → v.ok (fun i => i < n) (Imk (rnIn I' rn) (newR ts r) u)
  | [], _, _, _, _, _, v, hv, _ => by cases hv
  | a :: l, b :: k, i, h, hn, hk, v, hv, hw => by
    obtain ⟨n1, n2⟩ := formV_cons hn
    have tl : fitFr ts rn m (i + 1) l k = true → v ∈ l → v.ok (fun i => i < n) (Imk (rnIn I' rn) (newR ts r) u) := fun h hv => fitFr_vw hm hr l k (i + 1) h n2 hk.2 v hv hw
    unfold fitFr at h
    split at h
    · rename_i e _; cases e
    · rename_i e1 e2
      cases e1; cases e2
      rw [Bool.and_eq_true] at h
      rcases List.mem_cons.1 hv with rfl | hv
      · cases hw
      · exact tl h.2 hv
    · rename_i e1 e2
      cases e1; cases e2
      rw [Bool.and_eq_true] at h
      rcases List.mem_cons.1 hv with rfl | hv
      · exact fitV_vw hm hr h.1 hw n1 hk.1
      · exact tl h.2 hv
    · cases h
  | a :: _, [], _, h, _, _, _, _, _ => by cases a <;> simp [fitFr] at h
theorem fitVs_den (hm : idUp rn m = true) (hr : I'.val.r = r) : ∀ {l k : List SV}, fitVs ts rn m l k = true → denL (Imk (rnIn I' rn) (newR ts r) u) l = denL I' k
  | [], [], _ => rfl
  | a :: l, b :: k, h => by
    simp only [fitVs, Bool.and_eq_true] at h
    simp only [denL, fitV_den hm hr h.1, fitVs_den hm hr h.2]
  | [], _ :: _, h => by cases h
  | _ :: _, [], h => by cases h
theorem fitFr_den (hm : idUp rn m = true) (hr : I'.val.r = r) : ∀ (l k : List SV) (i : Nat), fitFr ts rn m i l k = true → (∀ j, j < k.length → u (i + j) = ((denL I' k).getD j undef)) → denL (Imk (rnIn I' rn) (newR ts r) u) l = denL I' k
  | [], [], _, _, _ => rfl
  | a :: l, b :: k, i, h, hu => by
    have tl : fitFr ts rn m (i + 1) l k = true → denL (Imk (rnIn I' rn) (newR ts r) u) l = denL I' k := fun h => fitFr_den hm hr l k (i + 1) h fun j hj => by
      have := hu (j + 1) (by simpa using hj)
      simp only [denL, List.getD_cons_succ] at this
      rw [← this]
      congr 1
      omega
    unfold fitFr at h
    split at h
    · rename_i e _; cases e
    · rename_i e1 e2
      cases e1; cases e2
      rw [Bool.and_eq_true] at h
      simp only [denL]
      rw [tl h.2]
      congr 1
      have := hu 0 (by simp)
      simp only [denL, Nat.add_zero, List.getD_cons_zero] at this
      rw [← Nat.eq_of_beq_eq_true h.1] at this
      exact this
    · rename_i e1 e2
      cases e1; cases e2
      rw [Bool.and_eq_true] at h
      simp only [denL]
      rw [tl h.2, fitV_den hm hr h.1]
    · cases h
  | [], _ :: _, _, h, _ => by cases h
  | a :: _, [], _, h, _ => by cases a <;> simp [fitFr] at h
theorem nilRow {c : Nat} {t : Tm} (hc : rowB c = true) (ht : t.eqb (.app 13 []) = true) (w : World) : Th.holds c (.slice none 0 0) (t.den r) (fun _ => False) w := by
  unfold rowB at hc
  split at hc
  case h_2 => cases hc
  rename_i e sz own hrc
  have hR := Th.rows_ hrc
  refine (Th.row_ hrc).2 ?_
  rw [eqb_eq _ _ ht]
  simp only [Tm.den, tdenL, hR.nil]
  exact ⟨Nat.le_of_ble_eq_true hc, (fun l hl => by cases hl), none, 0, rfl, Nat.le_refl _, Nat.zero_le _, fun h => absurd rfl h, fun b => by simp [blkOf], (fun b hb => by cases hb), fun _ => World.ownsRow_nil w 0 e sz⟩
theorem fitM_real {H : List (Nat × SO)} {w : World} (hm : idUp rn m = true) (hr : I'.val.r = r) (hH : ∀ j o, E2.look H j = some o → RealW Tryz.prog I' j o w) {x : Nat × SO} (h : fitM H ts rn m x = true) : RealW Tryz.prog (Imk (rnIn I' rn) (newR ts r) u) x.1 x.2 w := by
  obtain ⟨k, so⟩ := x
  unfold fitM at h
  dsimp only at h ⊢
  split at h
  · rename_i c v j hj
    split at h
    · rename_i c' t hl
      rw [Bool.and_eq_true] at h
      have h0 := hH _ _ hl
      rw [← Nat.eq_of_beq_eq_true h.1] at h0
      simp only [RealW, Imk, rnIn, hj, Tm.den, vlu, newR] at h0 ⊢
      rw [← eqb_eq _ _ h.2, ← hr]
      exact h0
    · cases h
  · rename_i c v hj
    rw [Bool.and_eq_true] at h
    simp only [RealW, Imk, rnIn, hj, Tm.den, vlu, newR, nilEX]
    exact nilRow h.1 h.2 w
  · rename_i e cs j hj
    split at h
    · rename_i e' cs' hl
      rw [Bool.and_eq_true] at h
      obtain ⟨h1, ob, h2, h3⟩ := hH _ _ hl
      rw [← Nat.eq_of_beq_eq_true h.1] at h3
      have hd := fitVs_den (u := u) hm hr h.2
      refine ⟨?_, ob, ?_, ?_⟩
      · simp only [Imk, rnIn, hj]; exact h1
      · simp only [Imk, rnIn, hj]; exact h2
      · simp only [Real] at h3 ⊢
        rw [h3, hd]
    · cases h
  · cases h
end
/-- ways from a form on: how the piece is left, the form behind it, the letters' new values, whence its names come, how many names stay, what may have been written -/
inductive KT where
  | leaf (k : Nat) (F : Frm) (ts : List Tm) (rn : List Src) (m : Nat) (W : List Nat)
  | fork (t : Tm) (a b : KT)
  | dead
def evalsK [Th] [Facts] (P : Program) (X : Extra) (fuel depth : Nat) (d : Code) (G : Frm) (k : Nat) (F : Frm) (ts : List Tm) (rn : List Src) (m : Nat) (W : List Nat) : Bool :=
  match evC P (evN P X fuel depth) none fuel d G.fr ⟨G.H, G.n, []⟩ with
  | some (x, fr', st') => (match codeX x with
      | some k' => Nat.beq k k'
      | none => false) && (formV F.n F.fr && (fitFr ts rn m 0 F.fr fr' && (idUp rn m && (apartB rn F.H && (F.H.all (fitM st'.H ts rn m) && ((st'.wr.all fun i => memN i W || Nat.ble G.n i) && G.H.all fun x => memN x.1 W || (match E2.look st'.H x.1 with
        | some _ => true
        | none => false)))))))
  | none => false
def chkK [Th] (S : VL → Prop) (P : Program) (X : Facts → Extra) (fuel depth : Nat) (d : Code) (G : Frm) : KT → List (Tm × Bool) → Bool
  | .leaf k F ts rn m W, l => @evalsK _ (decF S l) P (X (decF S l)) fuel depth d G k F ts rn m W
  | .fork t a b, l => chkK S P X fuel depth d G a ((t, true) :: l) && chkK S P X fuel depth d G b ((t, false) :: l)
  | .dead, _ => true
def KT.pick [Th] (r : Nat → Th.D) : KT → Option (Nat × Frm × List Tm × List Src × Nat × List Nat)
  | .leaf k F ts rn m W => some (k, F, ts, rn, m, W)
  | .fork t a b => cond (Th.toB (t.den r)) (a.pick r) (b.pick r)
  | .dead => none
theorem chkK_spec [Th] {S : VL → Prop} {P : Program} {X : Facts → Extra} {fuel depth : Nat} {d : Code} {G : Frm} {r : Nat → Th.D} {k : Nat} {F : Frm} {ts : List Tm} {rn : List Src} {m : Nat} {W : List Nat} : ∀ {dt : KT} {l : List (Tm × Bool)}, chkK S P X fuel depth d G dt l = true → DecOk l r → dt.pick r = some (k, F, ts, rn, m, W) →
    ∃ l', DecOk l' r ∧ @evalsK _ (decF S l') P (X (decF S l')) fuel depth d G k F ts rn m W = true
  | .leaf _ _ _ _ _ _, l, h, hl, hp => by cases hp; exact ⟨l, hl, h⟩
  | .dead, l, h, hl, hp => by cases hp
  | .fork t a b, l, h, hl, hp => by
    simp only [chkK, Bool.and_eq_true] at h
    cases ht : Th.toB (t.den r)
    · rw [KT.pick, ht, cond_false] at hp
      exact chkK_spec h.2 (DecOk.cons ht hl) hp
    · rw [KT.pick, ht, cond_true] at hp
      exact chkK_spec h.1 (DecOk.cons ht hl) hp
/-- behind a piece -/
structure Beh [Th] (G F : Frm) (N : In) (rn : List Src) (m : Nat) (W : List Nat) (N2 : In) (w w' : World) : Prop where
  keep : ∀ i, i < m → i < G.n → N2.adr i = N.adr i ∧ N2.cap i = N.cap i ∧ N2.esl i = N.esl i
  chg : Chg (fun b => ∃ id, id ∈ W ∧ E2.look G.H id ≠ none ∧ (N.esl id).fp b) w w'
  new : ∀ x ∈ F.H, (∃ j, j < G.n ∧ rnAt rn x.1 = .nm j ∧ N2.esl x.1 = N.esl j ∧ N2.adr x.1 = N.adr j) ∨ ∀ b, (N2.esl x.1).fp b → w.heap.size ≤ b ∨ ∃ id, id ∈ W ∧ E2.look G.H id ≠ none ∧ (N.esl id).fp b
theorem apartB_pw {rn : List Src} {p : Nat × SO → Nat × SO → Prop} : ∀ {l : List (Nat × SO)}, apartB rn l = true → (∀ x ∈ l, ∀ y ∈ l, x.1 ≠ y.1 → (∀ i j, rnAt rn x.1 = .nm i → rnAt rn y.1 = .nm j → i ≠ j) → p x y) → l.Pairwise p
  | [], _, _ => .nil
  | x :: l, h, hp => by
    simp only [apartB, Bool.and_eq_true] at h
    refine List.pairwise_cons.2 ⟨fun y hy => ?_, apartB_pw h.2 fun a ha b hb => hp a (List.mem_cons_of_mem _ ha) b (List.mem_cons_of_mem _ hb)⟩
    have := List.all_eq_true.1 h.1 y hy
    rw [Bool.and_eq_true] at this
    refine hp x (List.mem_cons_self ..) y (List.mem_cons_of_mem _ hy) (fun e => ?_) fun i j h1 h2 e => ?_
    · have h3 := this.1
      rw [e, Nat.beq_refl] at h3
      cases h3
    · have h3 := this.2
      rw [h1, h2, e] at h3
      simp only [Nat.beq_refl, Bool.not_true, Bool.false_eq_true] at h3
/-- a piece of code, from a form to another -/
theorem stepK [Th] {S : VL → Prop} {X : Facts → Extra} (hX : ∀ F : Facts, F.say = S → @ExtraOk _ F Tryz.prog (X F)) {fuel depth : Nat} {d : Code} {G : Frm} {dt : KT} {l0 : List (Tm × Bool)} (hrf : noRF d = true) (hG : G.okB = true) (h : chkK S Tryz.prog X fuel depth d G dt l0 = true)
    {N : In} {r : Nat → Th.D} {u : Nat → Value} {a : Act} {w : World} (hA : At G N r u a w) (hl0 : DecOk l0 r) (hS : S (vlu r u)) {k : Nat} {F : Frm} {ts : List Tm} {rn : List Src} {m : Nat} {W : List Nat} (hp : dt.pick r = some (k, F, ts, rn, m, W)) :
    d.wpIn (fW none) 0 Tryz.prog (fun e a' w' => isX k e ∧ a'.defers = a.defers ∧ ∃ N2 u2, At F N2 (newR ts r) u2 a' w' ∧ Beh G F N rn m W N2 w w') a w := by
  obtain ⟨l, hl, h⟩ := chkK_spec h hl0 hp
  letI := decF S l
  obtain ⟨hGf, hGH⟩ := G.ok_of hG (Imk N r u) hA.vws
  have hok : Ok Tryz.prog (fun i => i < G.n) (Imk N r u) ⟨G.H, G.n, []⟩ w := Ok.of G.H G.n (decF_oku _ hS hl) (fun x hx => ⟨(hGH x hx).1, (hGH x hx).2, hA.mem x hx⟩) hA.dis
  unfold evalsK at h
  split at h
  case h_2 => cases h
  rename_i x fr' st' he
  simp only [Bool.and_eq_true] at h
  obtain ⟨hk, hfv, hfit, hm, hap, hF, hwr, hlv⟩ := h
  have hXd : @ExtraOk _ (decF S l) Tryz.prog (X (decF S l)) := hX _ rfl
  refine wpIn_mono ((evC_run0 (by kernel_rfl) nameOk (evN_run (by kernel_rfl) nameOk hXd fuel depth) _ _ _ _ _ _ _ hrf he).1 _ (Imk N r u) w a none hok ⟨hA.tmps, hGf⟩ rfl) fun e a' w' ⟨I', hmv, hf', hx, hD⟩ => ?_
  have hr : I'.val.r = r := by rw [hmv.val]; rfl
  have hext : ∀ i, i < G.n → I'.adr i = N.adr i ∧ I'.cap i = N.cap i ∧ I'.esl i = N.esl i := fun i hi => hmv.ext i (.inl hi)
  have hW : ∀ b, (∃ id, id ∈ st'.wr ∧ E2.look G.H id ≠ none ∧ (N.esl id).fp b) → ∃ id, id ∈ W ∧ E2.look G.H id ≠ none ∧ (N.esl id).fp b := fun b ⟨id, h1, h2, h3⟩ => by
    refine ⟨id, ?_, h2, h3⟩
    have := List.all_eq_true.1 hwr id h1
    rw [Bool.or_eq_true, memN_iff, Nat.ble_eq] at this
    refine this.resolve_right fun h => ?_
    have := hok.live_lt h2
    simp only at this h
    omega
  have hlook : ∀ x ∈ F.H, ∀ j, rnAt rn x.1 = .nm j → E2.look st'.H j ≠ none := fun x hx j hj => by
    have := List.all_eq_true.1 hF x hx
    obtain ⟨k, so⟩ := x
    unfold fitM at this
    dsimp only at this hj
    split at this
    · rename_i c v j' hj'
      rw [hj] at hj'
      cases hj'
      split at this
      · rename_i hl; rw [hl]; simp
      · cases this
    · rename_i hj'
      rw [hj] at hj'
      cases hj'
    · rename_i e cs j' hj'
      rw [hj] at hj'
      cases hj'
      split at this
      · rename_i hl; rw [hl]; simp
      · cases this
    · cases this
  refine ⟨?_, hD, rnIn I' rn, fun i => (denL I' fr').getD i undef, ⟨?_, fun x hx => fitM_real hm hr (fun j o ho => hmv.ok.real j o ho) (List.all_eq_true.1 hF x hx), ?_, fitFr_vw hm hr F.fr fr' 0 hfit hfv hf'.2⟩, fun i hi hn => ?_, hmv.chgW.mono fun b _ hb => hW b hb, fun x hx => ?_⟩
  · cases x with
    | nrm => rw [Nat.eq_of_beq_eq_true (show Nat.beq k 0 = true from hk)]; exact hx
    | exit id => rw [Nat.eq_of_beq_eq_true (show Nat.beq k (id + 2) = true from hk)]; exact hx
    | goto l => cases hk
    | ret => rw [Nat.eq_of_beq_eq_true (show Nat.beq k 1 = true from hk)]; exact hx
    | pan v => cases hk
  · rw [hf'.tmps]
    exact congrArg List.toArray (fitFr_den hm hr F.fr fr' 0 hfit fun j _ => by rw [Nat.zero_add]).symm
  · refine apartB_pw hap fun x hx y hy hxy hij => ⟨hxy, fun b h1 h2 => ?_⟩
    simp only [rnIn] at h1 h2
    cases hrx : rnAt rn x.1 with
    | nil => rw [hrx] at h1; exact h1
    | nm i =>
      cases hry : rnAt rn y.1 with
      | nil => rw [hry] at h2; exact h2
      | nm j =>
        rw [hrx] at h1
        rw [hry] at h2
        exact hij i j hrx hry (hmv.ok.inj i j (hlook x hx i hrx) (hlook y hy j hry) b h1 h2)
  · obtain ⟨h1, h2, h3⟩ := rnIn_id (I' := I') hm hi
    obtain ⟨g1, g2, g3⟩ := hext i hn
    exact ⟨h1.trans g1, h2.trans g2, h3.trans g3⟩
  · cases hrx : rnAt rn x.1 with
    | nil => exact .inr fun b hb => by simp only [rnIn, hrx, nilEX] at hb
    | nm i =>
      rcases Nat.lt_or_ge i G.n with hi | hi
      · obtain ⟨g1, g2, g3⟩ := hext i hi
        refine .inl ⟨i, hi, rfl, ?_, ?_⟩
        · simp only [rnIn, hrx]; exact g3
        · simp only [rnIn, hrx]; exact g1
      · refine .inr fun b hb => ?_
        simp only [rnIn, hrx] at hb
        rcases hmv.new i hi (hlook x hx i hrx) b hb with h1 | ⟨id, h1, h2, h3⟩
        · exact .inl h1
        · refine .inr ⟨id, ?_, h1, h3⟩
          have : ∃ o, (id, o) ∈ G.H := by
            have mem : ∀ {H : List (Nat × SO)} {id : Nat}, E2.look H id ≠ none → ∃ o, (id, o) ∈ H := fun {H} => by
              induction H with
              | nil => intro id h; exact absurd rfl h
              | cons x H ih =>
                intro id h
                by_cases e : x.1 = id
                · exact ⟨x.2, by rw [← e]; exact List.mem_cons_self ..⟩
                · obtain ⟨o, ho⟩ := ih (id := id) (by
                    intro hn
                    apply h
                    have : ¬ Nat.beq x.1 id = true := fun hb => e (Nat.eq_of_beq_eq_true hb)
                    unfold E2.look
                    simp only [Bool.not_eq_true] at this
                    simp [this, hn])
                  exact ⟨o, List.mem_cons_of_mem _ ho⟩
            exact mem h1
          obtain ⟨o, ho⟩ := this
          have := List.all_eq_true.1 hlv _ ho
          rw [Bool.or_eq_true, memN_iff] at this
          refine this.resolve_right fun h => ?_
          rw [h2] at h
          cases h
/-- what a function answers whose frame has a form -/
theorem At.res [Th] {F : Frm} {N : In} {r : Nat → Th.D} {u : Nat → Value} {a : Act} {w : World} (h : At F N r u a w) {fn : Func} {t : Nat} {v : SV} (hr : fn.results = #[.tmp t]) (hv : F.fr[t]? = some v) (w2 : World) : (results fn a.tmps).run Tryz.prog w2 = .ok (v.den (Imk N r u)) w2 := by
  rw [results_tmp hr, h.tmps]
  have : ∀ (l : List SV) (t : Nat), l[t]? = some v → (denL (Imk N r u) l)[t]? = some (v.den (Imk N r u)) := by
    intro l
    induction l with
    | nil => intro t h; cases h
    | cons x l ih =>
      intro t h
      cases t with
      | zero => cases h; rfl
      | succ t => exact ih t h
  have := this _ _ hv
  simp [Array.getD_eq_getD_getElem?, this]
end Go.Proofs.YthjnecicagmdeaaGreat.V
