/-
  The evaluator at this program: calls whose data is numbers, decided upon as told. No conditions but those that are named.
-/
import Derived.Test.YthjnecicagmdeaaGreatE2X
namespace Go.Proofs.YthjnecicagmdeaaGreat.V
open Go.Proofs.YthjnecicagmdeaaGreat Go.RowKit Go.Al Go.E2
set_option linter.unusedVariables false
set_option linter.unusedSectionVars false

/-- truths that are known -/
@[reducible] def decF [Th] (S : VL → Prop) (l : List (Tm × Bool)) : Facts := ⟨[], [], S, l⟩
def DecOk [Th] (l : List (Tm × Bool)) (r : Nat → Th.D) : Prop := ∀ x ∈ l, Th.toB (x.1.den r) = x.2
theorem DecOk.nil [Th] (r : Nat → Th.D) : DecOk [] r := fun x hx => by cases hx
theorem DecOk.cons [Th] {l : List (Tm × Bool)} {r : Nat → Th.D} {t : Tm} {b : Bool} (h : Th.toB (t.den r) = b) (h' : DecOk l r) : DecOk ((t, b) :: l) r := fun x hx => by
  rcases List.mem_cons.1 hx with e | hx
  · rw [e]; exact h
  · exact h' x hx
def vlr [Th] (r : Nat → Th.D) : VL := ⟨fun _ => .bool true, r, fun _ => .bool true⟩
theorem decF_ok [Th] (P : Program) {S : VL → Prop} {l : List (Tm × Bool)} {r : Nat → Th.D} (hS : S (vlr r)) (h : DecOk l r) : @ValOk _ (decF S l) P (vlr r) :=
  @ValOk.mk _ (decF S l) P (vlr r) (fun _ => rfl) (fun f hf => by cases hf) (fun f hf => by cases hf) hS h
/-- no names -/
def Iz [Th] (r : Nat → Th.D) : In := ⟨fun _ => 0, fun _ => 0, fun _ => EX.lit (none, 0), vlr r⟩
/-- ways through a call: what is decided upon, what is returned, what is to be found behind it; ways that nobody goes -/
inductive DT where
  | leaf (v : SV) (F : List (Nat × SO)) (W : List Nat)
  | fork (t : Tm) (a b : DT)
  | dead
def chkD [Th] (S : VL → Prop) (P : Program) (X : Facts → Extra) (fuel depth : Nat) (f : FuncId) (args : List SV) (st : St) : DT → List (Tm × Bool) → Bool
  | .leaf v F W, l => @evalsB _ (decF S l) P (X (decF S l)) fuel depth f args st v F W
  | .fork t a b, l => chkD S P X fuel depth f args st a ((t, true) :: l) && chkD S P X fuel depth f args st b ((t, false) :: l)
  | .dead, _ => true
def DT.pick [Th] (r : Nat → Th.D) : DT → Option (SV × List (Nat × SO) × List Nat)
  | .leaf v F W => some (v, F, W)
  | .fork t a b => cond (Th.toB (t.den r)) (a.pick r) (b.pick r)
  | .dead => none
theorem chkD_spec [Th] {S : VL → Prop} {P : Program} {X : Facts → Extra} {fuel depth : Nat} {f : FuncId} {args : List SV} {st : St} {r : Nat → Th.D} {v : SV} {F : List (Nat × SO)} {W : List Nat} : ∀ {dt : DT} {l : List (Tm × Bool)}, chkD S P X fuel depth f args st dt l = true → DecOk l r → dt.pick r = some (v, F, W) →
    ∃ l', DecOk l' r ∧ @evalsB _ (decF S l') P (X (decF S l')) fuel depth f args st v F W = true
  | .leaf v F W, l, h, hl, hp => by cases hp; exact ⟨l, hl, h⟩
  | .dead, l, h, hl, hp => by cases hp
  | .fork t a b, l, h, hl, hp => by
    simp only [chkD, Bool.and_eq_true] at h
    cases ht : Th.toB (t.den r)
    · rw [DT.pick, ht, cond_false] at hp
      exact chkD_spec h.2 (DecOk.cons ht hl) hp
    · rw [DT.pick, ht, cond_true] at hp
      exact chkD_spec h.1 (DecOk.cons ht hl) hp
/-- a call, all its ways evaluated -/
theorem evalD [Th] {S : VL → Prop} {X : Facts → Extra} (hX : ∀ F : Facts, F.say = S → @ExtraOk _ F Tryz.prog (X F)) {fuel depth : Nat} {f : FuncId} {args : List SV} {H : List (Nat × SO)} {n : Nat} {dt : DT} (h : chkD S Tryz.prog X fuel depth f args ⟨H, n, []⟩ dt [] = true)
    (r : Nat → Th.D) (hS : S (vlr r)) (I : In) (hI : I.val = vlr r) {v : SV} {F : List (Nat × SO)} {W : List Nat} (hp : dt.pick r = some (v, F, W)) {w : World} (hH : ∀ x ∈ H, x.1 < n ∧ x.2.ok (fun i => i < n) I ∧ RealW Tryz.prog I x.1 x.2 w) (hd : H.Pairwise fun x y => x.1 ≠ y.1 ∧ ∀ b, (I.esl x.1).fp b → ¬ (I.esl y.1).fp b) (ha : okL (fun i => i < n) I args) :
    Calls Tryz.prog f (denL I args).toArray w fun e w' => ∃ I' : In, e = .returned (v.den I') ∧ (∀ i, i < n → I'.adr i = I.adr i ∧ I'.cap i = I.cap i ∧ I'.esl i = I.esl i) ∧ I'.val = I.val ∧ Chg (fun b => ∃ id, id ∈ W ∧ E2.look H id ≠ none ∧ (I.esl id).fp b) w w' ∧
      (∀ x ∈ F, RealW Tryz.prog I' x.1 x.2 w' ∧ (n ≤ x.1 → ∀ b, (I'.esl x.1).fp b → w.heap.size ≤ b ∨ ∃ k, E2.look H k ≠ none ∧ (I.esl k).fp b)) ∧
      ∀ x ∈ F, ∀ y ∈ F, ∀ b, (I'.esl x.1).fp b → (I'.esl y.1).fp b → x.1 = y.1 := by
  obtain ⟨l, hl, he⟩ := chkD_spec h (DecOk.nil r) hp
  letI := decF S l
  exact evalsB_run (by kernel_rfl) nameOk (hX _ rfl) he (Ok.of H n (by rw [hI]; exact decF_ok _ hS hl) hH hd) ha
/-- a call that reads alone, all its ways evaluated -/
theorem evalR [Th] {S : VL → Prop} {X : Facts → Extra} (hX : ∀ F : Facts, F.say = S → @ExtraOk _ F Tryz.prog (X F)) {fuel depth : Nat} {f : FuncId} {args : List SV} {H : List (Nat × SO)} {n : Nat} {dt : DT} (h : chkD S Tryz.prog X fuel depth f args ⟨H, n, []⟩ dt [] = true)
    (r : Nat → Th.D) (hS : S (vlr r)) (I : In) (hI : I.val = vlr r) {v : SV} {F : List (Nat × SO)} (hp : dt.pick r = some (v, F, [])) {w : World} (hH : ∀ x ∈ H, x.1 < n ∧ x.2.ok (fun i => i < n) I ∧ RealW Tryz.prog I x.1 x.2 w) (hd : H.Pairwise fun x y => x.1 ≠ y.1 ∧ ∀ b, (I.esl x.1).fp b → ¬ (I.esl y.1).fp b) (ha : okL (fun i => i < n) I args) (hv : v.ok (fun i => i < n) I) :
    Calls Tryz.prog f (denL I args).toArray w fun e w' => e = .returned (v.den I) ∧ Same w w' := by
  refine (evalD hX h r hS I hI hp hH hd ha).mono ?_
  rintro e w' ⟨I', rfl, h1, h2, h3, _⟩
  refine ⟨?_, h3.mono fun k _ ⟨id, h, _⟩ => by cases h⟩
  rw [den_agr (A := fun i => i < n) (I := I) (I' := I') ⟨fun i hi => h1 i hi, h2⟩ _ hv]
/-- a call on numbers, all its ways evaluated -/
theorem evalS [Th] {X : Facts → Extra} (hX : ∀ F : Facts, F.say = (fun _ => True) → @ExtraOk _ F Tryz.prog (X F)) {fuel depth : Nat} {f : FuncId} {args : List SV} {dt : DT} (h : chkD (fun _ => True) Tryz.prog X fuel depth f args ⟨[], 0, []⟩ dt [] = true)
    (r : Nat → Th.D) {v : SV} {F : List (Nat × SO)} {W : List Nat} (hp : dt.pick r = some (v, F, W)) (ha : okL (fun i => i < 0) (Iz r) args) (hv : v.ok (fun i => i < 0) (Iz r)) (w : World) :
    Calls Tryz.prog f (denL (Iz r) args).toArray w fun e w' => e = .returned (v.den (Iz r)) ∧ Same w w' := by
  refine (evalD hX h r trivial (Iz r) rfl hp (fun x hx => by cases hx) .nil ha).mono ?_
  rintro e w' ⟨I', rfl, h1, h2, h3, _⟩
  refine ⟨?_, h3.mono fun k _ ⟨id, _, h, _⟩ => h rfl⟩
  rw [den_agr (A := fun i => i < 0) (I := Iz r) (I' := I') ⟨fun _ h => absurd h (Nat.not_lt_zero _), h2⟩ _ hv]
/-- all ways end in true -/
def DT.allT : DT → Bool
  | .leaf (.bool true) [] [] => true
  | .fork _ a b => a.allT && b.allT
  | _ => false
theorem DT.allT_pick [Th] (r : Nat → Th.D) : ∀ {dt : DT}, dt.allT = true → dt.pick r = some (.bool true, [], [])
  | .leaf v F W, h => by
    cases v with
    | bool b => cases b <;> cases F <;> cases W <;> first | rfl | cases h
    | _ => cases h
  | .dead, h => by cases h
  | .fork t a b, h => by
    simp only [DT.allT, Bool.and_eq_true] at h
    rw [DT.pick, DT.allT_pick r h.1, DT.allT_pick r h.2]
    cases Th.toB (t.den r) <;> rfl
/-- a call that is true whatever is decided -/
theorem evalT [Th] {X : Facts → Extra} (hX : ∀ F : Facts, F.say = (fun _ => True) → @ExtraOk _ F Tryz.prog (X F)) {fuel depth : Nat} {f : FuncId} {args : List SV} (dt : DT) (h : chkD (fun _ => True) Tryz.prog X fuel depth f args ⟨[], 0, []⟩ dt [] = true) (hT : dt.allT = true)
    (r : Nat → Th.D) (ha : okL (fun i => i < 0) (Iz r) args) (w : World) : Calls Tryz.prog f (denL (Iz r) args).toArray w fun e w' => e = .returned (.bool true) ∧ Same w w' :=
  evalS hX h r (DT.allT_pick r hT) ha trivial w
/-- the same, where something is known from the beginning -/
theorem evalTL [Th] {X : Facts → Extra} (hX : ∀ F : Facts, F.say = (fun _ => True) → @ExtraOk _ F Tryz.prog (X F)) {fuel depth : Nat} {f : FuncId} {args : List SV} {l : List (Tm × Bool)} (dt : DT) (h : chkD (fun _ => True) Tryz.prog X fuel depth f args ⟨[], 0, []⟩ dt l = true)
    (r : Nat → Th.D) (hl : DecOk l r) (hp : dt.pick r = some (.bool true, [], [])) (ha : okL (fun i => i < 0) (Iz r) args) (w : World) : Calls Tryz.prog f (denL (Iz r) args).toArray w fun e w' => e = .returned (.bool true) ∧ Same w w' := by
  obtain ⟨l', hl', he⟩ := chkD_spec h hl hp
  letI := decF (fun _ => True) l'
  refine (evalsB_run (by kernel_rfl) nameOk (hX _ rfl) he (Ok.of [] 0 (decF_ok _ trivial hl') (fun x hx => by cases hx) .nil) ha).mono ?_
  rintro e w' ⟨I', rfl, h1, h2, h3, _⟩
  exact ⟨rfl, h3.mono fun k _ ⟨id, _, h, _⟩ => h rfl⟩
/-- closed calls that are known to be true -/
def trueE : List SV → St → Option (SR × St)
  | [], st => some (.ret (.bool true), st)
  | _, _ => none
theorem trueE_ok [Th] [Facts] {f : FuncId} (h0 : ∀ w, Calls Tryz.prog f #[] w fun e w' => e = .returned (.bool true) ∧ Same w w') : Entry Tryz.prog f trueE := by
  intro args st r st' h A I w hok ha
  unfold trueE at h
  split at h
  · cases h
    refine (h0 w).mono ?_
    rintro e w' ⟨rfl, hs⟩
    exact ⟨I, Mv.same hok hs, rfl, trivial⟩
  · cases h
/-- nothing is known of functions -/
def noX : Extra := fun _ _ _ _ => none
theorem noX_ok [Th] [Facts] (P : Program) : ExtraOk P noX := fun call hc f args st r st' h => by cases h
end Go.Proofs.YthjnecicagmdeaaGreat.V
