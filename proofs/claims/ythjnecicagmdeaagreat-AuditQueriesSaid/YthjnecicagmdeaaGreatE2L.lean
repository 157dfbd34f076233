/-
  The evaluator at this program: pieces of code (a loop's round), all their ways evaluated. No conditions but those that are named.
-/
import Derived.Test.YthjnecicagmdeaaGreatE2W
import Derived.Test.YthjnecicagmdeaaGreatEd
namespace Go.Proofs.YthjnecicagmdeaaGreat.V
open Go.Proofs.YthjnecicagmdeaaGreat Go.RowKit Go.Al Go.E2
set_option linter.unusedVariables false
set_option linter.unusedSectionVars false

/-- letters, and values of which nothing is known -/
def vlu [Th] (r : Nat → Th.D) (u : Nat → Value) : VL := ⟨fun _ => .bool true, r, u⟩
theorem decF_oku [Th] (P : Program) {S : VL → Prop} {l : List (Tm × Bool)} {r : Nat → Th.D} {u : Nat → Value} (hS : S (vlu r u)) (h : DecOk l r) : @ValOk _ (decF S l) P (vlu r u) :=
  @ValOk.mk _ (decF S l) P (vlu r u) (fun _ => rfl) (fun f hf => by cases hf) (fun f hf => by cases hf) hS h
/-- a piece of code, all its ways evaluated: each leaf's value is made by vR -/
def chkR [Th] (S : VL → Prop) (P : Program) (X : Facts → Extra) (fuel depth : Nat) (d : Code) (fr : List SV) (st : St) : DT → List (Tm × Bool) → Bool
  | .leaf v F W, l => @evalsR _ (decF S l) P (X (decF S l)) fuel depth d fr st v F W
  | .fork t a b, l => chkR S P X fuel depth d fr st a ((t, true) :: l) && chkR S P X fuel depth d fr st b ((t, false) :: l)
  | .dead, _ => true
theorem chkR_spec [Th] {S : VL → Prop} {P : Program} {X : Facts → Extra} {fuel depth : Nat} {d : Code} {fr : List SV} {st : St} {r : Nat → Th.D} {v : SV} {F : List (Nat × SO)} {W : List Nat} : ∀ {dt : DT} {l : List (Tm × Bool)}, chkR S P X fuel depth d fr st dt l = true → DecOk l r → dt.pick r = some (v, F, W) →
    ∃ l', DecOk l' r ∧ @evalsR _ (decF S l') P (X (decF S l')) fuel depth d fr st v F W = true
  | .leaf v F W, l, h, hl, hp => by cases hp; exact ⟨l, hl, h⟩
  | .dead, l, h, hl, hp => by cases hp
  | .fork t a b, l, h, hl, hp => by
    simp only [chkR, Bool.and_eq_true] at h
    cases ht : Th.toB (t.den r)
    · rw [DT.pick, ht, cond_false] at hp
      exact chkR_spec h.2 (DecOk.cons ht hl) hp
    · rw [DT.pick, ht, cond_true] at hp
      exact chkR_spec h.1 (DecOk.cons ht hl) hp
/-- a loop's round, all its ways evaluated -/
theorem evalRound [Th] {S : VL → Prop} {X : Facts → Extra} (hX : ∀ F : Facts, F.say = S → @ExtraOk _ F Tryz.prog (X F)) {fuel depth : Nat} {d : Code} {fr : List SV} {H : List (Nat × SO)} {n : Nat} {dt : DT} (h : chkR S Tryz.prog X fuel depth d fr ⟨H, n, []⟩ dt [] = true)
    (r : Nat → Th.D) (u : Nat → Value) (hS : S (vlu r u)) (I : In) (hI : I.val = vlu r u) {k : Nat} {fr' : List SV} {F : List (Nat × SO)} {W : List Nat} (hp : dt.pick r = some (vR k fr', F, W)) {w : World} (hH : ∀ x ∈ H, x.1 < n ∧ x.2.ok (fun i => i < n) I ∧ RealW Tryz.prog I x.1 x.2 w) (hd : H.Pairwise fun x y => x.1 ≠ y.1 ∧ ∀ b, (I.esl x.1).fp b → ¬ (I.esl y.1).fp b) (ha : okL (fun i => i < n) I fr)
    {a : Act} (hf : a.tmps = (denL I fr).toArray) :
    d.wpIn (fW none) 0 Tryz.prog (fun e a' w' => ∃ I' : In, isX k e ∧ a'.tmps = (denL I' fr').toArray ∧ (∃ D' st', a'.defers = D' ++ a.defers ∧ MkOk w.heap.size I' st' w' D') ∧ (∀ i, i < n → I'.adr i = I.adr i ∧ I'.cap i = I.cap i ∧ I'.esl i = I.esl i) ∧ I'.val = I.val ∧ Chg (fun b => ∃ id, id ∈ W ∧ E2.look H id ≠ none ∧ (I.esl id).fp b) w w' ∧
      (∀ x ∈ F, RealW Tryz.prog I' x.1 x.2 w' ∧ (n ≤ x.1 → ∀ b, (I'.esl x.1).fp b → w.heap.size ≤ b ∨ ∃ k, E2.look H k ≠ none ∧ (I.esl k).fp b)) ∧
      ∀ x ∈ F, ∀ y ∈ F, ∀ b, (I'.esl x.1).fp b → (I'.esl y.1).fp b → x.1 = y.1) a w := by
  obtain ⟨l, hl, he⟩ := chkR_spec h (DecOk.nil r) hp
  letI := decF S l
  exact evalsR_run (by kernel_rfl) nameOk (hX _ rfl) he (Ok.of H n (by rw [hI]; exact decF_oku _ hS hl) hH hd) ⟨hf, ha⟩
/-- a piece of code without loops over functions; with what is known from the beginning -/
theorem evalCode [Th] {S : VL → Prop} {X : Facts → Extra} (hX : ∀ F : Facts, F.say = S → @ExtraOk _ F Tryz.prog (X F)) {fuel depth : Nat} {d : Code} {fr : List SV} {H : List (Nat × SO)} {n : Nat} {dt : DT} {l0 : List (Tm × Bool)} (hrf : noRF d = true) (h : chkR S Tryz.prog X fuel depth d fr ⟨H, n, []⟩ dt l0 = true)
    (r : Nat → Th.D) (hl0 : DecOk l0 r) (u : Nat → Value) (hS : S (vlu r u)) (I : In) (hI : I.val = vlu r u) {k : Nat} {fr' : List SV} {F : List (Nat × SO)} {W : List Nat} (hp : dt.pick r = some (vR k fr', F, W)) {w : World} (hH : ∀ x ∈ H, x.1 < n ∧ x.2.ok (fun i => i < n) I ∧ RealW Tryz.prog I x.1 x.2 w) (hd : H.Pairwise fun x y => x.1 ≠ y.1 ∧ ∀ b, (I.esl x.1).fp b → ¬ (I.esl y.1).fp b) (ha : okL (fun i => i < n) I fr)
    {a : Act} (hf : a.tmps = (denL I fr).toArray) :
    d.wpIn (fW none) 0 Tryz.prog (fun e a' w' => ∃ I' : In, isX k e ∧ a'.tmps = (denL I' fr').toArray ∧ a'.defers = a.defers ∧ (∀ i, i < n → I'.adr i = I.adr i ∧ I'.cap i = I.cap i ∧ I'.esl i = I.esl i) ∧ I'.val = I.val ∧ Chg (fun b => ∃ id, id ∈ W ∧ E2.look H id ≠ none ∧ (I.esl id).fp b) w w' ∧
      (∀ x ∈ F, RealW Tryz.prog I' x.1 x.2 w' ∧ (n ≤ x.1 → ∀ b, (I'.esl x.1).fp b → w.heap.size ≤ b ∨ ∃ k, E2.look H k ≠ none ∧ (I.esl k).fp b)) ∧
      ∀ x ∈ F, ∀ y ∈ F, ∀ b, (I'.esl x.1).fp b → (I'.esl y.1).fp b → x.1 = y.1) a w := by
  obtain ⟨l, hl, he⟩ := chkR_spec h hl0 hp
  letI := decF S l
  exact evalsR_run0 (by kernel_rfl) nameOk (hX _ rfl) hrf he (Ok.of H n (by rw [hI]; exact decF_oku _ hS hl) hH hd) ⟨hf, ha⟩
/-- a call, with what is known from the beginning -/
theorem evalDL [Th] {S : VL → Prop} {X : Facts → Extra} (hX : ∀ F : Facts, F.say = S → @ExtraOk _ F Tryz.prog (X F)) {fuel depth : Nat} {f : FuncId} {args : List SV} {H : List (Nat × SO)} {n : Nat} {dt : DT} {l0 : List (Tm × Bool)} (h : chkD S Tryz.prog X fuel depth f args ⟨H, n, []⟩ dt l0 = true)
    (r : Nat → Th.D) (hl0 : DecOk l0 r) (hS : S (vlr r)) (I : In) (hI : I.val = vlr r) {v : SV} {F : List (Nat × SO)} {W : List Nat} (hp : dt.pick r = some (v, F, W)) {w : World} (hH : ∀ x ∈ H, x.1 < n ∧ x.2.ok (fun i => i < n) I ∧ RealW Tryz.prog I x.1 x.2 w) (hd : H.Pairwise fun x y => x.1 ≠ y.1 ∧ ∀ b, (I.esl x.1).fp b → ¬ (I.esl y.1).fp b) (ha : okL (fun i => i < n) I args) :
    Calls Tryz.prog f (denL I args).toArray w fun e w' => ∃ I' : In, e = .returned (v.den I') ∧ (∀ i, i < n → I'.adr i = I.adr i ∧ I'.cap i = I.cap i ∧ I'.esl i = I.esl i) ∧ I'.val = I.val ∧ Chg (fun b => ∃ id, id ∈ W ∧ E2.look H id ≠ none ∧ (I.esl id).fp b) w w' ∧
      (∀ x ∈ F, RealW Tryz.prog I' x.1 x.2 w' ∧ (n ≤ x.1 → ∀ b, (I'.esl x.1).fp b → w.heap.size ≤ b ∨ ∃ k, E2.look H k ≠ none ∧ (I.esl k).fp b)) ∧
      ∀ x ∈ F, ∀ y ∈ F, ∀ b, (I'.esl x.1).fp b → (I'.esl y.1).fp b → x.1 = y.1 := by
  obtain ⟨l, hl, he⟩ := chkD_spec h hl0 hp
  letI := decF S l
  exact evalsB_run (by kernel_rfl) nameOk (hX _ rfl) he (Ok.of H n (by rw [hI]; exact decF_ok _ hS hl) hH hd) ha
/-- a function, out of its code -/
theorem calls_of_code {f : FuncId} {fn : Func} {c : Code} (hf : Tryz.prog.funcs[f]? = some fn) (hb : fn.body = some c) {args : Array Value} {w : World} {R : Ending → World → Prop}
    (h : c.wpIn (fW none) 0 Tryz.prog (bodyPost Tryz.prog fn R) { tmps := args ++ Array.replicate (fn.ntmps - args.size) undef, defers := [] } w) : Calls Tryz.prog f args w R :=
  (callsIn_wide (n := 0)).1 (callsIn_of_wp (F := fW none) hf hb trivial h)
/-- a part of a piece of code: to the left (0), to the right or within (1) -/
def cAt : Code → List Nat → Code
  | c, [] => c
  | .seq x _, 0 :: l => cAt x l
  | .seq _ y, _ :: l => cAt y l
  | .cond _ x _, 0 :: l => cAt x l
  | .cond _ _ y, _ :: l => cAt y l
  | .block _ x, _ :: l => cAt x l
  | .loop x, _ :: l => cAt x l
  | c, _ => c
def bodyOf (P : Program) (f : FuncId) : Code := match P.funcs[f]? with
  | some fn => fn.body.getD .skip
  | none => .skip
/-- names with letters, and with values of which nothing is known -/
def Imk [Th] (N : In) (r : Nat → Th.D) (u : Nat → Value) : In := ⟨N.adr, N.cap, N.esl, vlu r u⟩
mutual
/-- a value without letters, its names below n -/
def closedB (n : Nat) : SV → Bool
  | .bool _ => true
  | .int _ _ => true
  | .str _ => true
  | .ptr none => true
  | .ptr (some p) => Nat.blt p.1 n
  | .slice none k (.lit c) => Nat.ble k c
  | .slice (some p) k (.lit c) => Nat.blt p.1 n && Nat.ble k c
  | .map none => true
  | .map (some p) => Nat.blt p n
  | .func _ l m => closedL n l && closedL n m
  | .nilFunc => true
  | .nilIface => true
  | .agg l => closedL n l
  | .tup l => closedL n l
  | .root j => Nat.blt j n
  | _ => false
def closedL (n : Nat) : List SV → Bool
  | [] => true
  | v :: l => closedB n v && closedL n l
end
mutual
theorem closedB_den [Th] {n : Nat} {I J : In} (h : ∀ i, i < n → I.adr i = J.adr i ∧ I.cap i = J.cap i ∧ I.esl i = J.esl i) : ∀ v : SV, closedB n v = true → v.den I = v.den J
  | .bool _, _ => rfl
  | .int _ _, _ => rfl
  | .str _, _ => rfl
  | .ptr none, _ => rfl
  | .ptr (some p), hv => by
    simp only [closedB] at hv
    simp only [SV.den, Option.map_some, padr, (h p.1 (Nat.le_of_ble_eq_true hv)).1]
  | .slice none _ (.lit _), _ => rfl
  | .slice (some p) _ (.lit _), hv => by
    simp only [closedB, Bool.and_eq_true] at hv
    simp only [SV.den, Option.map_some, padr, (h p.1 (Nat.le_of_ble_eq_true hv.1)).1, Cap.den]
  | .map none, _ => rfl
  | .map (some p), hv => by
    simp only [closedB] at hv
    simp only [SV.den, Option.map_some, (h p (Nat.le_of_ble_eq_true hv)).1]
  | .func _ l m, hv => by
    simp only [closedB, Bool.and_eq_true] at hv
    simp only [SV.den, closedL_den h l hv.1, closedL_den h m hv.2]
  | .nilFunc, _ => rfl
  | .nilIface, _ => rfl
  | .agg l, hv => by
    simp only [closedB] at hv
    simp only [SV.den, closedL_den h l hv]
  | .tup l, hv => by
    simp only [closedB] at hv
    simp only [SV.den, closedL_den h l hv]
  | .root j, hv => by
    simp only [closedB] at hv
    simp only [SV.den, (h j (Nat.le_of_ble_eq_true hv)).2.2]
  | .slice _ _ (.sym _ _), hv => by rename_i p _ _ _; cases p <;> cases hv
  | .esl _, hv => by cases hv
  | .iface _ _, hv => by cases hv
  | .atom _, hv => by cases hv
  | .yld _, hv => by cases hv
  | .ix _, hv => by cases hv
  | .bx _ _, hv => by cases hv
  | .any _, hv => by cases hv
  | .vw _ _ _ _, hv => by cases hv
  | .pel _ _ _ _, hv => by cases hv
theorem closedL_den [Th] {n : Nat} {I J : In} (h : ∀ i, i < n → I.adr i = J.adr i ∧ I.cap i = J.cap i ∧ I.esl i = J.esl i) : ∀ l : List SV, closedL n l = true → denL I l = denL J l
  | [], _ => rfl
  | v :: l, hv => by
    simp only [closedL, Bool.and_eq_true] at hv
    simp only [denL, closedB_den h v hv.1, closedL_den h l hv.2]
end
mutual
theorem closedB_ok [Th] {n : Nat} {I : In} : ∀ v : SV, closedB n v = true → v.ok (fun i => i < n) I
  | .bool _, _ => trivial
  | .int _ _, _ => trivial
  | .str _, _ => trivial
  | .ptr none, _ => fun q hq => by cases hq
  | .ptr (some p), hv => fun q hq => by
    simp only [closedB] at hv
    cases hq
    exact Nat.le_of_ble_eq_true hv
  | .slice none k (.lit c), hv => by
    simp only [closedB] at hv
    exact ⟨fun q hq => (by cases hq), Nat.le_of_ble_eq_true hv⟩
  | .slice (some p) k (.lit c), hv => by
    simp only [closedB, Bool.and_eq_true] at hv
    exact ⟨fun q hq => by cases hq; exact Nat.le_of_ble_eq_true hv.1, Nat.le_of_ble_eq_true hv.2⟩
  | .map none, _ => fun q hq => by cases hq
  | .map (some p), hv => fun q hq => by
    simp only [closedB] at hv
    cases hq
    exact Nat.le_of_ble_eq_true hv
  | .func _ l m, hv => by
    simp only [closedB, Bool.and_eq_true] at hv
    exact ⟨closedL_ok l hv.1, closedL_ok m hv.2⟩
  | .nilFunc, _ => trivial
  | .nilIface, _ => trivial
  | .agg l, hv => closedL_ok l (by simpa only [closedB] using hv)
  | .tup l, hv => closedL_ok l (by simpa only [closedB] using hv)
  | .root j, hv => by
    simp only [closedB] at hv
    exact Nat.le_of_ble_eq_true hv
  | .slice _ _ (.sym _ _), hv => by rename_i p _ _ _; cases p <;> cases hv
  | .esl _, hv => by cases hv
  | .iface _ _, hv => by cases hv
  | .atom _, hv => by cases hv
  | .yld _, hv => by cases hv
  | .ix _, hv => by cases hv
  | .bx _ _, hv => by cases hv
  | .any _, hv => by cases hv
  | .vw _ _ _ _, hv => by cases hv
  | .pel _ _ _ _, hv => by cases hv
theorem closedL_ok [Th] {n : Nat} {I : In} : ∀ l : List SV, closedL n l = true → okL (fun i => i < n) I l
  | [], _ => trivial
  | v :: l, hv => by
    simp only [closedL, Bool.and_eq_true] at hv
    exact ⟨closedB_ok v hv.1, closedL_ok l hv.2⟩
end
/-- a form of frames: letters, values of which nothing is told, closed ones -/
def formB (n : Nat) : List SV → Bool
  | [] => true
  | .any _ :: l => formB n l
  | .ix _ :: l => formB n l
  | .bx _ _ :: l => formB n l
  | v :: l => closedB n v && formB n l
theorem formB_ok [Th] {n : Nat} {I : In} : ∀ l : List SV, formB n l = true → okL (fun i => i < n) I l
  | [], _ => trivial
  | v :: l, h => by
    unfold formB at h
    split at h
    · rename_i e; cases e
    · rename_i e; cases e; exact ⟨trivial, formB_ok _ h⟩
    · rename_i e; cases e; exact ⟨trivial, formB_ok _ h⟩
    · rename_i e; cases e; exact ⟨trivial, formB_ok _ h⟩
    · rename_i e
      cases e
      rw [Bool.and_eq_true] at h
      exact ⟨closedB_ok _ h.1, formB_ok _ h.2⟩
/-- a frame fits a loop's form: letters' new values, slots of which nothing is told, the rest as it was -/
def fit1 (n : Nat) (ts : List Tm) (i : Nat) (a b : SV) : Bool := match a with
  | .any k => Nat.beq k i
  | .ix (.var j) => match tmI b with
    | some t => t.eqb (ts.getD j (.var j))
    | none => false
  | a => closedB n a && a.eqb b
def fitB (n : Nat) (ts : List Tm) : Nat → List SV → List SV → Bool
  | _, [], [] => true
  | i, a :: l, b :: m => fit1 n ts i a b && fitB n ts (i + 1) l m
  | _, _, _ => false
theorem fit1_den [Th] {n : Nat} {ts : List Tm} {r : Nat → Th.D} {u : Nat → Value} {N I' : In} (hag : ∀ i, i < n → I'.adr i = N.adr i ∧ I'.cap i = N.cap i ∧ I'.esl i = N.esl i) (hval : I'.val.r = r) {i : Nat} {a b : SV} (h : fit1 n ts i a b = true) (hu : u i = b.den I') :
    a.den (Imk N (fun j => (ts.getD j (.var j)).den r) u) = b.den I' := by
  letI : Facts := ⟨[], [], fun _ => True, []⟩
  have key : ∀ {a b : SV}, (closedB n a && a.eqb b) = true → a.den (Imk N (fun j => (ts.getD j (.var j)).den r) u) = b.den I' := fun {a b} h => by
    rw [Bool.and_eq_true] at h
    rw [(SV.eqb_den I' a b h.2).1, closedB_den (I := I') (J := Imk N _ u) hag a h.1]
  unfold fit1 at h
  split at h
  · rw [Nat.beq_eq] at h
    subst h
    exact hu
  · split at h
    · rename_i j t ht
      rw [tmI_den ht, hval]
      simp only [SV.den, Tm.den, Imk, vlu]
      rw [eqb_eq _ _ h]
    · cases h
  · exact key h
theorem fitB_den [Th] {n : Nat} {ts : List Tm} {r : Nat → Th.D} {u : Nat → Value} {N I' : In} (hag : ∀ i, i < n → I'.adr i = N.adr i ∧ I'.cap i = N.cap i ∧ I'.esl i = N.esl i) (hval : I'.val.r = r) : ∀ (frS fr' : List SV) (i : Nat), fitB n ts i frS fr' = true → (∀ k, k < fr'.length → u (i + k) = ((denL I' fr').getD k undef)) →
    denL (Imk N (fun j => (ts.getD j (.var j)).den r) u) frS = denL I' fr'
  | [], [], _, _, _ => rfl
  | a :: l, b :: m, i, h, hu => by
    simp only [fitB, Bool.and_eq_true] at h
    simp only [denL]
    rw [fit1_den hag hval h.1 (by simpa [denL] using hu 0 (by simp)), fitB_den hag hval l m (i + 1) h.2 fun k hk => by
      have := hu (k + 1) (by simpa using hk)
      simp only [denL, List.getD_cons_succ] at this
      rw [← this]
      congr 1
      omega]
  | [], _ :: _, _, h, _ => by cases h
  | _ :: _, [], _, h, _ => by cases h
/-- the frame behind a round, in the loop's form again -/
theorem refit [Th] {n : Nat} {ts : List Tm} {r : Nat → Th.D} {N I' : In} (hag : ∀ i, i < n → I'.adr i = N.adr i ∧ I'.cap i = N.cap i ∧ I'.esl i = N.esl i) (hval : I'.val.r = r) {frS fr' : List SV} (h : fitB n ts 0 frS fr' = true) :
    denL I' fr' = denL (Imk N (fun j => (ts.getD j (.var j)).den r) (fun i => (denL I' fr').getD i undef)) frS :=
  (fitB_den hag hval frS fr' 0 h fun k _ => by rw [Nat.zero_add]).symm
/-- ways through a piece of code: how it is left, in which form the frame is then, the letters' new values, what is to be found in memory, what may have been written -/
inductive CT where
  | leaf (k : Nat) (form : List SV) (ts : List Tm) (F : List (Nat × SO)) (W : List Nat)
  | fork (t : Tm) (a b : CT)
  | dead
def evalsF [Th] [Facts] (P : Program) (X : Extra) (fuel depth : Nat) (d : Code) (fr : List SV) (st : St) (k : Nat) (form : List SV) (ts : List Tm) (F : List (Nat × SO)) (W : List Nat) : Bool :=
  match evC P (evN P X fuel depth) none fuel d fr st with
  | some (x, fr', st') => (match codeX x with
      | some k' => Nat.beq k k'
      | none => false) && fitB st.nx ts 0 form fr' && (F.all fun x => eqSO x.2 (E2.look st'.H x.1)) && st'.wr.all fun i => memN i W || Nat.ble st.nx i
  | none => false
theorem evalsF_run [Th] [Facts] {P : Program} (hm : P.follows .mixedOrders = true) (hn : NameOk P) {X : Extra} (hX : ExtraOk P X) {fuel depth : Nat} {d : Code} {fr : List SV} {H : List (Nat × SO)} {n : Nat} {k : Nat} {form : List SV} {ts : List Tm} {F : List (Nat × SO)} {W : List Nat} (hrf : noRF d = true) (h : evalsF P X fuel depth d fr ⟨H, n, []⟩ k form ts F W = true)
    {A : Nat → Prop} {I : In} {w : World} {a : Act} (hok : Ok P A I ⟨H, n, []⟩ w) (hf : Fr A I fr a) :
    d.wpIn (fW none) 0 P (fun e a' w' => ∃ (I' : In) (u' : Nat → Value), isX k e ∧ a'.tmps = (denL (Imk I (fun j => (ts.getD j (.var j)).den I.val.r) u') form).toArray ∧ a'.defers = a.defers ∧ (∀ i, i < n → I'.adr i = I.adr i ∧ I'.cap i = I.cap i ∧ I'.esl i = I.esl i) ∧ I'.val = I.val ∧ Chg (fun b => ∃ id, id ∈ W ∧ E2.look H id ≠ none ∧ (I.esl id).fp b) w w' ∧
      (∀ x ∈ F, RealW P I' x.1 x.2 w' ∧ (n ≤ x.1 → ∀ b, (I'.esl x.1).fp b → w.heap.size ≤ b ∨ ∃ k, E2.look H k ≠ none ∧ (I.esl k).fp b)) ∧
      ∀ x ∈ F, ∀ y ∈ F, ∀ b, (I'.esl x.1).fp b → (I'.esl y.1).fp b → x.1 = y.1) a w := by
  unfold evalsF at h
  split at h
  case h_2 => cases h
  rename_i x fr' st' he
  rw [Bool.and_eq_true, Bool.and_eq_true, Bool.and_eq_true] at h
  obtain ⟨⟨⟨hk, hfit⟩, hF⟩, hwr⟩ := h
  refine wpIn_mono ((evC_run0 hm hn (evN_run hm hn hX fuel depth) _ _ _ _ _ _ _ hrf he).1 A I w a none hok hf rfl) fun e a' w' ⟨I', hmv, hf', hx, hD⟩ => ?_
  have hag : ∀ i, i < n → I'.adr i = I.adr i ∧ I'.cap i = I.cap i ∧ I'.esl i = I.esl i := fun i hi => hmv.ext i (.inl hi)
  have hF' : ∀ x ∈ F, ∃ y, E2.look st'.H x.1 = some y ∧ (RealW P I' x.1 y w' → RealW P I' x.1 x.2 w') := fun x hx => eqSO_real (List.all_eq_true.1 hF x hx)
  refine ⟨I', _, ?_, (hf'.tmps.trans (congrArg List.toArray (refit hag (by rw [hmv.val]) hfit))), hD, hag, hmv.val, hmv.chgW.mono fun b _ ⟨id, h1, h2, h3⟩ => ⟨id, ?_, h2, h3⟩, fun x hx => ?_, fun x hx y hy b hb1 hb2 => ?_⟩
  · cases x with
    | nrm => rw [Nat.eq_of_beq_eq_true (show Nat.beq k 0 = true from hk)]; exact hx
    | exit id => rw [Nat.eq_of_beq_eq_true (show Nat.beq k (id + 2) = true from hk)]; exact hx
    | goto l => cases hk
    | ret => rw [Nat.eq_of_beq_eq_true (show Nat.beq k 1 = true from hk)]; exact hx
    | pan v => cases hk
  · have := List.all_eq_true.1 hwr id h1
    rw [Bool.or_eq_true, memN_iff, Nat.ble_eq] at this
    refine this.resolve_right fun h => ?_
    have := hok.live_lt h2
    simp only at this h
    omega
  · obtain ⟨y, hy, hr⟩ := hF' x hx
    refine ⟨hr (hmv.ok.real _ _ hy), fun hnx b hb => ?_⟩
    rcases hmv.new x.1 hnx (by rw [hy]; simp) b hb with h1 | ⟨k, h1, _, h2⟩
    · exact .inl h1
    · exact .inr ⟨k, h1, h2⟩
  · obtain ⟨y1, hy1, _⟩ := hF' x hx
    obtain ⟨y2, hy2, _⟩ := hF' y hy
    exact hmv.ok.inj _ _ (by rw [hy1]; simp) (by rw [hy2]; simp) b hb1 hb2
def chkC [Th] (S : VL → Prop) (P : Program) (X : Facts → Extra) (fuel depth : Nat) (d : Code) (fr : List SV) (st : St) : CT → List (Tm × Bool) → Bool
  | .leaf k form ts F W, l => @evalsF _ (decF S l) P (X (decF S l)) fuel depth d fr st k form ts F W
  | .fork t a b, l => chkC S P X fuel depth d fr st a ((t, true) :: l) && chkC S P X fuel depth d fr st b ((t, false) :: l)
  | .dead, _ => true
def CT.pick [Th] (r : Nat → Th.D) : CT → Option (Nat × List SV × List Tm × List (Nat × SO) × List Nat)
  | .leaf k form ts F W => some (k, form, ts, F, W)
  | .fork t a b => cond (Th.toB (t.den r)) (a.pick r) (b.pick r)
  | .dead => none
theorem chkC_spec [Th] {S : VL → Prop} {P : Program} {X : Facts → Extra} {fuel depth : Nat} {d : Code} {fr : List SV} {st : St} {r : Nat → Th.D} {k : Nat} {form : List SV} {ts : List Tm} {F : List (Nat × SO)} {W : List Nat} : ∀ {dt : CT} {l : List (Tm × Bool)}, chkC S P X fuel depth d fr st dt l = true → DecOk l r → dt.pick r = some (k, form, ts, F, W) →
    ∃ l', DecOk l' r ∧ @evalsF _ (decF S l') P (X (decF S l')) fuel depth d fr st k form ts F W = true
  | .leaf _ _ _ _ _, l, h, hl, hp => by cases hp; exact ⟨l, hl, h⟩
  | .dead, l, h, hl, hp => by cases hp
  | .fork t a b, l, h, hl, hp => by
    simp only [chkC, Bool.and_eq_true] at h
    cases ht : Th.toB (t.den r)
    · rw [CT.pick, ht, cond_false] at hp
      exact chkC_spec h.2 (DecOk.cons ht hl) hp
    · rw [CT.pick, ht, cond_true] at hp
      exact chkC_spec h.1 (DecOk.cons ht hl) hp
/-- a piece of code, all its ways evaluated, the frame behind it told of by a form -/
theorem evalC [Th] {S : VL → Prop} {X : Facts → Extra} (hX : ∀ F : Facts, F.say = S → @ExtraOk _ F Tryz.prog (X F)) {fuel depth : Nat} {d : Code} {fr : List SV} {H : List (Nat × SO)} {n : Nat} {dt : CT} {l0 : List (Tm × Bool)} (hrf : noRF d = true) (h : chkC S Tryz.prog X fuel depth d fr ⟨H, n, []⟩ dt l0 = true)
    (N : In) (r : Nat → Th.D) (hl0 : DecOk l0 r) (u : Nat → Value) (hS : S (vlu r u)) {k : Nat} {form : List SV} {ts : List Tm} {F : List (Nat × SO)} {W : List Nat} (hp : dt.pick r = some (k, form, ts, F, W)) {w : World} (hH : ∀ x ∈ H, x.1 < n ∧ x.2.ok (fun i => i < n) (Imk N r u) ∧ RealW Tryz.prog (Imk N r u) x.1 x.2 w) (hd : H.Pairwise fun x y => x.1 ≠ y.1 ∧ ∀ b, (N.esl x.1).fp b → ¬ (N.esl y.1).fp b) (ha : okL (fun i => i < n) (Imk N r u) fr)
    {a : Act} (hf : a.tmps = (denL (Imk N r u) fr).toArray) :
    d.wpIn (fW none) 0 Tryz.prog (fun e a' w' => ∃ (I' : In) (u' : Nat → Value), isX k e ∧ a'.tmps = (denL (Imk N (fun j => (ts.getD j (.var j)).den r) u') form).toArray ∧ a'.defers = a.defers ∧ (∀ i, i < n → I'.adr i = N.adr i ∧ I'.cap i = N.cap i ∧ I'.esl i = N.esl i) ∧ I'.val.r = r ∧ Chg (fun b => ∃ id, id ∈ W ∧ E2.look H id ≠ none ∧ (N.esl id).fp b) w w' ∧
      (∀ x ∈ F, RealW Tryz.prog I' x.1 x.2 w' ∧ (n ≤ x.1 → ∀ b, (I'.esl x.1).fp b → w.heap.size ≤ b ∨ ∃ k, E2.look H k ≠ none ∧ (N.esl k).fp b)) ∧
      ∀ x ∈ F, ∀ y ∈ F, ∀ b, (I'.esl x.1).fp b → (I'.esl y.1).fp b → x.1 = y.1) a w := by
  obtain ⟨l, hl, he⟩ := chkC_spec h hl0 hp
  letI := decF S l
  refine wpIn_mono (evalsF_run (by kernel_rfl) nameOk (hX _ rfl) hrf he (I := Imk N r u) (Ok.of H n (decF_oku _ hS hl) hH hd) ⟨hf, ha⟩) fun e a' w' ⟨I', u', h1, h2, h3, h4, h5, h6⟩ => ⟨I', u', h1, h2, h3, h4, by rw [h5]; rfl, h6⟩
end Go.Proofs.YthjnecicagmdeaaGreat.V
