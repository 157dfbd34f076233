/-
  The evaluator at this program: a function's code as a stack of pieces, evaluated up to its next loop; loops by an invariant over forms. No conditions but those that are named.
-/
import Derived.Test.YthjnecicagmdeaaGreatE2K
namespace Go.Proofs.YthjnecicagmdeaaGreat.V
open Go.Proofs.YthjnecicagmdeaaGreat Go.RowKit Go.Al Go.E2
set_option linter.unusedVariables false
set_option linter.unusedSectionVars false

theorem vws_none {l : List SV} {p : SV → Prop} (h : (l.all fun v => !v.isVw) = true) : ∀ v ∈ l, v.isVw = true → p v := fun v hv hw => by
  have := List.all_eq_true.1 h v hv
  rw [hw] at this
  cases this
theorem At.slot [Th] {F : Frm} {N : In} {r : Nat → Th.D} {u : Nat → Value} {a : Act} {w : World} (h : At F N r u a w) {t : Nat} {v : SV} (hv : F.fr[t]? = some v) : a.tmps.getD t undef = v.den (Imk N r u) := by
  rw [h.tmps]
  have : ∀ (l : List SV) (t : Nat), l[t]? = some v → (denL (Imk N r u) l)[t]? = some (v.den (Imk N r u)) := by
    intro l
    induction l with
    | nil => intro t h; cases h
    | cons x l ih =>
      intro t h
      cases t with
      | zero => cases h; rfl
      | succ t => exact ih t h
  simp [Array.getD_eq_getD_getElem?, this _ _ hv]
/-- an exact row is a row that may only be read -/
theorem _root_.Go.E2.RowAt.ro {e : TypeId} {sz : Nat} {own : Bool} {r : Value} {L : List (List Int)} {fp : Nat → Prop} {w : World} (h : RowAt e sz own r L fp w) : RowAt e sz false r L fp w :=
  ⟨h.pos, h.len, let ⟨A, k, a, b, c, d, e, f, _⟩ := h.form; ⟨A, k, a, b, c, d, e, f, fun h => by cases h⟩⟩
/-- pieces of code, one behind the other -/
def wpS (Q : Exit → Act → World → Prop) : List Code → Act → World → Prop
  | [] => Q .normal
  | c :: l => c.wpIn (fW none) 0 Tryz.prog (Exit.then (wpS Q l) Q)
theorem then_eq {Q : Exit → Act → World → Prop} : Exit.then (Q .normal) Q = Q := by
  funext e a w
  cases e <;> rfl
theorem wpS_one {Q : Exit → Act → World → Prop} {c : Code} {a : Act} {w : World} (h : wpS Q [c] a w) : c.wpIn (fW none) 0 Tryz.prog Q a w := by
  have h : c.wpIn (fW none) 0 Tryz.prog (Exit.then (Q .normal) Q) a w := h
  rwa [then_eq] at h
theorem wpS_seq {Q : Exit → Act → World → Prop} {x y : Code} {l : List Code} {a : Act} {w : World} (h : wpS Q (x :: y :: l) a w) : wpS Q (.seq x y :: l) a w := by
  refine wpIn_seq (wpIn_mono h fun e a w h => ?_)
  cases e <;> exact h
/-- how a stack of pieces is left that was evaluated: .nrm at the next loop, or at the end -/
def evPre [Th] [Facts] (P : Program) (call : Caller) (fuel : Nat) : Nat → List Code → List SV → St → Option (SX × List SV × St)
  | 0, _, _, _ => none
  | n + 1, l, fr, st => match l with
    | [] => some (.nrm, fr, st)
    | .seq a b :: l => evPre P call fuel n (a :: b :: l) fr st
    | .block _ (.loop _) :: _ => some (.nrm, fr, st)
    | c :: l => cond (noRF c) (match evC P call none fuel c fr st with
      | some (.nrm, fr', st') => evPre P call fuel n l fr' st'
      | r => r) none
def restOf : Nat → List Code → List Code
  | 0, l => l
  | n + 1, l => match l with
    | [] => []
    | .seq a b :: l => restOf n (a :: b :: l)
    | .block i (.loop d) :: l => .block i (.loop d) :: l
    | _ :: l => restOf n l
def SX.nrmB : SX → Bool
  | .nrm => true
  | _ => false
section
variable [Th] [Facts]
theorem evPre_run {X : Extra} (hX : ExtraOk Tryz.prog X) {fuel depth : Nat} {Q : Exit → Act → World → Prop} : ∀ (n : Nat) (l : List Code) {fr : List SV} {st : St} {x : SX} {fr' : List SV} {st' : St} {A : Nat → Prop} {I : In} {a : Act} {w : World}, evPre Tryz.prog (evN Tryz.prog X fuel depth) fuel n l fr st = some (x, fr', st') → Ok Tryz.prog A I st w → Fr A I fr a →
    (∀ e a' w' I', Mv Tryz.prog A I st w I' st' w' → Fr (up A st.nx st'.nx) I' fr' a' → a'.defers = a.defers → x.is (up A st.nx st'.nx) I' e → (match x with
      | .nrm => wpS Q (restOf n l) a' w'
      | _ => Q e a' w')) → wpS Q l a w
  | 0, _, _, _, _, _, _, _, _, _, _, h, _, _, _ => by cases h
  | n + 1, l, fr, st, x, fr', st', A, I, a, w, h, hok, hf, K => by
    unfold evPre at h
    split at h
    · cases h
      exact K .normal a w I (Mv.same hok (Chg.refl _ w)) (hf.mono fun i hi => .inl hi) rfl rfl
    · rename_i c d l
      exact wpS_seq (evPre_run hX n _ h hok hf fun e a' w' I' h1 h2 h3 h4 => K e a' w' I' h1 h2 h3 h4)
    · rename_i i d l
      cases h
      exact K .normal a w I (Mv.same hok (Chg.refl _ w)) (hf.mono fun i hi => .inl hi) rfl rfl
    · rename_i c l hn1 hn2
      rw [Bool.cond_eq_ite] at h
      split at h
      case isFalse => cases h
      rename_i hrf
      have run := fun (x : SX) (fr1 : List SV) (st1 : St) (he : evC Tryz.prog (evN Tryz.prog X fuel depth) none fuel c fr st = some (x, fr1, st1)) => (evC_run0 (by kernel_rfl) nameOk (evN_run (by kernel_rfl) nameOk hX fuel depth) fuel c fr st x fr1 st1 hrf he).1 A I w a none hok hf rfl
      have hrest : restOf (n + 1) (c :: l) = restOf n l := by
        rw [restOf]
        · exact fun a b e => hn1 a b e
        · exact fun a b e => hn2 a b e
      split at h
      · rename_i fr1 st1 he
        refine wpIn_mono (run _ _ _ he) fun e a1 w1 ⟨I1, hm1, hf1, hx1, hd1⟩ => ?_
        obtain rfl : e = .normal := hx1
        refine evPre_run hX n l h hm1.ok hf1 fun e a' w' I' h1 h2 h3 h4 => ?_
        have := K e a' w' I' (Mv.trans hok hm1 h1) (h2.mono (up_up hm1.nx h1.nx)) (h3.trans hd1) (SX.is_mono (up_up hm1.nx h1.nx) h4)
        rw [hrest] at this
        exact this
      · rename_i r hr
        refine wpIn_mono (run _ _ _ h) fun e a1 w1 ⟨I1, hm1, hf1, hx1, hd1⟩ => ?_
        have := K e a1 w1 I1 hm1 hf1 hd1 hx1
        cases x with
        | nrm => exact absurd h (fun h => hr _ _ h)
        | exit id => obtain rfl : e = .exit id := hx1; exact this
        | goto id => obtain rfl : e = .goto id := hx1; exact this
        | ret => obtain rfl : e = .ret := hx1; exact this
        | pan v =>
          have hx2 := hx1.1
          subst hx2
          exact this
end
/-- does what was evaluated fit a form -/
def fitK [Th] (G : Frm) (F : Frm) (ts : List Tm) (rn : List Src) (m : Nat) (W : List Nat) (fr' : List SV) (st' : St) : Bool :=
  formV F.n F.fr && (fitFr ts rn m 0 F.fr fr' && (idUp rn m && (apartB rn F.H && (F.H.all (fitM st'.H ts rn m) && ((st'.wr.all fun i => memN i W || Nat.ble G.n i) && G.H.all fun x => memN x.1 W || (match E2.look st'.H x.1 with
    | some _ => true
    | none => false))))))
theorem fitK_ok [Th] [Facts] {G F : Frm} {ts : List Tm} {rn : List Src} {m : Nat} {W : List Nat} {fr' : List SV} {st' : St} (h : fitK G F ts rn m W fr' st' = true) {N : In} {r : Nat → Th.D} {u : Nat → Value} {w w' : World} {a' : Act} {I' : In}
    (hok : Ok Tryz.prog (fun i => i < G.n) (Imk N r u) ⟨G.H, G.n, []⟩ w) (hmv : Mv Tryz.prog (fun i => i < G.n) (Imk N r u) ⟨G.H, G.n, []⟩ w I' st' w') (hf' : Fr (up (fun i => i < G.n) G.n st'.nx) I' fr' a') :
    ∃ N2 u2, At F N2 (newR ts r) u2 a' w' ∧ Beh G F N rn m W N2 w w' := by
  unfold fitK at h
  simp only [Bool.and_eq_true] at h
  obtain ⟨hfv, hfit, hm, hap, hF, hwr, hlv⟩ := h
  have hr : I'.val.r = r := by rw [hmv.val]; rfl
  have hext : ∀ i, i < G.n → I'.adr i = N.adr i ∧ I'.cap i = N.cap i ∧ I'.esl i = N.esl i := fun i hi => hmv.ext i (.inl hi)
  have hW : ∀ b, (∃ id, id ∈ st'.wr ∧ E2.look G.H id ≠ none ∧ (N.esl id).fp b) → ∃ id, id ∈ W ∧ E2.look G.H id ≠ none ∧ (N.esl id).fp b := fun b ⟨id, h1, h2, h3⟩ => by
    refine ⟨id, ?_, h2, h3⟩
    have := List.all_eq_true.1 hwr id h1
    rw [Bool.or_eq_true, memN_iff, Nat.ble_eq] at this
    refine this.resolve_right fun h => ?_
    have := hok.live_lt h2
    simp only at this h
    omega
  have hlook : ∀ x ∈ F.H, ∀ j, rnAt rn x.1 = .nm j → E2.look st'.H j ≠ none := fun x hx j hj => by
    have := List.all_eq_true.1 hF x hx
    obtain ⟨k, so⟩ := x
    unfold fitM at this
    dsimp only at this hj
    split at this
    · rename_i c v j' hj'
      rw [hj] at hj'
      cases hj'
      split at this
      · rename_i hl; rw [hl]; simp
      · cases this
    · rename_i hj'
      rw [hj] at hj'
      cases hj'
    · rename_i e cs j' hj'
      rw [hj] at hj'
      cases hj'
      split at this
      · rename_i hl; rw [hl]; simp
      · cases this
    · cases this
  refine ⟨rnIn I' rn, fun i => (denL I' fr').getD i undef, ⟨?_, fun x hx => fitM_real hm hr (fun j o ho => hmv.ok.real j o ho) (List.all_eq_true.1 hF x hx), ?_, fitFr_vw hm hr F.fr fr' 0 hfit hfv hf'.2⟩, fun i hi hn => ?_, hmv.chgW.mono fun b _ hb => hW b hb, fun x hx => ?_⟩
  · rw [hf'.tmps]
    exact congrArg List.toArray (fitFr_den hm hr F.fr fr' 0 hfit fun j _ => by rw [Nat.zero_add]).symm
  · refine apartB_pw hap fun x hx y hy hxy hij => ⟨hxy, fun b h1 h2 => ?_⟩
    simp only [rnIn] at h1 h2
    cases hrx : rnAt rn x.1 with
    | nil => rw [hrx] at h1; exact h1
    | nm i =>
      cases hry : rnAt rn y.1 with
      | nil => rw [hry] at h2; exact h2
      | nm j =>
        rw [hrx] at h1
        rw [hry] at h2
        exact hij i j hrx hry (hmv.ok.inj i j (hlook x hx i hrx) (hlook y hy j hry) b h1 h2)
  · obtain ⟨h1, h2, h3⟩ := rnIn_id (I' := I') hm hi
    obtain ⟨g1, g2, g3⟩ := hext i hn
    exact ⟨h1.trans g1, h2.trans g2, h3.trans g3⟩
  · cases hrx : rnAt rn x.1 with
    | nil => exact .inr fun b hb => by simp only [rnIn, hrx, nilEX] at hb
    | nm i =>
      rcases Nat.lt_or_ge i G.n with hi | hi
      · obtain ⟨g1, g2, g3⟩ := hext i hi
        refine .inl ⟨i, hi, rfl, ?_, ?_⟩
        · simp only [rnIn, hrx]; exact g3
        · simp only [rnIn, hrx]; exact g1
      · refine .inr fun b hb => ?_
        simp only [rnIn, hrx] at hb
        rcases hmv.new i hi (hlook x hx i hrx) b hb with h1 | ⟨id, h1, h2, h3⟩
        · exact .inl h1
        · refine .inr ⟨id, ?_, h1, h3⟩
          have mem : ∀ {H : List (Nat × SO)} {id : Nat}, E2.look H id ≠ none → ∃ o, (id, o) ∈ H := fun {H} => by
            induction H with
            | nil => intro id h; exact absurd rfl h
            | cons x H ih =>
              intro id h
              by_cases e : x.1 = id
              · exact ⟨x.2, by rw [← e]; exact List.mem_cons_self ..⟩
              · obtain ⟨o, ho⟩ := ih (id := id) (by
                  intro hn
                  apply h
                  have : ¬ Nat.beq x.1 id = true := fun hb => e (Nat.eq_of_beq_eq_true hb)
                  unfold E2.look
                  simp only [Bool.not_eq_true] at this
                  simp [this, hn])
                exact ⟨o, List.mem_cons_of_mem _ ho⟩
          obtain ⟨o, ho⟩ := mem h1
          have := List.all_eq_true.1 hlv _ ho
          rw [Bool.or_eq_true, memN_iff] at this
          refine this.resolve_right fun h => ?_
          rw [h2] at h
          cases h
/-- a stack, from a form to another, up to the next loop -/
def evalsP [Th] [Facts] (P : Program) (X : Extra) (fuel depth n : Nat) (l : List Code) (G : Frm) (k : Nat) (F : Frm) (ts : List Tm) (rn : List Src) (m : Nat) (W : List Nat) : Bool :=
  match evPre P (evN P X fuel depth) fuel n l G.fr ⟨G.H, G.n, []⟩ with
  | some (x, fr', st') => (match codeX x with
      | some k' => Nat.beq k k'
      | none => false) && fitK G F ts rn m W fr' st'
  | none => false
def chkP [Th] (S : VL → Prop) (P : Program) (X : Facts → Extra) (fuel depth n : Nat) (l : List Code) (G : Frm) : KT → List (Tm × Bool) → Bool
  | .leaf k F ts rn m W, d => @evalsP _ (decF S d) P (X (decF S d)) fuel depth n l G k F ts rn m W
  | .fork t a b, d => chkP S P X fuel depth n l G a ((t, true) :: d) && chkP S P X fuel depth n l G b ((t, false) :: d)
  | .dead, _ => true
theorem chkP_spec [Th] {S : VL → Prop} {P : Program} {X : Facts → Extra} {fuel depth n : Nat} {c : List Code} {G : Frm} {r : Nat → Th.D} {k : Nat} {F : Frm} {ts : List Tm} {rn : List Src} {m : Nat} {W : List Nat} : ∀ {dt : KT} {l : List (Tm × Bool)}, chkP S P X fuel depth n c G dt l = true → DecOk l r → dt.pick r = some (k, F, ts, rn, m, W) →
    ∃ l', DecOk l' r ∧ @evalsP _ (decF S l') P (X (decF S l')) fuel depth n c G k F ts rn m W = true
  | .leaf _ _ _ _ _ _, l, h, hl, hp => by cases hp; exact ⟨l, hl, h⟩
  | .dead, l, h, hl, hp => by cases hp
  | .fork t a b, l, h, hl, hp => by
    simp only [chkP, Bool.and_eq_true] at h
    cases ht : Th.toB (t.den r)
    · rw [KT.pick, ht, cond_false] at hp
      exact chkP_spec h.2 (DecOk.cons ht hl) hp
    · rw [KT.pick, ht, cond_true] at hp
      exact chkP_spec h.1 (DecOk.cons ht hl) hp
def kExit : Nat → Exit
  | 0 => .normal
  | 1 => .ret
  | id + 2 => .exit id
theorem stepP [Th] {S : VL → Prop} {X : Facts → Extra} (hX : ∀ F : Facts, F.say = S → @ExtraOk _ F Tryz.prog (X F)) {fuel depth n : Nat} {l : List Code} {G : Frm} {dt : KT} {l0 : List (Tm × Bool)} (hG : G.okB = true) (h : chkP S Tryz.prog X fuel depth n l G dt l0 = true)
    {N : In} {r : Nat → Th.D} {u : Nat → Value} {a : Act} {w : World} (hA : At G N r u a w) (hl0 : DecOk l0 r) (hS : S (vlu r u)) {k : Nat} {F : Frm} {ts : List Tm} {rn : List Src} {m : Nat} {W : List Nat} (hp : dt.pick r = some (k, F, ts, rn, m, W)) {Q : Exit → Act → World → Prop}
    (K : ∀ a' w' N2 u2, a'.defers = a.defers → At F N2 (newR ts r) u2 a' w' → Beh G F N rn m W N2 w w' → (match k with
      | 0 => wpS Q (restOf n l) a' w'
      | k => Q (kExit k) a' w')) : wpS Q l a w := by
  obtain ⟨d, hl, h⟩ := chkP_spec h hl0 hp
  letI := decF S d
  obtain ⟨hGf, hGH⟩ := G.ok_of hG (Imk N r u) hA.vws
  have hok : Ok Tryz.prog (fun i => i < G.n) (Imk N r u) ⟨G.H, G.n, []⟩ w := Ok.of G.H G.n (decF_oku _ hS hl) (fun x hx => ⟨(hGH x hx).1, (hGH x hx).2, hA.mem x hx⟩) hA.dis
  unfold evalsP at h
  split at h
  case h_2 => cases h
  rename_i x fr' st' he
  rw [Bool.and_eq_true] at h
  have hXd : @ExtraOk _ (decF S d) Tryz.prog (X (decF S d)) := hX _ rfl
  refine evPre_run hXd n l he hok ⟨hA.tmps, hGf⟩ fun e a' w' I' hmv hf' hd hx => ?_
  obtain ⟨N2, u2, h1, h2⟩ := fitK_ok h.2 hok hmv hf'
  have := K a' w' N2 u2 hd h1 h2
  cases x with
  | nrm => obtain rfl : k = 0 := Nat.eq_of_beq_eq_true h.1; exact this
  | exit id => obtain rfl : k = id + 2 := Nat.eq_of_beq_eq_true h.1; obtain rfl : e = .exit id := hx; exact this
  | goto id => cases h.1
  | ret => obtain rfl : k = 1 := Nat.eq_of_beq_eq_true h.1; obtain rfl : e = .ret := hx; exact this
  | pan v => cases h.1
/-- a loop, by an invariant: each round goes on, leaves the loop, or returns -/
theorem loopS {Q : Exit → Act → World → Prop} {i : Nat} {d : Code} {l : List Code} (Inv : Nat → Act → World → Prop)
    (round : ∀ k a w, Inv k a w → d.wpIn (fW none) 0 Tryz.prog (fun e a' w' => match e with
      | .normal => ∃ j, j < k ∧ Inv j a' w'
      | .exit id => if id = i then wpS Q l a' w' else Q (.exit id) a' w'
      | e => Q e a' w') a w) {k : Nat} {a : Act} {w : World} (h : Inv k a w) : wpS Q (.block i (.loop d) :: l) a w := by
  refine wpIn_block (loop_ind Inv (fun k a w h => wpIn_mono (round k a w h) fun e a' w' q => ?_) h)
  cases e with
  | normal => exact q
  | exit id =>
    by_cases e : id = i
    · simp only [e, if_true] at q
      simp only [Exit.then, Exit.inBlock, e, if_true]
      exact q
    · simp only [e, if_false] at q
      simp only [Exit.then, Exit.inBlock, e, if_false]
      exact q
  | _ => exact q
end Go.Proofs.YthjnecicagmdeaaGreat.V
