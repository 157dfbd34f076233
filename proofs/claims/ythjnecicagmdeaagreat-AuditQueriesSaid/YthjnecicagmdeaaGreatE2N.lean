/-
  The evaluator at this program: contracts that turn parts of memory into another one, both ways. No conditions but those that are named.
-/
import Derived.Test.YthjnecicagmdeaaGreatE2W
namespace Go.Proofs.YthjnecicagmdeaaGreat.V
open Go.Proofs.YthjnecicagmdeaaGreat Go.RowKit Go.Al Go.E2
set_option linter.unusedVariables false
set_option linter.unusedSectionVars false

/-- a call returns what holds of blocks that are new, or were in a set; others are as they were -/
def Turns (Q : Value → (Nat → Prop) → World → Prop) (S : Nat → Prop) (w : World) (e : Ending) (w' : World) : Prop :=
  ∃ r fp, e = .returned r ∧ Q r fp w' ∧ Chg S w w' ∧ ∀ b, fp b → w.heap.size ≤ b ∨ S b
theorem Turns.mono {Q Q' : Value → (Nat → Prop) → World → Prop} {S S' : Nat → Prop} {w : World} (hQ : ∀ r fp w', Q r fp w' → Q' r fp w') (hS : ∀ b, S b → S' b) {e : Ending} {w' : World} (h : Turns Q S w e w') : Turns Q' S' w e w' := by
  obtain ⟨r, fp, h1, h2, h3, h4⟩ := h
  exact ⟨r, fp, h1, hQ _ _ _ h2, h3.mono fun b _ h => hS b h, fun b hb => (h4 b hb).imp id (hS b)⟩
/-- names of blocks and of what is told of as a whole -/
def Inm [Th] (ads : List Nat) (xs : List EX) (r : Nat → Th.D) : In := ⟨fun i => ads.getD i 0, fun _ => 0, fun i => xs.getD i (EX.lit (none, 0)), vlr r⟩
def EX.of (v : Value) (fp : Nat → Prop) (h : v.oneCell' = true) : EX := ⟨(none, 0), fp, ⟨v, h⟩⟩
section
variable [Th] [Facts] {P : Program} {A : Nat → Prop} {I : In} {st : St} {w : World}
/-- what is known of a function, as the evaluator takes it -/
theorem turn_entry (hok : Ok P A I st w) {ks : List Nat} {c : Nat} {t : Tm} {f : FuncId} {args : Array Value} (hks : ∀ k ∈ ks, E2.look st.H k ≠ none)
    (h : Calls P f args w (Turns (fun r fp w' => r.oneCell' = true ∧ Th.holds c r (t.den I.val.r) fp w') (fun b => ∃ k ∈ ks, (I.esl k).fp b) w)) :
    Calls P f args w fun e w' => ∃ I', Mv P A I st w I' ⟨ins (killL ks st.H) st.nx (.blob c t), st.nx + 1, ks ++ st.wr⟩ w' ∧ (SR.ret (.root st.nx)).is (up A st.nx (st.nx + 1)) I' e := by
  refine h.mono fun e w' ⟨r, fp, h1, ⟨h2, h3⟩, h4, h5⟩ => ?_
  refine ⟨I.putE st.nx (EX.of r fp h2), Mv.turn hok (EX.of r fp h2) hks h4 h3 h5, ?_, up_succ _⟩
  rw [h1]
  simp [SV.den, In.putE, EX.of]
/-- a call that reads alone -/
theorem read_entry (hok : Ok P A I st w) {f : FuncId} {args : Array Value} {v : SV} (hv : v.ok A I) (h : Calls P f args w fun e w' => e = .returned (v.den I) ∧ Same w w') :
    Calls P f args w fun e w' => ∃ I', Mv P A I st w I' st w' ∧ (SR.ret v).is (up A st.nx st.nx) I' e :=
  h.mono fun e w' ⟨h1, h2⟩ => ⟨I, Mv.same hok h2, h1, ok_mono (fun i hi => .inl hi) v hv⟩
end
end Go.Proofs.YthjnecicagmdeaaGreat.V
