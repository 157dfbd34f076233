/-
  What points and intervals suggest: audit.Queries. Condition: at most twenty of each.
-/
import Derived.Test.YthjnecicagmdeaaGreatAqE
namespace Go.Proofs.YthjnecicagmdeaaGreat.V.AqQ
open Go.Proofs.YthjnecicagmdeaaGreat Go.Proofs.YthjnecicagmdeaaGreat.V Go.Proofs.YthjnecicagmdeaaGreat.V.AqE Go.RowKit Go.E2
open Go.Al hiding P3
set_option linter.unusedVariables false
set_option linter.unusedSectionVars false

def A : Tm := .app 21 [.var 0]
def B : Tm := .app 22 [.var 1]
def S1 : Tm := .app 0 [.lit 0, .app 12 [A]]
def S2 : Tm := .app 0 [S1, .app 12 [B]]
def T1 : Tm := .app 15 [.app 13 [], A]
def T : Tm := .app 15 [T1, B]
def T2 : Tm := .app 14 [T, .lit 2, .app 23 [.var 0], .app 24 [.var 0], .app 25 [.var 0], .app 26 [.var 0], .lit 0, .lit 0, .lit 0, .lit 0, .lit 0]
def facts : List (Tm × Bool) := [(.app 3 [.lit 20, .app 12 [.var 0]], false), (.app 3 [.lit 20, .app 12 [.var 1]], false), (.app 3 [S1, .lit 0], false), (.app 3 [S2, .lit 0], false), (.app 3 [.lit 1000, S2], false), (.app 3 [.lit 1000, .app 12 [A]], false), (.app 3 [.lit 1000, .app 12 [B]], false), (.app 3 [.lit 1000, .app 12 [T1]], false), (.app 3 [.lit 1000, .app 12 [.app 13 []]], false), (.app 3 [.lit 1000, .app 12 [T]], false), (.app 3 [.lit 1000, .app 12 [T2]], false)]
def H0 : List (Nat × SO) := [(0, .blob 100 (.var 0)), (1, .blob 102 (.var 1))]
def dt : DT := .fork (.app 4 [.app 12 [.var 0], .lit 0]) (.leaf (.root 9) [(9, .blob 107 (.app 27 [T]))] []) (.leaf (.root 11) [(11, .blob 107 (.app 27 [T2]))] [])
theorem q_ev : chkD (fun _ => True) Tryz.prog XQ 200 20 5 [.root 0, .root 1] ⟨H0, 2, []⟩ dt facts = true := by kernel_rfl
theorem sugP_length (M : List (List Int)) : (M.flatMap sugP).length = 4 * M.length := by
  induction M with
  | nil => rfl
  | cons p M ih => rw [List.flatMap_cons, List.length_append, ih, List.length_cons]; show 4 + _ = _; omega
theorem sugS_length (M : List (List Int)) : (M.flatMap sugS).length = 4 * M.length := by
  induction M with
  | nil => rfl
  | cons p M ih => rw [List.flatMap_cons, List.length_append, ih, List.length_cons]; show 4 + _ = _; omega
theorem facts_ok {P S : List (List Int)} (hP : P.length ≤ 20) (hS : S.length ≤ 20) : DecOk facts (lets [.r P, .r S]) := by
  have ha := sugP_length P
  have hb := sugS_length S
  obtain ⟨a, hA⟩ : ∃ a, (P.flatMap sugP).length = a := ⟨_, rfl⟩
  obtain ⟨b, hB⟩ : ∃ b, (S.flatMap sugS).length = b := ⟨_, rfl⟩
  have w1 : IntKind.i64.wrap (0 + (((P.flatMap sugP).length : Nat) : Int)) = a := by rw [hA, IntWalk.i64_in _ (by omega)]; omega
  have w2 : IntKind.i64.wrap (IntKind.i64.wrap (0 + (((P.flatMap sugP).length : Nat) : Int)) + (((S.flatMap sugS).length : Nat) : Int)) = a + b := by rw [w1, hB, IntWalk.i64_in _ (by omega)]
  refine DecOk.cons (decide_eq_false (show ¬ (20 : Int) < P.length by omega)) (DecOk.cons (decide_eq_false (show ¬ (20 : Int) < S.length by omega)) (DecOk.cons (decide_eq_false (show ¬ IntKind.i64.wrap (0 + (((P.flatMap sugP).length : Nat) : Int)) < 0 by rw [w1]; omega)) (DecOk.cons (decide_eq_false (show ¬ IntKind.i64.wrap (IntKind.i64.wrap (0 + (((P.flatMap sugP).length : Nat) : Int)) + (((S.flatMap sugS).length : Nat) : Int)) < 0 by rw [w2]; omega)) (DecOk.cons (decide_eq_false (show ¬ 1000 < IntKind.i64.wrap (IntKind.i64.wrap (0 + (((P.flatMap sugP).length : Nat) : Int)) + (((S.flatMap sugS).length : Nat) : Int)) by rw [w2]; omega)) (DecOk.cons (decide_eq_false (show ¬ (1000 : Int) < ((P.flatMap sugP).length : Nat) by omega)) (DecOk.cons (decide_eq_false (show ¬ (1000 : Int) < ((S.flatMap sugS).length : Nat) by omega)) (DecOk.cons (decide_eq_false (show ¬ (1000 : Int) < ((([] : List (List Int)) ++ P.flatMap sugP).length : Nat) by rw [List.nil_append]; omega)) (DecOk.cons (decide_eq_false (show ¬ (1000 : Int) < ((([] : List (List Int))).length : Nat) by decide)) (DecOk.cons (decide_eq_false (show ¬ (1000 : Int) < (((([] : List (List Int)) ++ P.flatMap sugP) ++ S.flatMap sugS).length : Nat) by rw [List.nil_append, List.length_append]; omega)) (DecOk.cons (decide_eq_false (show ¬ (1000 : Int) < ((((([] : List (List Int)) ++ P.flatMap sugP) ++ S.flatMap sugS) ++ [boxQ P]).length : Nat) by rw [List.nil_append, List.length_append, List.length_append]; simp only [List.length_singleton]; omega)) (DecOk.nil _)))))))))))
def nm (fp fs : Nat → Prop) (r s : { v : Value // v.oneCell' = true }) (R : Nat → LD) : In := ⟨fun i => 0, fun _ => 0, fun i => [⟨(none, 0), fp, r⟩, ⟨(none, 0), fs, s⟩].getD i (EX.lit (none, 0)), vlr R⟩
set_option maxRecDepth 100000 in
theorem queries_any {P S : List (List Int)} {r s : Value} {fp fs : Nat → Prop} {w : World} (hr : RowAt 40 3 true r P fp w) (hs : RowAt 42 3 true s S fs w) (hd : ∀ b, fp b → ¬ fs b) (hP : P.length ≤ 20) (hS : S.length ≤ 20) :
    Calls Tryz.prog 5 #[r, s] w (Turns (fun v fp' w' => RowAt 34 10 false v (sugQ P S) fp' w') (fun b => fp b ∨ fs b) w) := by
  have hH : ∀ x ∈ H0, x.1 < 2 ∧ x.2.ok (fun i => i < 2) (nm fp fs ⟨r, hr.one⟩ ⟨s, hs.one⟩ (lets [.r P, .r S])) ∧ RealW Tryz.prog (nm fp fs ⟨r, hr.one⟩ ⟨s, hs.one⟩ (lets [.r P, .r S])) x.1 x.2 w := fun x hx => by
    simp only [H0, List.mem_cons, List.not_mem_nil, or_false] at hx
    rcases hx with rfl | rfl
    · exact ⟨by decide, trivial, hr⟩
    · exact ⟨by decide, trivial, hs⟩
  have hdis : H0.Pairwise fun x y => x.1 ≠ y.1 ∧ ∀ b, ((nm fp fs ⟨r, hr.one⟩ ⟨s, hs.one⟩ (lets [.r P, .r S])).esl x.1).fp b → ¬ ((nm fp fs ⟨r, hr.one⟩ ⟨s, hs.one⟩ (lets [.r P, .r S])).esl y.1).fp b := by
    refine List.pairwise_cons.2 ⟨fun y hy => ?_, List.pairwise_singleton _ _⟩
    rw [List.mem_singleton.1 hy]
    exact ⟨by decide, hd⟩
  have hold : ∀ b, (∃ k, E2.look H0 k ≠ none ∧ ((nm fp fs ⟨r, hr.one⟩ ⟨s, hs.one⟩ (lets [.r P, .r S])).esl k).fp b) → fp b ∨ fs b := fun b ⟨k, h1, h2⟩ => by
    match k, h1, h2 with
    | 0, _, h2 => exact .inl h2
    | 1, _, h2 => exact .inr h2
    | k + 2, h1, _ => exact absurd rfl h1
  have fin : ∀ {v : SV} {F : List (Nat × SO)} {k : Nat} {t : Tm}, dt.pick (lets [.r P, .r S]) = some (.root k, [(k, .blob 107 t)], []) → 2 ≤ k → t.den (lets [.r P, .r S]) = .r (sugQ P S) →
      Calls Tryz.prog 5 #[r, s] w (Turns (fun v fp' w' => RowAt 34 10 false v (sugQ P S) fp' w') (fun b => fp b ∨ fs b) w) := fun {v F k t} hp hk ht => by
    refine (evalDL XQ_ok q_ev (lets [.r P, .r S]) (facts_ok hP hS) trivial (nm fp fs ⟨r, hr.one⟩ ⟨s, hs.one⟩ (lets [.r P, .r S])) rfl hp hH hdis ⟨(by decide : 0 < 2), (by decide : 1 < 2), trivial⟩).mono fun e w' ⟨I', h1, h2, h3, h4, h5, _⟩ => ?_
    obtain ⟨h6, h7⟩ := h5 (k, .blob 107 t) (List.mem_singleton.2 rfl)
    have hm : RowAt 34 10 false ((I'.esl k).rt.1) ((t.den I'.val.r).toR) (I'.esl k).fp w' := h6
    rw [h3] at hm
    have hm : RowAt 34 10 false ((I'.esl k).rt.1) ((t.den (lets [.r P, .r S])).toR) (I'.esl k).fp w' := hm
    rw [ht] at hm
    exact ⟨_, _, h1, hm, (h4.mono fun b _ ⟨id, h, _⟩ => by cases h), fun b hb => (h7 hk b hb).imp _root_.id (hold b)⟩
  cases P with
  | nil =>
    refine fin (v := .root 0) (F := []) (k := 9) (t := .app 27 [T]) rfl (by decide) ?_
    show LD.r ((([] ++ ([] : List (List Int)).flatMap sugP) ++ S.flatMap sugS).filter okQ) = _
    simp [sugQ, allQ]
  | cons p P =>
    refine fin (v := .root 0) (F := []) (k := 11) (t := .app 27 [T2]) ?_ (by decide) ?_
    · have : (Tm.app 4 [.app 12 [.var 0], .lit 0]).den (lets [.r (p :: P), .r S]) = .b (decide ((((p :: P).length : Nat) : Int) = 0)) := rfl
      rw [decide_eq_false (show ¬ ((((p :: P).length : Nat) : Int) = 0) by rw [List.length_cons]; omega)] at this
      simp only [dt, DT.pick, this]
      rfl
    · show LD.r (((([] ++ (p :: P).flatMap sugP) ++ S.flatMap sugS) ++ [boxQ (p :: P)]).filter okQ) = _
      simp [sugQ, allQ]
end Go.Proofs.YthjnecicagmdeaaGreat.V.AqQ
