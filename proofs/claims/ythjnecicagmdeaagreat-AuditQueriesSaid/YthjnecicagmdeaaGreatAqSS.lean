/-
  What intervals suggest, one after the other. Condition: at most twenty.
-/
import Derived.Test.YthjnecicagmdeaaGreatAqC
import Derived.Test.YthjnecicagmdeaaGreatE2P
namespace Go.Proofs.YthjnecicagmdeaaGreat.V.AqSS
open Go.Proofs.YthjnecicagmdeaaGreat Go.Proofs.YthjnecicagmdeaaGreat.V Go.RowKit Go.E2
open Go.Al hiding P3
set_option linter.unusedVariables false
set_option linter.unusedSectionVars false

noncomputable def c0 : Code := bodyOf Tryz.prog 18
def fo : SV := .func (.func 19) [] []
def G0 : Frm := ⟨[(0, .blob 103 (.var 2))], 1, [.root 0, fo] ++ List.replicate 19 (.tup [])⟩
def GL : Frm := ⟨[(0, .blob 103 (.var 2)), (1, .blob 106 (.var 3))], 2, [.root 0, fo, .any 2, .any 3, .slice none 0 (.lit 0), .root 1, .any 6, .any 7, .root 0, .ix (.var 1), .ix (.var 0)] ++ (List.range 10).map (fun i => .any (i + 11))⟩
def GZ : Frm := ⟨[(1, .blob 106 (.var 3))], 2, [.any 0, .any 1, .any 2, .any 3, .root 1] ++ (List.range 16).map (fun i => .any (i + 5))⟩
def X0 : Facts → Extra := fun _ => xOf []
theorem X0_ok (F : Facts) (_ : F.say = fun _ => True) : @ExtraOk _ F Tryz.prog (X0 F) := by
  letI := F
  exact xOf_ok fun x hx => by cases hx
theorem rest : restOf 30 [c0] = [.block 0 (.loop (cAt c0 [1, 1, 0, 1, 1, 1])), cAt c0 [1, 1, 1]] := by kernel_rfl
theorem pre_ev : chkP (fun _ => True) Tryz.prog X0 200 20 30 [c0] G0 (.leaf 0 GL [.lit 0, .app 12 [.var 2], .var 2, .app 13 []] [.nm 0, .nil] 1 []) [] = true := by kernel_rfl
def outT : Tm := (.app 14 [(.app 14 [(.app 14 [(.app 14 [(.var 3), (.lit 5), (.lit 0), (.lit 0), (.lit 0), (.lit 0), (.lit 0), (.lit 0), (.lit 0), (.app 17 [(.var 2), (.var 0), (.lit 1)]), (.lit 0)]), (.lit 5), (.lit 0), (.lit 0), (.lit 0), (.lit 0), (.lit 0), (.lit 0), (.lit 0), (.app 17 [(.var 2), (.var 0), (.lit 2)]), (.lit 0)]), (.lit 6), (.lit 0), (.lit 0), (.lit 0), (.lit 0), (.lit 0), (.lit 0), (.lit 0), (.app 17 [(.var 2), (.var 0), (.lit 1)]), (.app 17 [(.var 2), (.var 0), (.lit 2)])]), (.lit 7), (.lit 0), (.lit 0), (.lit 0), (.lit 0), (.lit 0), (.lit 0), (.lit 0), (.app 17 [(.var 2), (.var 0), (.lit 1)]), (.app 17 [(.var 2), (.var 0), (.lit 2)])])
theorem go_ev : chkK (fun _ => True) Tryz.prog X0 200 20 (cAt c0 [1, 1, 0, 1, 1, 1]) GL (.leaf 0 GL [.app 0 [.var 0, .lit 1], .var 1, .var 2, outT] [.nm 0, .nm 5] 1 [1]) [(.app 3 [.var 0, .var 1], true), (.app 3 [.var 0, .lit 0], false), (.app 3 [.var 0, .app 12 [.var 2]], true), (.app 3 [.lit 1073741824, .app 12 [.var 3]], false)] = true := by kernel_rfl
theorem end_ev : chkK (fun _ => True) Tryz.prog X0 200 20 (cAt c0 [1, 1, 0, 1, 1, 1]) GL (.leaf 2 GL [.var 0, .var 1, .var 2, .var 3] [] 2 []) [(.app 3 [.var 0, .var 1], false)] = true := by kernel_rfl
theorem z_ev : chkP (fun _ => True) Tryz.prog X0 200 20 30 [cAt c0 [1, 1, 1]] GL (.leaf 1 GZ [.var 0, .var 1, .var 2, .var 3] [] 2 []) [] = true := by kernel_rfl
theorem rest_z : restOf 30 [cAt c0 [1, 1, 1]] = [] := by kernel_rfl
def nm (fp : Nat → Prop) (r : { v : Value // v.oneCell' = true }) : In := ⟨fun i => 0, fun _ => 0, fun i => [⟨(none, 0), fp, r⟩].getD i (EX.lit (none, 0)), vlu (fun _ => LD.i 0) (fun _ => undef)⟩
theorem step_out {L : List (List Int)} {i : Nat} (hi : i < L.length) (hL : L.length ≤ 20) (n : Int) :
    tdenL (lets [.i i, .i n, .r L, .r ((L.take i).flatMap sugS)]) [.app 0 [.var 0, .lit 1], .var 1, .var 2, outT] = [.i ((i + 1 : Nat) : Int), .i n, .r L, .r ((L.take (i + 1)).flatMap sugS)] := by
  have hp : L[i]? = some L[i] := List.getElem?_eq_getElem hi
  have e1 : (L.take (i + 1)).flatMap sugS = (L.take i).flatMap sugS ++ sugS L[i] := by rw [← List.take_append_getElem hi, List.flatMap_append]; simp
  rw [e1]
  show [LD.i (IntKind.i64.wrap ((i : Int) + 1)), LD.i n, LD.r L, LD.r ((((((L.take i).flatMap sugS) ++ [[(5), 0, 0, 0, 0, 0, 0, 0, cellAt L i (1), 0]]) ++ [[(5), 0, 0, 0, 0, 0, 0, 0, cellAt L i (2), 0]]) ++ [[(6), 0, 0, 0, 0, 0, 0, 0, cellAt L i (1), cellAt L i (2)]]) ++ [[(7), 0, 0, 0, 0, 0, 0, 0, cellAt L i (1), cellAt L i (2)]])] = _
  rw [show cellAt L i 1 = L[i].getD 1 0 from cellAt_eq hp 1, show cellAt L i 2 = L[i].getD 2 0 from cellAt_eq hp 2, IntWalk.i64_in _ (by omega)]
  simp [sugS]
set_option maxRecDepth 100000 in
theorem sug_any {own : Bool} {L : List (List Int)} {r : Value} {fp : Nat → Prop} {w : World} (h : RowAt 42 3 own r L fp w) (hL : L.length ≤ 20) :
    Calls Tryz.prog 18 #[r, .func (.func 19) #[] #[]] w (Turns (fun v fp' w' => RowAt 34 10 true v (L.flatMap sugS) fp' w') (fun _ => False) w) := by
  have h := h.ro
  refine calls_of_code Tryz.func18 (c := c0) (by kernel_rfl) (wpS_one ?_)
  have hA0 : ∀ a : Act, a.tmps = #[r, .func (.func 19) #[] #[]] ++ Array.replicate 19 undef → At G0 (nm fp ⟨r, h.one⟩) (lets [.i 0, .i 0, .r L, .r []]) (fun _ => undef) a w := fun a ha => ⟨ha.trans (by kernel_rfl), fun x hx => by rw [List.mem_singleton.1 hx]; exact h, List.pairwise_singleton _ _, vws_none (by kernel_rfl)⟩
  refine stepP X0_ok (by kernel_rfl) pre_ev (hA0 _ (by kernel_rfl)) (DecOk.nil _) trivial rfl fun a1 w1 N1 u1 hd1 hA1 hB1 => ?_
  show wpS _ (restOf 30 [c0]) a1 w1
  rw [rest]
  have hs1 : Same w w1 := hB1.chg.mono fun k _ ⟨id, h, _⟩ => by cases h
  refine loopS (fun k a w' => ∃ (i : Nat) (N : In) (u : Nat → Value), i ≤ L.length ∧ k = L.length - i ∧ At GL N (lets [.i i, .i L.length, .r L, .r ((L.take i).flatMap sugS)]) u a w' ∧ a.defers = [] ∧ Same w w' ∧ ∀ b, (N.esl 1).fp b → w.heap.size ≤ b) (fun k a w' ⟨i, N, u, hi, hk, hA, hd, hs, hf⟩ => ?_) ⟨0, N1, u1, Nat.zero_le _, rfl, ?_, hd1, hs1, fun b hb => ?_⟩
  · by_cases hlt : i < L.length
    · have hout : ((L.take i).flatMap sugS).length ≤ 80 := by
        have : ∀ M : List (List Int), (M.flatMap sugS).length = 4 * M.length := fun M => by
          induction M with
          | nil => rfl
          | cons p M ih => rw [List.flatMap_cons, List.length_append, ih, List.length_cons]; show 4 + _ = _; omega
        rw [this, List.length_take]
        omega
      refine wpIn_mono (stepK X0_ok (by kernel_rfl) (by kernel_rfl) go_ev hA (DecOk.cons (decide_eq_true (show (i : Int) < L.length by omega)) (DecOk.cons (decide_eq_false (show ¬ (i : Int) < 0 by omega)) (DecOk.cons (decide_eq_true (show (i : Int) < L.length by omega)) (DecOk.cons (decide_eq_false (show ¬ (1073741824 : Int) < ((L.take i).flatMap sugS).length by omega)) (DecOk.nil _))))) trivial rfl) fun e a' w2 ⟨he, hd', N2, u2, hA2, hB2⟩ => ?_
      obtain rfl : e = .normal := he
      rw [newR_lets rfl, step_out hlt hL] at hA2
      have hc : Same w w2 := Chg.fresh (hs.to.trans hB2.chg fun b hb ⟨id, h1, h2, h3⟩ => show w.heap.size ≤ b from hf b (by rwa [List.mem_singleton.1 h1] at h3)) fun k h => h
      refine ⟨L.length - (i + 1), by omega, i + 1, N2, u2, hlt, rfl, hA2, hd'.trans hd, hc, fun b hb => ?_⟩
      rcases hB2.new (1, .blob 106 (.var 3)) (by simp [GL]) with ⟨j, hj, hj2, _⟩ | h4
      · cases hj2; exact absurd hj (by decide)
      · rcases h4 b hb with h5 | ⟨id, h5, _, h6⟩
        · exact Nat.le_trans hs.size h5
        · exact hf b (by rwa [List.mem_singleton.1 h5] at h6)
    · obtain rfl : i = L.length := by omega
      refine wpIn_mono (stepK X0_ok (by kernel_rfl) (by kernel_rfl) end_ev hA (DecOk.cons (decide_eq_false (show ¬ (L.length : Int) < L.length by omega)) (DecOk.nil _)) trivial rfl) fun e a' w2 ⟨he, hd', N2, u2, hA2, hB2⟩ => ?_
      obtain rfl : e = .exit 0 := he
      show wpS _ [cAt c0 [1, 1, 1]] a' w2
      refine stepP X0_ok (by kernel_rfl) z_ev hA2 (DecOk.nil _) trivial rfl fun a3 w3 N3 u3 hd3 hA3 hB3 => ?_
      refine bodyPost_ret (hA3.res (t := 4) (v := .root 1) rfl rfl w3) (hd3.trans (hd'.trans hd)) ?_
      have hm := hA3.mem (1, .blob 106 (.var 3)) (by simp [GZ])
      have k2 := (hB2.keep 1 (by decide) (by decide)).2.2
      have k3 := (hB3.keep 1 (by decide) (by decide)).2.2
      have hc : Same w w3 := (hs.trans (hB2.chg.mono fun k _ ⟨id, h, _⟩ => by cases h)).trans (hB3.chg.mono fun k _ ⟨id, h, _⟩ => by cases h)
      refine ⟨_, (N3.esl 1).fp, rfl, ?_, hc.to, fun b hb => .inl ?_⟩
      · have hm : RowAt 34 10 true ((N3.esl 1).rt.1) ((L.take L.length).flatMap sugS) (N3.esl 1).fp w3 := hm
        rw [List.take_length] at hm
        exact hm
      · rw [k3, k2] at hb
        exact hf b hb
  · rw [newR_lets rfl] at hA1
    exact hA1
  · rcases hB1.new (1, .blob 106 (.var 3)) (by simp [GL]) with ⟨j, hj, hj2, _⟩ | h4
    · cases hj2
    · rcases h4 b hb with h5 | ⟨id, h5, _⟩
      · exact h5
      · cases h5
end Go.Proofs.YthjnecicagmdeaaGreat.V.AqSS
