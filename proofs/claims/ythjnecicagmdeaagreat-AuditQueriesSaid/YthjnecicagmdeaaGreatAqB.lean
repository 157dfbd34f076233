/-
  The box about points (box.Around). No conditions but that a machine holds them.
-/
import Derived.Test.YthjnecicagmdeaaGreatAqC
import Derived.Test.YthjnecicagmdeaaGreatE2P
import Derived.Test.YthjnecicagmdeaaGreatMp
namespace Go.Proofs.YthjnecicagmdeaaGreat.V.AqB
open Go.Proofs.YthjnecicagmdeaaGreat Go.Proofs.YthjnecicagmdeaaGreat.V Go.RowKit Go.E2
open Go.Al hiding P3
set_option linter.unusedVariables false
set_option linter.unusedSectionVars false

noncomputable def c0 : Code := bodyOf Tryz.prog 20
def G0 : Frm := ⟨[(0, .blob 101 (.var 2))], 1, [.root 0] ++ List.replicate 39 (.tup [])⟩
def GL : Frm := ⟨[(0, .blob 101 (.var 2)), (1, .cells 30 [.int .i64 0, .int .i64 0, .int .i64 0, .int .i64 0] none), (2, .cells 30 [.ix (.var 3), .ix (.var 4), .ix (.var 5), .ix (.var 6)] none)], 3, [.root 0, .any 1, .ptr (some (1, 0)), .bool false, .ptr (some (2, 0))] ++ (List.range 24).map (fun i => .any (i + 5)) ++ [.vw 0 3 (.lit 1) (.var 1), .ix (.var 1), .ix (.var 0)] ++ (List.range 8).map (fun i => .any (i + 32))⟩
def GE : Frm := ⟨[(1, .cells 30 [.int .i64 0, .int .i64 0, .int .i64 0, .int .i64 0] none)], 2, [.any 0, .any 1, .ptr (some (1, 0)), .bool false] ++ (List.range 36).map (fun i => .any (i + 4))⟩
def GZ : Frm := ⟨[(1, .cells 30 [.ix (.var 3), .ix (.var 4), .ix (.var 5), .ix (.var 6)] none)], 2, [.any 0, .any 1, .ptr (some (1, 0)), .bool true] ++ (List.range 36).map (fun i => .any (i + 4))⟩
def X0 : Facts → Extra := fun _ => xOf []
theorem X0_ok (F : Facts) (_ : F.say = fun _ => True) : @ExtraOk _ F Tryz.prog (X0 F) := by
  letI := F
  exact xOf_ok fun x hx => by cases hx
theorem rest : restOf 60 [c0] = [.block 0 (.loop (cAt c0 [1, 1, 1, 0, 1, 1, 1])), cAt c0 [1, 1, 1, 1]] := by kernel_rfl
def e1 : Tm := .app 17 [.var 2, .lit 0, .lit 1]
def e2 : Tm := .app 17 [.var 2, .lit 0, .lit 2]
theorem pre_ev : chkP (fun _ => True) Tryz.prog X0 200 20 60 [c0] G0 (.leaf 0 GL [.lit 0, .app 1 [.app 12 [.var 2], .lit 1], .var 2, e1, e1, e2, e2] [.nm 0, .nm 1, .nm 2] 3 []) [(.app 3 [.lit 0, .app 12 [.var 2]], true), (.app 4 [.app 12 [.var 2], .lit 0], false)] = true := by kernel_rfl
theorem none_ev : chkP (fun _ => True) Tryz.prog X0 200 20 60 [c0] G0 (.leaf 1 GE [.var 0, .var 1, .var 2, .var 3, .var 4, .var 5, .var 6] [.nm 0, .nm 1] 2 []) [(.app 4 [.app 12 [.var 2], .lit 0], true)] = true := by kernel_rfl
def c1 : Tm := .app 17 [.var 2, .app 0 [.lit 1, .var 0], .lit 1]
def c2 : Tm := .app 17 [.var 2, .app 0 [.lit 1, .var 0], .lit 2]
def goT : List Tm := [.app 0 [.var 0, .lit 1], .var 1, .var 2, .app 5 [.var 3, c1], .app 6 [.var 4, c1], .app 5 [.var 5, c2], .app 6 [.var 6, c2]]
theorem go_ev : chkK (fun _ => True) Tryz.prog X0 200 20 (cAt c0 [1, 1, 1, 0, 1, 1, 1]) GL (.leaf 0 GL goT [.nm 0, .nm 1, .nm 2] 3 [2]) [(.app 3 [.var 0, .var 1], true), (.app 3 [.var 0, .lit 0], false)] = true := by kernel_rfl
theorem end_ev : chkK (fun _ => True) Tryz.prog X0 200 20 (cAt c0 [1, 1, 1, 0, 1, 1, 1]) GL (.leaf 2 GL [.var 0, .var 1, .var 2, .var 3, .var 4, .var 5, .var 6] [] 3 []) [(.app 3 [.var 0, .var 1], false)] = true := by kernel_rfl
theorem z_ev : chkP (fun _ => True) Tryz.prog X0 200 20 60 [cAt c0 [1, 1, 1, 1]] GL (.leaf 1 GZ [.var 0, .var 1, .var 2, .var 3, .var 4, .var 5, .var 6] [] 3 [1]) [] = true := by kernel_rfl
def nm (fp : Nat → Prop) (r : { v : Value // v.oneCell' = true }) : In := ⟨fun i => 0, fun _ => 0, fun i => [⟨(none, 0), fp, r⟩].getD i (EX.lit (none, 0)), vlu (fun _ => LD.i 0) (fun _ => undef)⟩
def bx (L : List (List Int)) : List LD := [.i (ext min 1 L), .i (ext max 1 L), .i (ext min 2 L), .i (ext max 2 L)]
theorem step_box {L : List (List Int)} {i : Nat} (hi : i + 1 < L.length) (hL : L.length ≤ 20) (n : Int) :
    tdenL (lets ([.i i, .i n, .r L] ++ bx (L.take (i + 1)))) goT = [.i ((i + 1 : Nat) : Int), .i n, .r L] ++ bx (L.take (i + 1 + 1)) := by
  have hp : L[i + 1]? = some L[i + 1] := List.getElem?_eq_getElem hi
  have hne : L.take (i + 1) ≠ [] := fun h => by
    have := congrArg List.length h
    rw [List.length_take] at this
    simp only [List.length_nil] at this
    omega
  unfold bx
  rw [← List.take_append_getElem hi, ext_snoc _ _ hne, ext_snoc _ _ hne, ext_snoc _ _ hne, ext_snoc _ _ hne]
  show [LD.i (IntKind.i64.wrap ((i : Int) + 1)), LD.i n, LD.r L, LD.i (min (ext min 1 (L.take (i + 1))) (cellAt L (IntKind.i64.wrap (1 + (i : Int))) 1)), LD.i (max (ext max 1 (L.take (i + 1))) (cellAt L (IntKind.i64.wrap (1 + (i : Int))) 1)), LD.i (min (ext min 2 (L.take (i + 1))) (cellAt L (IntKind.i64.wrap (1 + (i : Int))) 2)), LD.i (max (ext max 2 (L.take (i + 1))) (cellAt L (IntKind.i64.wrap (1 + (i : Int))) 2))] = _
  rw [IntWalk.i64_in (1 + (i : Int)) (by omega), IntWalk.i64_in ((i : Int) + 1) (by omega), show (1 + (i : Int)) = ((i + 1 : Nat) : Int) by omega, show cellAt L ((i + 1 : Nat) : Int) 1 = L[i + 1].getD 1 0 from cellAt_eq hp 1, show cellAt L ((i + 1 : Nat) : Int) 2 = L[i + 1].getD 2 0 from cellAt_eq hp 2]
  rfl
def boxV (L : List (List Int)) : Value := .agg #[.int .i64 (ext min 1 L), .int .i64 (ext max 1 L), .int .i64 (ext min 2 L), .int .i64 (ext max 2 L)]
set_option maxRecDepth 100000 in
theorem around_any {own : Bool} {L : List (List Int)} {r : Value} {fp : Nat → Prop} {w : World} (h : RowAt 40 3 own r L fp w) (hL : L.length ≤ 20) :
    Calls Tryz.prog 20 #[r] w fun e w' => e = .returned (.tuple #[boxV L, .bool (decide (L ≠ []))]) ∧ Same w w' := by
  have h := h.ro
  refine calls_of_code Tryz.func20 (c := c0) (by kernel_rfl) (wpS_one ?_)
  have hA0 : ∀ a : Act, a.tmps = #[r] ++ Array.replicate 39 undef → At G0 (nm fp ⟨r, h.one⟩) (lets [.i 0, .i 0, .r L, .i 0, .i 0, .i 0, .i 0]) (fun _ => undef) a w := fun a ha => ⟨ha.trans (by kernel_rfl), fun x hx => by rw [List.mem_singleton.1 hx]; exact h, List.pairwise_singleton _ _, vws_none (by kernel_rfl)⟩
  by_cases h0 : L.length = 0
  · refine stepP X0_ok (by kernel_rfl) none_ev (hA0 _ (by kernel_rfl)) (DecOk.cons (decide_eq_true (show (L.length : Int) = 0 by omega)) (DecOk.nil _)) trivial rfl fun a1 w1 N1 u1 hd1 hA1 hB1 => ?_
    obtain ⟨_, ob, hb1, hb2⟩ := hA1.mem (1, .cells 30 [.int .i64 0, .int .i64 0, .int .i64 0, .int .i64 0] none) (by simp [GE])
    refine bodyPost_ret (results_cell2 rfl (At.slot hA1 (t := 2) (v := .ptr (some (1, 0))) rfl) (hb1.trans (congrArg some hb2)) Tryz.underlying30 rfl (by kernel_rfl)) hd1 ⟨?_, hB1.chg.mono fun k _ ⟨id, h, _⟩ => by cases h⟩
    obtain rfl : L = [] := List.eq_nil_of_length_eq_zero h0
    rw [At.slot hA1 (t := 3) rfl]
    rfl
  · refine stepP X0_ok (by kernel_rfl) pre_ev (hA0 _ (by kernel_rfl)) (DecOk.cons (decide_eq_true (show (0 : Int) < L.length by omega)) (DecOk.cons (decide_eq_false (show ¬ (L.length : Int) = 0 by omega)) (DecOk.nil _))) trivial rfl fun a1 w1 N1 u1 hd1 hA1 hB1 => ?_
    show wpS _ (restOf 60 [c0]) a1 w1
    rw [rest]
    have hs1 : Same w w1 := hB1.chg.mono fun k _ ⟨id, h, _⟩ => by cases h
    have hnew : ∀ b, (N1.esl 2).fp b → w.heap.size ≤ b := fun b hb => by
      rcases hB1.new (2, .cells 30 [.ix (.var 3), .ix (.var 4), .ix (.var 5), .ix (.var 6)] none) (by simp [GL]) with ⟨j, hj, hj2, _⟩ | h4
      · cases hj2; exact absurd hj (by decide)
      · rcases h4 b hb with h5 | ⟨id, h5, _⟩
        · exact h5
        · cases h5
    have hnew1 : ∀ b, (N1.esl 1).fp b → w.heap.size ≤ b := fun b hb => by
      rcases hB1.new (1, .cells 30 [.int .i64 0, .int .i64 0, .int .i64 0, .int .i64 0] none) (by simp [GL]) with ⟨j, hj, hj2, _⟩ | h4
      · cases hj2; exact absurd hj (by decide)
      · rcases h4 b hb with h5 | ⟨id, h5, _⟩
        · exact h5
        · cases h5
    have hne : L ≠ [] := fun e => h0 (by rw [e]; rfl)
    refine loopS (fun k a w' => ∃ (i : Nat) (N : In) (u : Nat → Value), i + 1 ≤ L.length ∧ k = L.length - i ∧ At GL N (lets ([.i i, .i ((L.length : Int) - 1), .r L] ++ bx (L.take (i + 1)))) u a w' ∧ a.defers = [] ∧ Same w w' ∧ (∀ b, (N.esl 2).fp b → w.heap.size ≤ b) ∧ ∀ b, (N.esl 1).fp b → w.heap.size ≤ b) (fun k a w' ⟨i, N, u, hi, hk, hA, hd, hs, hf, hf1⟩ => ?_) ⟨0, N1, u1, by omega, rfl, ?_, hd1, hs1, hnew, hnew1⟩
    · by_cases hlt : i + 1 < L.length
      · refine wpIn_mono (stepK X0_ok (by kernel_rfl) (by kernel_rfl) go_ev hA (DecOk.cons (decide_eq_true (show (i : Int) < (L.length : Int) - 1 by omega)) (DecOk.cons (decide_eq_false (show ¬ (i : Int) < 0 by omega)) (DecOk.nil _))) trivial rfl) fun e a' w2 ⟨he, hd', N2, u2, hA2, hB2⟩ => ?_
        obtain rfl : e = .normal := he
        rw [newR_lets rfl, step_box hlt hL] at hA2
        have hc : Same w w2 := Chg.fresh (hs.to.trans hB2.chg fun b hb ⟨id, h1, h2, h3⟩ => show w.heap.size ≤ b from hf b (by rwa [List.mem_singleton.1 h1] at h3)) fun k h => h
        have k2 := (hB2.keep 2 (by decide) (by decide)).2.2
        have k1 := (hB2.keep 1 (by decide) (by decide)).2.2
        exact ⟨L.length - (i + 1), by omega, i + 1, N2, u2, hlt, rfl, hA2, hd'.trans hd, hc, fun b hb => hf b (by rwa [k2] at hb), fun b hb => hf1 b (by rwa [k1] at hb)⟩
      · refine wpIn_mono (stepK X0_ok (by kernel_rfl) (by kernel_rfl) end_ev hA (DecOk.cons (decide_eq_false (show ¬ (i : Int) < (L.length : Int) - 1 by omega)) (DecOk.nil _)) trivial rfl) fun e a' w2 ⟨he, hd', N2, u2, hA2, hB2⟩ => ?_
        obtain rfl : e = .exit 0 := he
        show wpS _ [cAt c0 [1, 1, 1, 1]] a' w2
        refine stepP X0_ok (by kernel_rfl) z_ev hA2 (DecOk.nil _) trivial rfl fun a3 w3 N3 u3 hd3 hA3 hB3 => ?_
        obtain ⟨_, ob, hb1, hb2⟩ := hA3.mem (1, .cells 30 [.ix (.var 3), .ix (.var 4), .ix (.var 5), .ix (.var 6)] none) (by simp [GZ])
        have k1 := (hB2.keep 1 (by decide) (by decide)).2.2
        have hc : Same w w3 := Chg.fresh ((hs.trans (hB2.chg.mono fun k _ ⟨id, h, _⟩ => by cases h)).to.trans hB3.chg fun b hb ⟨id, h1, h2, h3⟩ => show w.heap.size ≤ b from hf1 b (by rw [List.mem_singleton.1 h1, k1] at h3; exact h3)) fun k h => h
        refine bodyPost_ret (results_cell2 rfl (At.slot hA3 (t := 2) (v := .ptr (some (1, 0))) rfl) (hb1.trans (congrArg some hb2)) Tryz.underlying30 rfl (by kernel_rfl)) (hd3.trans (hd'.trans hd)) ⟨?_, hc⟩
        rw [At.slot hA3 (t := 3) rfl, decide_eq_true hne]
        have : L.take (i + 1) = L := List.take_of_length_le (by omega)
        rw [newR_lets rfl, this]
        rfl
    · rw [newR_lets rfl] at hA1
      match L, hne, hL, hA1 with
      | p :: l, _, hL, hA1 =>
      have : tdenL (lets [.i 0, .i 0, .r (p :: l), .i 0, .i 0, .i 0, .i 0]) [.lit 0, .app 1 [.app 12 [.var 2], .lit 1], .var 2, e1, e1, e2, e2] = [.i ((0 : Nat) : Int), .i (((p :: l).length : Int) - 1), .r (p :: l)] ++ bx ((p :: l).take (0 + 1)) := by
        show [LD.i 0, LD.i (IntKind.i64.wrap (((p :: l).length : Int) - 1)), LD.r (p :: l), LD.i (cellAt (p :: l) 0 1), LD.i (cellAt (p :: l) 0 1), LD.i (cellAt (p :: l) 0 2), LD.i (cellAt (p :: l) 0 2)] = _
        rw [IntWalk.i64_in _ (by simp only [List.length_cons] at hL ⊢; omega), show cellAt (p :: l) 0 1 = p.getD 1 0 from cellAt_eq (L := p :: l) (i := 0) rfl 1, show cellAt (p :: l) 0 2 = p.getD 2 0 from cellAt_eq (L := p :: l) (i := 0) rfl 2]
        rfl
      rw [this] at hA1
      exact hA1
end Go.Proofs.YthjnecicagmdeaaGreat.V.AqB
