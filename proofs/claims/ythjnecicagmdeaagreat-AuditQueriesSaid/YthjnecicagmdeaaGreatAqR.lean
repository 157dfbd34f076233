/-
  What points and intervals suggest, as the document has it: alidaderef42.Queries. Condition: at most twenty of each.
-/
import Derived.Test.YthjnecicagmdeaaGreatAqQ
namespace Go.Proofs.YthjnecicagmdeaaGreat.V.AqR
open Go.Proofs.YthjnecicagmdeaaGreat Go.Proofs.YthjnecicagmdeaaGreat.V Go.RowKit Go.E2
open Go.Al hiding P3
set_option linter.unusedVariables false
set_option linter.unusedSectionVars false

noncomputable def c0 : Code := bodyOf Tryz.prog 6
def X1 : Facts → Extra := fun _ => xOf [(11, chkQ)]
theorem X1_ok (F : Facts) (_ : F.say = fun _ => True) : @ExtraOk _ F Tryz.prog (X1 F) := by
  letI := F
  exact xOf_ok fun x hx => by
    rw [List.mem_singleton.1 hx]
    exact chkQ_ok checkRf_any
def box : SO := .cells 30 [.ix (.var 3), .ix (.var 4), .ix (.var 5), .ix (.var 6)] none
def H1 : List (Nat × SO) := [(0, .blob 101 (.var 1)), (1, .blob 103 (.var 2)), (2, box), (3, .blob 106 (.var 7))]
def G0 : Frm := ⟨[(0, .blob 101 (.var 1)), (1, .blob 103 (.var 2))], 2, [.root 0, .root 1] ++ List.replicate 138 (.tup [])⟩
def G1 : Frm := ⟨H1, 4, [.root 0, .root 1, .any 2, .any 3, .slice none 0 (.lit 0), .root 3, .ptr (some (2, 0)), .ix (.var 0)] ++ (List.range 132).map (fun i => .any (i + 8))⟩
def G2 : Frm := ⟨H1, 4, [.root 0, .root 1, .any 2, .any 3, .slice none 0 (.lit 0), .root 3, .ptr (some (2, 0)), .any 7, .any 8, .any 9, .any 10, .any 11, .ix (.var 0)] ++ (List.range 127).map (fun i => .any (i + 13))⟩
def G3 : Frm := ⟨[(3, .blob 106 (.var 7)), (4, .blob 106 (.var 8))], 5, [.any 0, .any 1, .any 2, .any 3, .slice none 0 (.lit 0), .root 3, .any 6, .any 7, .any 8, .any 9, .any 10, .any 11, .any 12, .any 13, .any 14, .root 4, .ix (.var 0)] ++ (List.range 123).map (fun i => .any (i + 17))⟩
def GZ : Frm := ⟨[(4, .blob 106 (.var 8))], 5, [.any 0, .any 1, .any 2, .any 3, .root 4] ++ (List.range 135).map (fun i => .any (i + 5))⟩
noncomputable def b1 : Code := cAt c0 [1, 1, 0, 1, 1, 1]
noncomputable def z1 : Code := cAt c0 [1, 1, 1]
noncomputable def b2 : Code := cAt z1 [0, 1, 1, 1]
noncomputable def z2 : Code := cAt z1 [1]
noncomputable def b3 : Code := cAt z2 [1, 1, 0, 1, 1, 1]
noncomputable def z3 : Code := cAt z2 [1, 1, 1]
theorem rest1 : restOf 30 [c0] = [.block 0 (.loop b1), z1] := by kernel_rfl
theorem rest2 : restOf 30 [z1] = [.block 2 (.loop b2), z2] := by kernel_rfl
theorem rest3 : restOf 30 [z2] = [.block 4 (.loop b3), z3] := by kernel_rfl
def ids : List Tm := [.var 0, .var 1, .var 2, .var 3, .var 4, .var 5, .var 6, .var 7, .var 8]
theorem pre_ev : chkP (fun _ => True) Tryz.prog X1 200 20 30 [c0] G0 (.leaf 0 G1 [.lit 0, .var 1, .var 2, .lit 0, .lit 0, .lit 0, .lit 0, .app 13 [], .var 8] [.nm 0, .nm 1, .nm 4, .nm 3] 2 []) [] = true := by kernel_rfl
def cx : Tm := .app 17 [.var 1, .var 0, .lit 1]
def cy : Tm := .app 17 [.var 1, .var 0, .lit 2]
def z0 : Tm := .lit 0
def out1 : Tm := .app 14 [.app 14 [.app 14 [.app 14 [.var 7, .lit 1, cx, cx, cy, cy, z0, z0, z0, z0, z0], .lit 2, cx, cx, cy, cy, z0, z0, z0, z0, z0], .lit 3, z0, z0, z0, z0, cx, cx, cy, z0, z0], .lit 4, z0, z0, z0, z0, cx, cx, cy, z0, z0]
def ts1 (p q s t : Bool) : List Tm := [.app 0 [.var 0, .lit 1], .var 1, .var 2, cond p cx (.var 3), cond q cx (.var 4), cond s cy (.var 5), cond t cy (.var 6), out1, .var 8]
def lf (p q s t : Bool) : KT := .leaf 0 G1 (ts1 p q s t) [.nm 0, .nm 1, .nm 2, .nm 7] 3 [2, 3]
def t1 : Tm := .app 3 [cx, .var 3]
def t2 : Tm := .app 3 [.var 4, cx]
def t3 : Tm := .app 3 [cy, .var 5]
def t4 : Tm := .app 3 [.var 6, cy]
def f4 (p q s : Bool) : KT := .fork t4 (lf p q s true) (lf p q s false)
def f3 (p q : Bool) : KT := .fork t3 (f4 p q true) (f4 p q false)
def f2 (p : Bool) : KT := .fork t2 (f3 p true) (f3 p false)
def tree : KT := .fork t1 (f2 true) (f2 false)
theorem pick_tree (r : Nat → LD) : tree.pick r = some (0, G1, ts1 (Th.toB (t1.den r)) (Th.toB (t2.den r)) (Th.toB (t3.den r)) (Th.toB (t4.den r)), [.nm 0, .nm 1, .nm 2, .nm 7], 3, [2, 3]) := by
  simp only [tree, f2, f3, f4, lf, KT.pick]
  cases Th.toB (t1.den r) <;> cases Th.toB (t2.den r) <;> cases Th.toB (t3.den r) <;> cases Th.toB (t4.den r) <;> rfl
def k1 : List (Tm × Bool) := [(.app 3 [.var 0, .app 12 [.var 1]], true), (.app 3 [.var 0, .lit 0], false), (.app 3 [.lit 1000, .app 12 [.var 7]], false)]
theorem go1_ev : chkK (fun _ => True) Tryz.prog X1 200 20 b1 G1 tree ((.app 4 [.var 0, .lit 0], false) :: k1) = true := by kernel_rfl
theorem go0_ev : chkK (fun _ => True) Tryz.prog X1 200 20 b1 G1 (lf true true true true) ((.app 4 [.var 0, .lit 0], true) :: k1) = true := by kernel_rfl
theorem end1_ev : chkK (fun _ => True) Tryz.prog X1 200 20 b1 G1 (.leaf 2 G1 ids [] 4 []) [(.app 3 [.var 0, .app 12 [.var 1]], false)] = true := by kernel_rfl
theorem mid1_ev : chkP (fun _ => True) Tryz.prog X1 200 20 30 [z1] G1 (.leaf 0 G2 [.lit 0, .var 1, .var 2, .var 3, .var 4, .var 5, .var 6, .var 7, .var 8] [] 4 []) [] = true := by kernel_rfl
def sx : Tm := .app 17 [.var 2, .var 0, .lit 1]
def sy : Tm := .app 17 [.var 2, .var 0, .lit 2]
def out2 : Tm := .app 14 [.app 14 [.app 14 [.app 14 [.var 7, .lit 5, z0, z0, z0, z0, z0, z0, z0, sx, z0], .lit 5, z0, z0, z0, z0, z0, z0, z0, sy, z0], .lit 6, z0, z0, z0, z0, z0, z0, z0, sx, sy], .lit 7, z0, z0, z0, z0, z0, z0, z0, sx, sy]
def ts2 : List Tm := [.app 0 [.var 0, .lit 1], .var 1, .var 2, .var 3, .var 4, .var 5, .var 6, out2, .var 8]
def k2 : List (Tm × Bool) := [(.app 3 [.var 0, .app 12 [.var 2]], true), (.app 3 [.var 0, .lit 0], false), (.app 3 [.lit 1000, .app 12 [.var 7]], false)]
theorem go2_ev : chkK (fun _ => True) Tryz.prog X1 200 20 b2 G2 (.leaf 0 G2 ts2 [.nm 0, .nm 1, .nm 2, .nm 5] 3 [3]) k2 = true := by kernel_rfl
theorem end2_ev : chkK (fun _ => True) Tryz.prog X1 200 20 b2 G2 (.leaf 4 G2 ids [] 4 []) [(.app 3 [.var 0, .app 12 [.var 2]], false)] = true := by kernel_rfl
def outB : Tm := .app 14 [.var 7, .lit 2, .var 3, .var 4, .var 5, .var 6, z0, z0, z0, z0, z0]
def big7 : List (Tm × Bool) := [(.app 3 [.lit 1000, .app 12 [.var 7]], false)]
theorem mid2_ev : chkP (fun _ => True) Tryz.prog X1 200 20 30 [z2] G2 (.leaf 0 G3 [.lit 0, .var 1, .var 2, .var 3, .var 4, .var 5, .var 6, outB, .app 13 []] [.nm 0, .nm 1, .nm 2, .nm 5, .nm 7] 3 [3]) ((.app 3 [.lit 0, .app 12 [.var 1]], true) :: big7) = true := by kernel_rfl
theorem mid0_ev : chkP (fun _ => True) Tryz.prog X1 200 20 30 [z2] G2 (.leaf 0 G3 [.lit 0, .var 1, .var 2, .var 3, .var 4, .var 5, .var 6, .var 7, .app 13 []] [.nm 0, .nm 1, .nm 2, .nm 3, .nm 5] 4 []) ((.app 3 [.lit 0, .app 12 [.var 1]], false) :: big7) = true := by kernel_rfl
def ts3 : List Tm := [.app 0 [.var 0, .lit 1], .var 1, .var 2, .var 3, .var 4, .var 5, .var 6, .var 7, .app 14 (.var 8 :: rowT (.var 7) (.var 0))]
def ts3n : List Tm := [.app 0 [.var 0, .lit 1], .var 1, .var 2, .var 3, .var 4, .var 5, .var 6, .var 7, .var 8]
def k3 : List (Tm × Bool) := [(.app 3 [.var 0, .app 12 [.var 7]], true), (.app 3 [.var 0, .lit 0], false), (.app 3 [.lit 1000, .app 12 [.var 8]], false)]
theorem go3_ev : chkK (fun _ => True) Tryz.prog X1 200 20 b3 G3 (.fork (okT (.var 7) (.var 0)) (.leaf 0 G3 ts3 [.nm 0, .nm 1, .nm 2, .nm 3, .nm 6] 4 [4]) (.leaf 0 G3 ts3n [] 5 [])) k3 = true := by kernel_rfl
theorem end3_ev : chkK (fun _ => True) Tryz.prog X1 200 20 b3 G3 (.leaf 6 G3 ids [] 5 []) [(.app 3 [.var 0, .app 12 [.var 7]], false)] = true := by kernel_rfl
theorem z_ev : chkP (fun _ => True) Tryz.prog X1 200 20 30 [z3] G3 (.leaf 1 GZ ids [] 5 []) [] = true := by kernel_rfl
theorem restz : restOf 30 [z3] = [] := by kernel_rfl
/-! plain words of the three loops -/
def st (i : Int) (P S box l o : List (List Int)) : List LD := [.i i, .r P, .r S] ++ AqB.bx box ++ [.r l, .r o]
theorem sm {G F : Frm} {N N2 : In} {rn : List Src} {m : Nat} {w w' : World} (h : Beh G F N rn m [] N2 w w') : Same w w' := h.chg.mono fun k _ ⟨id, h, _⟩ => by cases h
theorem minC (x m : Int) (r : Nat → LD) {c v : Tm} (hc : c.den r = .i x) (hv : v.den r = .i m) : (cond (decide (x < m)) c v).den r = .i (min m x) := by
  by_cases h : x < m
  · rw [decide_eq_true h, cond_true, hc, Int.min_eq_right (by omega)]
  · rw [decide_eq_false h, cond_false, hv, Int.min_eq_left (by omega)]
theorem maxC (x m : Int) (r : Nat → LD) {c v : Tm} (hc : c.den r = .i x) (hv : v.den r = .i m) : (cond (decide (m < x)) c v).den r = .i (max m x) := by
  by_cases h : m < x
  · rw [decide_eq_true h, cond_true, hc, Int.max_eq_right (by omega)]
  · rw [decide_eq_false h, cond_false, hv, Int.max_eq_left (by omega)]
theorem out1_den {P S bxs l o : List (List Int)} {i : Nat} (hi : i < P.length) : out1.den (lets (st i P S bxs l o)) = .r (l ++ sugP P[i]) := by
  have hp : P[i]? = some P[i] := List.getElem?_eq_getElem hi
  show LD.r ((((l ++ [[1, cellAt P i 1, cellAt P i 1, cellAt P i 2, cellAt P i 2, 0, 0, 0, 0, 0]]) ++ [[2, cellAt P i 1, cellAt P i 1, cellAt P i 2, cellAt P i 2, 0, 0, 0, 0, 0]]) ++ [[3, 0, 0, 0, 0, cellAt P i 1, cellAt P i 1, cellAt P i 2, 0, 0]]) ++ [[4, 0, 0, 0, 0, cellAt P i 1, cellAt P i 1, cellAt P i 2, 0, 0]]) = _
  rw [show cellAt P i 1 = P[i].getD 1 0 from cellAt_eq hp 1, show cellAt P i 2 = P[i].getD 2 0 from cellAt_eq hp 2]
  simp [sugP]
theorem out2_den {P S bxs l o : List (List Int)} {i : Nat} (hi : i < S.length) : out2.den (lets (st i P S bxs l o)) = .r (l ++ sugS S[i]) := by
  have hp : S[i]? = some S[i] := List.getElem?_eq_getElem hi
  show LD.r ((((l ++ [[5, 0, 0, 0, 0, 0, 0, 0, cellAt S i 1, 0]]) ++ [[5, 0, 0, 0, 0, 0, 0, 0, cellAt S i 2, 0]]) ++ [[6, 0, 0, 0, 0, 0, 0, 0, cellAt S i 1, cellAt S i 2]]) ++ [[7, 0, 0, 0, 0, 0, 0, 0, cellAt S i 1, cellAt S i 2]]) = _
  rw [show cellAt S i 1 = S[i].getD 1 0 from cellAt_eq hp 1, show cellAt S i 2 = S[i].getD 2 0 from cellAt_eq hp 2]
  simp [sugS]
theorem up1 {i : Nat} (hi : i ≤ 1000) {P S bxs l o : List (List Int)} : (Tm.app 0 [.var 0, .lit 1]).den (lets (st i P S bxs l o)) = .i ((i + 1 : Nat) : Int) := by
  show LD.i (IntKind.i64.wrap ((i : Int) + 1)) = _
  rw [IntWalk.i64_in _ (by omega)]
  rfl
theorem cx_den {P S bxs l o : List (List Int)} {i : Nat} (hi : i < P.length) : cx.den (lets (st i P S bxs l o)) = .i (P[i].getD 1 0) := congrArg LD.i (show cellAt P i 1 = _ from cellAt_eq (List.getElem?_eq_getElem hi) 1)
theorem cy_den {P S bxs l o : List (List Int)} {i : Nat} (hi : i < P.length) : cy.den (lets (st i P S bxs l o)) = .i (P[i].getD 2 0) := congrArg LD.i (show cellAt P i 2 = _ from cellAt_eq (List.getElem?_eq_getElem hi) 2)
/-- a round of the first loop -/
theorem step1 {P S o : List (List Int)} {i : Nat} (hi : i < P.length) (h0 : 0 < i) (hP : P.length ≤ 20) (l : List (List Int)) :
    tdenL (lets (st i P S (P.take i) l o)) (ts1 (Th.toB (t1.den (lets (st i P S (P.take i) l o)))) (Th.toB (t2.den (lets (st i P S (P.take i) l o)))) (Th.toB (t3.den (lets (st i P S (P.take i) l o)))) (Th.toB (t4.den (lets (st i P S (P.take i) l o))))) = st ((i + 1 : Nat) : Int) P S (P.take (i + 1)) (l ++ sugP P[i]) o := by
  have hne : P.take i ≠ [] := fun h => by
    have := congrArg List.length h
    rw [List.length_take] at this
    simp only [List.length_nil] at this
    omega
  have d1 : Th.toB (t1.den (lets (st i P S (P.take i) l o))) = decide (P[i].getD 1 0 < ext min 1 (P.take i)) := by
    show decide ((cx.den (lets (st i P S (P.take i) l o))).toI < _) = _
    rw [cx_den hi]; rfl
  have d2 : Th.toB (t2.den (lets (st i P S (P.take i) l o))) = decide (ext max 1 (P.take i) < P[i].getD 1 0) := by
    show decide (_ < (cx.den (lets (st i P S (P.take i) l o))).toI) = _
    rw [cx_den hi]; rfl
  have d3 : Th.toB (t3.den (lets (st i P S (P.take i) l o))) = decide (P[i].getD 2 0 < ext min 2 (P.take i)) := by
    show decide ((cy.den (lets (st i P S (P.take i) l o))).toI < _) = _
    rw [cy_den hi]; rfl
  have d4 : Th.toB (t4.den (lets (st i P S (P.take i) l o))) = decide (ext max 2 (P.take i) < P[i].getD 2 0) := by
    show decide (_ < (cy.den (lets (st i P S (P.take i) l o))).toI) = _
    rw [cy_den hi]; rfl
  rw [d1, d2, d3, d4]
  simp only [ts1, tdenL]
  rw [up1 (by omega), out1_den hi, minC (P[i].getD 1 0) (ext min 1 (P.take i)) _ (cx_den hi) rfl, maxC (P[i].getD 1 0) (ext max 1 (P.take i)) _ (cx_den hi) rfl, minC (P[i].getD 2 0) (ext min 2 (P.take i)) _ (cy_den hi) rfl, maxC (P[i].getD 2 0) (ext max 2 (P.take i)) _ (cy_den hi) rfl]
  unfold st AqB.bx
  rw [← List.take_append_getElem hi, ext_snoc _ _ hne, ext_snoc _ _ hne, ext_snoc _ _ hne, ext_snoc _ _ hne]
  rfl
theorem step0 {P S o : List (List Int)} (hi : 0 < P.length) (hP : P.length ≤ 20) (l : List (List Int)) :
    tdenL (lets (st ((0 : Nat) : Int) P S (P.take 0) l o)) (ts1 true true true true) = st ((0 + 1 : Nat) : Int) P S (P.take (0 + 1)) (l ++ sugP P[0]) o := by
  simp only [ts1, tdenL, cond_true]
  rw [up1 (by omega), out1_den hi, cx_den hi, cy_den hi]
  match P, hi with
  | p :: P, _ => rfl
theorem step2 {P S o bxs : List (List Int)} {i : Nat} (hi : i < S.length) (hS : S.length ≤ 20) (l : List (List Int)) :
    tdenL (lets (st i P S bxs l o)) ts2 = st ((i + 1 : Nat) : Int) P S bxs (l ++ sugS S[i]) o := by
  simp only [ts2, tdenL]
  rw [up1 (by omega), out2_den hi]
  rfl
/-! the three phases, from the last -/
def TQ (L : List (List Int)) (w : World) : Ending → World → Prop := Turns (fun v fp' w' => RowAt 34 10 true v L fp' w') (fun _ => False) w
theorem chg_new {w w1 w2 : World} {G F : Frm} {N N2 : In} {rn : List Src} {m : Nat} {W : List Nat} (hs : Same w w1) (hB : Beh G F N rn m W N2 w1 w2) (hf : ∀ k ∈ W, ∀ b, (N.esl k).fp b → w.heap.size ≤ b) : Same w w2 :=
  Chg.fresh (hs.to.trans hB.chg fun b hb ⟨id, h1, h2, h3⟩ => show w.heap.size ≤ b from hf id h1 b h3) fun k h => h
theorem new_of {w w1 w2 : World} {G F : Frm} {N N2 : In} {rn : List Src} {m : Nat} {W : List Nat} (hs : Same w w1) (hB : Beh G F N rn m W N2 w1 w2) (hf : ∀ k ∈ W, ∀ b, (N.esl k).fp b → w.heap.size ≤ b) {x : Nat × SO} (hx : x ∈ F.H) (hk : ∀ j, j < G.n → rnAt rn x.1 = .nm j → ∀ b, (N.esl j).fp b → w.heap.size ≤ b) : ∀ b, (N2.esl x.1).fp b → w.heap.size ≤ b := fun b hb => by
  rcases hB.new x hx with ⟨j, h1, h2, h3, _⟩ | h
  · rw [h3] at hb
    exact hk j h1 h2 b hb
  · rcases h b hb with h | ⟨id, h1, _, h3⟩
    · exact Nat.le_trans hs.size h
    · exact hf id h1 b h3
set_option maxRecDepth 100000 in
theorem ph3 {fn : Func} (hfn : fn.results = #[.tmp 4]) {w : World} {P S bxs L : List (List Int)} (hL : L.length ≤ 900) {N : In} {u : Nat → Value} {a : Act} {w' : World} (hA : At G3 N (lets (st ((0 : Nat) : Int) P S bxs L [])) u a w') (hd : a.defers = []) (hs : Same w w') (h4 : ∀ b, (N.esl 4).fp b → w.heap.size ≤ b) :
    wpS (bodyPost Tryz.prog fn (TQ (L.filter okQ) w)) [.block 4 (.loop b3), z3] a w' := by
  refine loopS (fun k a w' => ∃ (i : Nat) (N : In) (u : Nat → Value), i ≤ L.length ∧ k = L.length - i ∧ At G3 N (lets (st i P S bxs L ((L.take i).filter okQ))) u a w' ∧ a.defers = [] ∧ Same w w' ∧ ∀ b, (N.esl 4).fp b → w.heap.size ≤ b) (fun k a w' ⟨i, N, u, hi, hk, hA, hd, hs, hf⟩ => ?_) ⟨0, N, u, Nat.zero_le _, rfl, hA, hd, hs, h4⟩
  have hrow : RowAt 34 10 true ((N.esl 3).rt.1) L (N.esl 3).fp w' := hA.mem (3, .blob 106 (.var 7)) (by simp [G3])
  have hfl : ((L.take i).filter okQ).length ≤ 900 := by
    have := List.length_filter_le okQ (L.take i)
    rw [List.length_take] at this
    omega
  by_cases hlt : i < L.length
  · have hp : L[i]? = some L[i] := List.getElem?_eq_getElem hlt
    have h10 := hrow.len _ (List.getElem_mem hlt)
    have hok : (okT (.var 7) (.var 0)).den (lets (st i P S bxs L ((L.take i).filter okQ))) = .b (okQ L[i]) := okT_den rfl rfl hp h10
    have hdec : DecOk k3 (lets (st i P S bxs L ((L.take i).filter okQ))) := DecOk.cons (decide_eq_true (show (i : Int) < L.length by omega)) (DecOk.cons (decide_eq_false (show ¬ (i : Int) < 0 by omega)) (DecOk.cons (decide_eq_false (show ¬ (1000 : Int) < (((L.take i).filter okQ).length : Nat) by omega)) (DecOk.nil _)))
    have htk : L.take (i + 1) = L.take i ++ [L[i]] := (List.take_append_getElem hlt).symm
    cases hb : okQ L[i]
    · rw [hb] at hok
      refine wpIn_mono (stepK (k := 0) (F := G3) (ts := ts3n) (rn := []) (m := 5) (W := []) X1_ok (by kernel_rfl) (by kernel_rfl) go3_ev hA hdec trivial (by simp only [KT.pick, hok]; rfl)) fun e a' w2 ⟨he, hd', N2, u2, hA2, hB2⟩ => ?_
      obtain rfl : e = .normal := he
      have e1 : tdenL (lets (st i P S bxs L ((L.take i).filter okQ))) ts3n = st ((i + 1 : Nat) : Int) P S bxs L ((L.take (i + 1)).filter okQ) := by
        simp only [ts3n, tdenL]
        rw [up1 (by omega), htk, List.filter_append]
        simp only [List.filter_cons, hb, List.filter_nil, Bool.false_eq_true, if_false, List.append_nil]
        rfl
      rw [newR_lets rfl, e1] at hA2
      have k2 := (hB2.keep 4 (by decide) (by decide)).2.2
      exact ⟨L.length - (i + 1), by omega, i + 1, N2, u2, hlt, rfl, hA2, hd'.trans hd, hs.trans (sm hB2), fun b hb => hf b (by rwa [k2] at hb)⟩
    · rw [hb] at hok
      refine wpIn_mono (stepK (k := 0) (F := G3) (ts := ts3) (rn := [.nm 0, .nm 1, .nm 2, .nm 3, .nm 6]) (m := 4) (W := [4]) X1_ok (by kernel_rfl) (by kernel_rfl) go3_ev hA hdec trivial (by simp only [KT.pick, hok]; rfl)) fun e a' w2 ⟨he, hd', N2, u2, hA2, hB2⟩ => ?_
      obtain rfl : e = .normal := he
      have e1 : tdenL (lets (st i P S bxs L ((L.take i).filter okQ))) ts3 = st ((i + 1 : Nat) : Int) P S bxs L ((L.take (i + 1)).filter okQ) := by
        have e2 : (Tm.app 14 (.var 8 :: rowT (.var 7) (.var 0))).den (lets (st i P S bxs L ((L.take i).filter okQ))) = .r ((L.take i).filter okQ ++ [L[i]]) := by
          show LD.r ((L.take i).filter okQ ++ [[cellAt L i 0, cellAt L i 1, cellAt L i 2, cellAt L i 3, cellAt L i 4, cellAt L i 5, cellAt L i 6, cellAt L i 7, cellAt L i 8, cellAt L i 9]]) = _
          rw [row_eq hp h10]
        simp only [ts3, tdenL]
        rw [up1 (by omega), e2, htk, List.filter_append]
        simp only [List.filter_cons, hb, List.filter_nil, if_true]
        rfl
      rw [newR_lets rfl, e1] at hA2
      have hw : ∀ k ∈ [4], ∀ b, (N.esl k).fp b → w.heap.size ≤ b := fun k hk b hb => by rw [List.mem_singleton.1 hk] at hb; exact hf b hb
      exact ⟨L.length - (i + 1), by omega, i + 1, N2, u2, hlt, rfl, hA2, hd'.trans hd, chg_new hs hB2 hw, new_of (x := (4, .blob 106 (.var 8))) hs hB2 hw (by simp [G3]) fun j hj hj2 => by cases hj2; exact absurd hj (by decide)⟩
  · obtain rfl : i = L.length := by omega
    refine wpIn_mono (stepK X1_ok (by kernel_rfl) (by kernel_rfl) end3_ev hA (DecOk.cons (decide_eq_false (show ¬ (L.length : Int) < L.length by omega)) (DecOk.nil _)) trivial rfl) fun e a' w2 ⟨he, hd', N2, u2, hA2, hB2⟩ => ?_
    obtain rfl : e = .exit 4 := he
    show wpS _ [z3] a' w2
    rw [show newR ids (lets (st L.length P S bxs L ((L.take L.length).filter okQ))) = lets (st L.length P S bxs L ((L.take L.length).filter okQ)) from newR_lets rfl] at hA2
    refine stepP X1_ok (by kernel_rfl) z_ev hA2 (DecOk.nil _) trivial rfl fun a3 w3 N3 u3 hd3 hA3 hB3 => ?_
    rw [show newR ids (lets (st L.length P S bxs L ((L.take L.length).filter okQ))) = lets (st L.length P S bxs L ((L.take L.length).filter okQ)) from newR_lets rfl, List.take_length] at hA3
    have k2 := (hB2.keep 4 (by decide) (by decide)).2.2
    have k3 := (hB3.keep 4 (by decide) (by decide)).2.2
    have hm : RowAt 34 10 true ((N3.esl 4).rt.1) (L.filter okQ) (N3.esl 4).fp w3 := hA3.mem (4, .blob 106 (.var 8)) (by simp [GZ])
    refine bodyPost_ret (hA3.res (t := 4) (v := .root 4) hfn rfl w3) (hd3.trans (hd'.trans hd)) ⟨_, (N3.esl 4).fp, rfl, hm, ((hs.trans (sm hB2)).trans (sm hB3)).to, fun b hb => .inl ?_⟩
    rw [k3, k2] at hb
    exact hf b hb
set_option maxRecDepth 100000 in
theorem ph2 {fn : Func} (hfn : fn.results = #[.tmp 4]) {w : World} {P S : List (List Int)} (hP : P.length ≤ 20) (hS : S.length ≤ 20) {o : List (List Int)} {N : In} {u : Nat → Value} {a : Act} {w' : World} (hA : At G2 N (lets (st ((0 : Nat) : Int) P S P (P.flatMap sugP) o)) u a w') (hd : a.defers = []) (hs : Same w w') (h3 : ∀ b, (N.esl 3).fp b → w.heap.size ≤ b) :
    wpS (bodyPost Tryz.prog fn (TQ (sugQ P S) w)) [.block 2 (.loop b2), z2] a w' := by
  have hlp := AqQ.sugP_length P
  refine loopS (fun k a w' => ∃ (i : Nat) (N : In) (u : Nat → Value), i ≤ S.length ∧ k = S.length - i ∧ At G2 N (lets (st i P S P (P.flatMap sugP ++ (S.take i).flatMap sugS) o)) u a w' ∧ a.defers = [] ∧ Same w w' ∧ ∀ b, (N.esl 3).fp b → w.heap.size ≤ b) (fun k a w' ⟨i, N, u, hi, hk, hA, hd, hs, hf⟩ => ?_) ⟨0, N, u, Nat.zero_le _, rfl, (by rw [List.take_zero, List.flatMap_nil, List.append_nil]; exact hA), hd, hs, h3⟩
  have hls := AqQ.sugS_length (S.take i)
  rw [List.length_take] at hls
  have hll : (P.flatMap sugP ++ (S.take i).flatMap sugS).length ≤ 160 := by rw [List.length_append]; omega
  have hw : ∀ k ∈ [3], ∀ b, (N.esl k).fp b → w.heap.size ≤ b := fun k hk b hb => by rw [List.mem_singleton.1 hk] at hb; exact hf b hb
  by_cases hlt : i < S.length
  · refine wpIn_mono (stepK X1_ok (by kernel_rfl) (by kernel_rfl) go2_ev hA (DecOk.cons (decide_eq_true (show (i : Int) < S.length by omega)) (DecOk.cons (decide_eq_false (show ¬ (i : Int) < 0 by omega)) (DecOk.cons (decide_eq_false (show ¬ (1000 : Int) < ((P.flatMap sugP ++ (S.take i).flatMap sugS).length : Nat) by omega)) (DecOk.nil _)))) trivial rfl) fun e a' w2 ⟨he, hd', N2, u2, hA2, hB2⟩ => ?_
    obtain rfl : e = .normal := he
    rw [newR_lets rfl, step2 hlt hS] at hA2
    have e1 : P.flatMap sugP ++ (S.take i).flatMap sugS ++ sugS S[i] = P.flatMap sugP ++ (S.take (i + 1)).flatMap sugS := by
      rw [← List.take_append_getElem hlt, List.flatMap_append, List.append_assoc]
      simp
    rw [e1] at hA2
    exact ⟨S.length - (i + 1), by omega, i + 1, N2, u2, hlt, rfl, hA2, hd'.trans hd, chg_new hs hB2 hw, new_of (x := (3, .blob 106 (.var 7))) hs hB2 hw (by simp [G2, H1]) fun j hj hj2 => by cases hj2; exact absurd hj (by decide)⟩
  · obtain rfl : i = S.length := by omega
    rw [List.take_length] at hA hll
    refine wpIn_mono (stepK X1_ok (by kernel_rfl) (by kernel_rfl) end2_ev hA (DecOk.cons (decide_eq_false (show ¬ (S.length : Int) < S.length by omega)) (DecOk.nil _)) trivial rfl) fun e a' w2 ⟨he, hd', N2, u2, hA2, hB2⟩ => ?_
    obtain rfl : e = .exit 2 := he
    show wpS _ [z2] a' w2
    rw [show newR ids (lets (st S.length P S P (P.flatMap sugP ++ S.flatMap sugS) o)) = lets (st S.length P S P (P.flatMap sugP ++ S.flatMap sugS) o) from newR_lets rfl] at hA2
    have k2 := (hB2.keep 3 (by decide) (by decide)).2.2
    have hw2 : ∀ k ∈ [3], ∀ b, (N2.esl k).fp b → w.heap.size ≤ b := fun k hk b hb => by rw [List.mem_singleton.1 hk, k2] at hb; exact hf b hb
    have hs2 := hs.trans (sm hB2)
    have hbig : ¬ (1000 : Int) < ((P.flatMap sugP ++ S.flatMap sugS).length : Nat) := by omega
    cases P with
    | nil =>
      refine stepP X1_ok (by kernel_rfl) mid0_ev hA2 (DecOk.cons (decide_eq_false (show ¬ (0 : Int) < (([] : List (List Int)).length : Nat) by decide)) (DecOk.cons (decide_eq_false hbig) (DecOk.nil _))) trivial rfl fun a3 w3 N3 u3 hd3 hA3 hB3 => ?_
      show wpS _ (restOf 30 [z2]) a3 w3
      rw [rest3]
      have e1 : newR [.lit 0, .var 1, .var 2, .var 3, .var 4, .var 5, .var 6, .var 7, .app 13 []] (lets (st S.length [] S [] (([] : List (List Int)).flatMap sugP ++ S.flatMap sugS) o)) = lets (st ((0 : Nat) : Int) [] S [] (([] : List (List Int)).flatMap sugP ++ S.flatMap sugS) []) := newR_lets rfl
      rw [e1] at hA3
      have := ph3 hfn (w := w) (by omega) hA3 (hd3.trans (hd'.trans hd)) (hs2.trans (sm hB3)) (new_of (x := (4, .blob 106 (.var 8))) hs2 hB3 (fun k hk => by cases hk) (by simp [G3]) fun j hj hj2 => by cases hj2; exact absurd hj (by decide))
      simpa [sugQ, allQ] using this
    | cons p P =>
      refine stepP X1_ok (by kernel_rfl) mid2_ev hA2 (DecOk.cons (decide_eq_true (show (0 : Int) < ((p :: P).length : Nat) by rw [List.length_cons]; omega)) (DecOk.cons (decide_eq_false hbig) (DecOk.nil _))) trivial rfl fun a3 w3 N3 u3 hd3 hA3 hB3 => ?_
      show wpS _ (restOf 30 [z2]) a3 w3
      rw [rest3]
      have e1 : newR [.lit 0, .var 1, .var 2, .var 3, .var 4, .var 5, .var 6, outB, .app 13 []] (lets (st S.length (p :: P) S (p :: P) ((p :: P).flatMap sugP ++ S.flatMap sugS) o)) = lets (st ((0 : Nat) : Int) (p :: P) S (p :: P) (((p :: P).flatMap sugP ++ S.flatMap sugS) ++ [boxQ (p :: P)]) []) := newR_lets rfl
      rw [e1] at hA3
      have := ph3 hfn (w := w) (by rw [List.length_append, List.length_singleton]; omega) hA3 (hd3.trans (hd'.trans hd)) (chg_new hs2 hB3 hw2) (new_of (x := (4, .blob 106 (.var 8))) hs2 hB3 hw2 (by simp [G3]) fun j hj hj2 => by cases hj2; exact absurd hj (by decide))
      have e2 : (((p :: P).flatMap sugP ++ S.flatMap sugS) ++ [boxQ (p :: P)]).filter okQ = sugQ (p :: P) S := by simp [sugQ, allQ]
      rw [e2] at this
      exact this
theorem take_flat {P : List (List Int)} {i : Nat} (h : i < P.length) : (P.take i).flatMap sugP ++ sugP P[i] = (P.take (i + 1)).flatMap sugP := by
  rw [← List.take_append_getElem h, List.flatMap_append]
  simp
set_option maxRecDepth 100000 in
theorem ph1 {fn : Func} (hfn : fn.results = #[.tmp 4]) {w : World} {P S : List (List Int)} (hP : P.length ≤ 20) (hS : S.length ≤ 20) {o : List (List Int)} {N : In} {u : Nat → Value} {a : Act} {w' : World} (hA : At G1 N (lets (st ((0 : Nat) : Int) P S [] [] o)) u a w') (hd : a.defers = []) (hs : Same w w') (h2 : ∀ b, (N.esl 2).fp b → w.heap.size ≤ b) (h3 : ∀ b, (N.esl 3).fp b → w.heap.size ≤ b) :
    wpS (bodyPost Tryz.prog fn (TQ (sugQ P S) w)) [.block 0 (.loop b1), z1] a w' := by
  refine loopS (fun k a w' => ∃ (i : Nat) (N : In) (u : Nat → Value), i ≤ P.length ∧ k = P.length - i ∧ At G1 N (lets (st i P S (P.take i) ((P.take i).flatMap sugP) o)) u a w' ∧ a.defers = [] ∧ Same w w' ∧ (∀ b, (N.esl 2).fp b → w.heap.size ≤ b) ∧ ∀ b, (N.esl 3).fp b → w.heap.size ≤ b) (fun k a w' ⟨i, N, u, hi, hk, hA, hd, hs, hf2, hf3⟩ => ?_) ⟨0, N, u, Nat.zero_le _, rfl, hA, hd, hs, h2, h3⟩
  have hlp := AqQ.sugP_length (P.take i)
  rw [List.length_take] at hlp
  have hw : ∀ k ∈ [2, 3], ∀ b, (N.esl k).fp b → w.heap.size ≤ b := fun k hk b hb => by
    simp only [List.mem_cons, List.not_mem_nil, or_false] at hk
    rcases hk with rfl | rfl
    · exact hf2 b hb
    · exact hf3 b hb
  by_cases hlt : i < P.length
  · have hk1 : DecOk k1 (lets (st i P S (P.take i) ((P.take i).flatMap sugP) o)) := DecOk.cons (decide_eq_true (show (i : Int) < P.length by omega)) (DecOk.cons (decide_eq_false (show ¬ (i : Int) < 0 by omega)) (DecOk.cons (decide_eq_false (show ¬ (1000 : Int) < (((P.take i).flatMap sugP).length : Nat) by omega)) (DecOk.nil _)))
    by_cases h0 : i = 0
    · subst h0
      refine wpIn_mono (stepK X1_ok (by kernel_rfl) (by kernel_rfl) go0_ev hA (DecOk.cons (decide_eq_true (show ((0 : Nat) : Int) = 0 from rfl)) hk1) trivial rfl) fun e a' w2 ⟨he, hd', N2, u2, hA2, hB2⟩ => ?_
      obtain rfl : e = .normal := he
      rw [newR_lets rfl, step0 hlt hP, take_flat hlt] at hA2
      have k2 := (hB2.keep 2 (by decide) (by decide)).2.2
      exact ⟨P.length - (0 + 1), by omega, 0 + 1, N2, u2, hlt, rfl, hA2, hd'.trans hd, chg_new hs hB2 hw, fun b hb => hf2 b (by rwa [k2] at hb), new_of (x := (3, .blob 106 (.var 7))) hs hB2 hw (by simp [G1, H1]) fun j hj hj2 => by cases hj2; exact absurd hj (by decide)⟩
    · refine wpIn_mono (stepK X1_ok (by kernel_rfl) (by kernel_rfl) go1_ev hA (DecOk.cons (decide_eq_false (show ¬ (i : Int) = 0 by omega)) hk1) trivial (pick_tree _)) fun e a' w2 ⟨he, hd', N2, u2, hA2, hB2⟩ => ?_
      obtain rfl : e = .normal := he
      rw [newR_lets rfl, step1 hlt (by omega) hP, take_flat hlt] at hA2
      have k2 := (hB2.keep 2 (by decide) (by decide)).2.2
      exact ⟨P.length - (i + 1), by omega, i + 1, N2, u2, hlt, rfl, hA2, hd'.trans hd, chg_new hs hB2 hw, fun b hb => hf2 b (by rwa [k2] at hb), new_of (x := (3, .blob 106 (.var 7))) hs hB2 hw (by simp [G1, H1]) fun j hj hj2 => by cases hj2; exact absurd hj (by decide)⟩
  · obtain rfl : i = P.length := by omega
    rw [List.take_length] at hA
    refine wpIn_mono (stepK X1_ok (by kernel_rfl) (by kernel_rfl) end1_ev hA (DecOk.cons (decide_eq_false (show ¬ (P.length : Int) < P.length by omega)) (DecOk.nil _)) trivial rfl) fun e a' w2 ⟨he, hd', N2, u2, hA2, hB2⟩ => ?_
    obtain rfl : e = .exit 0 := he
    show wpS _ [z1] a' w2
    rw [show newR ids (lets (st P.length P S P (P.flatMap sugP) o)) = lets (st P.length P S P (P.flatMap sugP) o) from newR_lets rfl] at hA2
    refine stepP X1_ok (by kernel_rfl) mid1_ev hA2 (DecOk.nil _) trivial rfl fun a3 w3 N3 u3 hd3 hA3 hB3 => ?_
    show wpS _ (restOf 30 [z1]) a3 w3
    rw [rest2]
    have e1 : newR [.lit 0, .var 1, .var 2, .var 3, .var 4, .var 5, .var 6, .var 7, .var 8] (lets (st P.length P S P (P.flatMap sugP) o)) = lets (st ((0 : Nat) : Int) P S P (P.flatMap sugP) o) := newR_lets rfl
    rw [e1] at hA3
    have k2 := (hB2.keep 3 (by decide) (by decide)).2.2
    have k3 := (hB3.keep 3 (by decide) (by decide)).2.2
    exact ph2 hfn hP hS hA3 (hd3.trans (hd'.trans hd)) ((hs.trans (sm hB2)).trans (sm hB3)) fun b hb => hf3 b (by rwa [k3, k2] at hb)
def nm (fp fs : Nat → Prop) (r s : { v : Value // v.oneCell' = true }) : In := ⟨fun i => 0, fun _ => 0, fun i => [⟨(none, 0), fp, r⟩, ⟨(none, 0), fs, s⟩].getD i (EX.lit (none, 0)), vlu (fun _ => LD.i 0) (fun _ => undef)⟩
set_option maxRecDepth 100000 in
theorem refq_any {o1 o2 : Bool} {P S : List (List Int)} {r s : Value} {fp fs : Nat → Prop} {w : World} (hr : RowAt 40 3 o1 r P fp w) (hs : RowAt 42 3 o2 s S fs w) (hd : ∀ b, fp b → ¬ fs b) (hP : P.length ≤ 20) (hS : S.length ≤ 20) :
    Calls Tryz.prog 6 #[r, s] w (Turns (fun v fp' w' => RowAt 34 10 true v (sugQ P S) fp' w') (fun _ => False) w) := by
  have hr := hr.ro
  have hs := hs.ro
  refine calls_of_code Tryz.func6 (c := c0) (by kernel_rfl) (wpS_one ?_)
  have hA0 : ∀ a : Act, a.tmps = #[r, s] ++ Array.replicate 138 undef → At G0 (nm fp fs ⟨r, hr.one⟩ ⟨s, hs.one⟩) (lets [.i 0, .r P, .r S, .i 0, .i 0, .i 0, .i 0, .r [], .r []]) (fun _ => undef) a w := fun a ha => ⟨ha.trans (by kernel_rfl), fun x hx => by
    simp only [G0, List.mem_cons, List.not_mem_nil, or_false] at hx
    rcases hx with rfl | rfl
    · exact hr
    · exact hs, List.pairwise_cons.2 ⟨fun y hy => by rw [List.mem_singleton.1 hy]; exact ⟨by decide, hd⟩, List.pairwise_singleton _ _⟩, vws_none (by kernel_rfl)⟩
  refine stepP X1_ok (by kernel_rfl) pre_ev (hA0 _ (by kernel_rfl)) (DecOk.nil _) trivial rfl fun a1 w1 N1 u1 hd1 hA1 hB1 => ?_
  show wpS _ (restOf 30 [c0]) a1 w1
  rw [rest1]
  have e1 : newR [.lit 0, .var 1, .var 2, .lit 0, .lit 0, .lit 0, .lit 0, .app 13 [], .var 8] (lets [.i 0, .r P, .r S, .i 0, .i 0, .i 0, .i 0, .r [], .r []]) = lets (st ((0 : Nat) : Int) P S [] [] []) := newR_lets rfl
  rw [e1] at hA1
  exact ph1 rfl hP hS hA1 hd1 (sm hB1) (new_of (x := (2, box)) (Chg.refl _ w) hB1 (fun k hk => by cases hk) (by simp [G1, H1]) fun j hj hj2 => by cases hj2; exact absurd hj (by decide)) (new_of (x := (3, .blob 106 (.var 7))) (Chg.refl _ w) hB1 (fun k hk => by cases hk) (by simp [G1, H1]) fun j hj hj2 => by cases hj2; exact absurd hj (by decide))
end Go.Proofs.YthjnecicagmdeaaGreat.V.AqR
