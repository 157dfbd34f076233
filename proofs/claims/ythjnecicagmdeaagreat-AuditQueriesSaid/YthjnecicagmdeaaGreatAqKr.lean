/-
  How many queries are of each kind: alidade/alidaderef42.Kinds. Condition: at most a thousand, kinds from 1 to 7.
-/
import Derived.Test.YthjnecicagmdeaaGreatAqR
namespace Go.Proofs.YthjnecicagmdeaaGreat.V.AqKr
open Go.Proofs.YthjnecicagmdeaaGreat Go.Proofs.YthjnecicagmdeaaGreat.V Go.RowKit Go.E2
open Go.Al hiding P3
set_option linter.unusedVariables false
set_option linter.unusedSectionVars false

noncomputable def c0 : Code := bodyOf Tryz.prog 8
noncomputable def bd : Code := cAt c0 [1, 1, 0, 1, 1, 1]
noncomputable def zd : Code := cAt c0 [1, 1, 1]
def X0 : Facts → Extra := fun _ => xOf []
theorem X0_ok (F : Facts) (_ : F.say = fun _ => True) : @ExtraOk _ F Tryz.prog (X0 F) := by
  letI := F
  exact xOf_ok fun x hx => by cases hx
def arr : SO := .cells 35 [.ix (.var 3), .ix (.var 4), .ix (.var 5), .ix (.var 6), .ix (.var 7), .ix (.var 8), .ix (.var 9), .ix (.var 10)] none
def arr0 : SO := .cells 35 (List.replicate 8 (.int .i64 0)) none
def G0 : Frm := ⟨[(0, .blob 107 (.var 2))], 1, [.root 0] ++ List.replicate 34 (.tup [])⟩
def GL : Frm := ⟨[(0, .blob 107 (.var 2)), (1, arr), (2, arr0)], 3, [.root 0, .any 1, .ptr (some (2, 0)), .ptr (some (1, 0)), .ix (.var 0)] ++ (List.range 30).map (fun i => .any (i + 5))⟩
def GZ : Frm := ⟨[(2, arr)], 3, [.any 0, .any 1, .ptr (some (2, 0))] ++ (List.range 32).map (fun i => .any (i + 3))⟩
theorem rest : restOf 30 [c0] = [.block 0 (.loop bd), zd] := by kernel_rfl
def z : List Tm := List.replicate 8 (.lit 0)
def ids : List Tm := (List.range 11).map .var
theorem pre_ev : chkP (fun _ => True) Tryz.prog X0 200 20 30 [c0] G0 (.leaf 0 GL ([.lit 0, .app 12 [.var 2], .var 2] ++ z) [.nm 0, .nm 2, .nm 1] 1 []) [] = true := by kernel_rfl
def kT : Tm := .app 17 [.var 2, .var 0, .lit 0]
def ts (k : Nat) : List Tm := [.app 0 [.var 0, .lit 1], .var 1, .var 2] ++ (List.range 8).map fun q => cond (Nat.beq q k) (.app 0 [.var (3 + q), .lit 1]) (.var (3 + q))
def fk (k : Nat) : List (Tm × Bool) := [(.app 3 [.var 0, .app 12 [.var 2]], true), (.app 3 [.var 0, .lit 0], false), (.app 3 [.var 0, .app 12 [.var 2]], true), (.app 4 [kT, .lit (k : Int)], true)]
theorem go_ev : ((List.range 7).all fun k => chkK (fun _ => True) Tryz.prog X0 200 20 bd GL (.leaf 0 GL (ts (k + 1)) [] 3 [1]) (fk (k + 1))) = true := by kernel_rfl
theorem end_ev : chkK (fun _ => True) Tryz.prog X0 200 20 bd GL (.leaf 2 GL ids [] 3 []) [(.app 3 [.var 0, .app 12 [.var 2]], false)] = true := by kernel_rfl
theorem z_ev : chkP (fun _ => True) Tryz.prog X0 200 20 30 [zd] GL (.leaf 1 GZ ids [] 3 [2]) [] = true := by kernel_rfl
theorem tdenL_map (r : Nat → LD) (f : Nat → Tm) : ∀ l : List Nat, tdenL r (l.map f) = l.map fun q => (f q).den r
  | [] => rfl
  | q :: l => by simp only [List.map_cons, tdenL, tdenL_map r f l]
def cnts (M : List (List Int)) : List LD := (List.range 8).map fun (q : Nat) => LD.i (cntQ M (q : Int))
def st (i : Int) (L M : List (List Int)) : List LD := [.i i, .i L.length, .r L] ++ cnts M
theorem cntQ_snoc (M : List (List Int)) (x : List Int) (q : Int) : cntQ (M ++ [x]) q = cntQ M q + if x.getD 0 0 = q then 1 else 0 := by
  unfold cntQ
  rw [List.filter_append, List.length_append]
  by_cases h : x.getD 0 0 = q
  · have : (x.getD 0 0 == q) = true := by rw [h]; exact beq_self_eq_true q
    rw [if_pos h, List.filter_cons, this]
    simp
  · have : (x.getD 0 0 == q) = false := beq_eq_false_iff_ne.2 h
    rw [if_neg h, List.filter_cons, this]
    simp
theorem cntQ_le (M : List (List Int)) (q : Int) : 0 ≤ cntQ M q ∧ cntQ M q ≤ M.length := by
  unfold cntQ
  have := List.length_filter_le (fun x : List Int => x.getD 0 0 == q) M
  omega
theorem st_at (i : Int) (L M : List (List Int)) {q : Nat} (hq : q < 8) : lets (st i L M) (3 + q) = .i (cntQ M (q : Int)) := by
  unfold lets st cnts
  rw [List.getD_eq_getElem?_getD, List.getElem?_append_right (by simp), List.getElem?_map]
  have : 3 + q - [LD.i i, LD.i L.length, LD.r L].length = q := by simp
  rw [this, List.getElem?_range hq]
  rfl
theorem step {L : List (List Int)} {i : Nat} (hi : i < L.length) (hL : L.length ≤ 1000) {k : Nat} (hk : L[i].getD 0 0 = (k : Int)) :
    tdenL (lets (st i L (L.take i))) (ts k) = st ((i + 1 : Nat) : Int) L (L.take (i + 1)) := by
  have hle := fun q => cntQ_le (L.take i) q
  have hlt : (L.take i).length ≤ 1000 := by rw [List.length_take]; omega
  have hm : tdenL (lets (st i L (L.take i))) ((List.range 8).map fun q => cond (Nat.beq q k) (.app 0 [.var (3 + q), .lit 1]) (.var (3 + q))) = cnts (L.take (i + 1)) := by
    rw [tdenL_map]
    refine List.map_congr_left fun q hq => ?_
    have hq := List.mem_range.1 hq
    rw [← List.take_append_getElem hi, cntQ_snoc, hk]
    cases hb : Nat.beq q k
    · have : ¬ ((k : Int) = (q : Int)) := fun e => by
        have : k = q := by omega
        rw [this, Nat.beq_refl] at hb
        cases hb
      rw [if_neg this, cond_false, Int.add_zero]
      exact st_at _ _ _ hq
    · rw [if_pos (by rw [Nat.eq_of_beq_eq_true hb]), cond_true]
      have e1 : (Tm.app 0 [.var (3 + q), .lit 1]).den (lets (st i L (L.take i))) = .i (IntKind.i64.wrap ((lets (st i L (L.take i)) (3 + q)).toI + 1)) := rfl
      rw [e1, st_at _ _ _ hq]
      have := hle (q : Int)
      show LD.i (IntKind.i64.wrap (cntQ (L.take i) (q : Int) + 1)) = _
      rw [IntWalk.i64_in _ (by omega)]
  have h3 : tdenL (lets (st i L (L.take i))) [.app 0 [.var 0, .lit 1], .var 1, .var 2] = [.i ((i + 1 : Nat) : Int), .i L.length, .r L] := by
    show [LD.i (IntKind.i64.wrap ((i : Int) + 1)), LD.i L.length, LD.r L] = _
    rw [IntWalk.i64_in _ (by omega)]
    rfl
  have happ : ∀ (r : Nat → LD) (l m : List Tm), tdenL r (l ++ m) = tdenL r l ++ tdenL r m := fun r l m => by
    induction l with
    | nil => rfl
    | cons t l ih => simp only [List.cons_append, tdenL, ih]
  unfold ts
  rw [happ, hm, h3]
  rfl
def nm (fp : Nat → Prop) (r : { v : Value // v.oneCell' = true }) : In := ⟨fun i => 0, fun _ => 0, fun i => [⟨(none, 0), fp, r⟩].getD i (EX.lit (none, 0)), vlu (fun _ => LD.i 0) (fun _ => undef)⟩
def cntV (L : List (List Int)) : Value := .agg #[.int .i64 (cntQ L 0), .int .i64 (cntQ L 1), .int .i64 (cntQ L 2), .int .i64 (cntQ L 3), .int .i64 (cntQ L 4), .int .i64 (cntQ L 5), .int .i64 (cntQ L 6), .int .i64 (cntQ L 7)]
theorem sm {G F : Frm} {N N2 : In} {rn : List Src} {m : Nat} {w w' : World} (h : Beh G F N rn m [] N2 w w') : Same w w' := h.chg.mono fun k _ ⟨id, h, _⟩ => by cases h
set_option maxRecDepth 100000 in
theorem kinds_any {own : Bool} {L : List (List Int)} {r : Value} {fp : Nat → Prop} {w : World} (h : RowAt 34 10 own r L fp w) (hL : L.length ≤ 1000) (hk : ∀ x ∈ L, ∃ k : Nat, 1 ≤ k ∧ k ≤ 7 ∧ x.getD 0 0 = (k : Int)) :
    Calls Tryz.prog 8 #[r] w fun e w' => e = .returned (cntV L) ∧ Same w w' := by
  have h := h.ro
  refine calls_of_code Tryz.func8 (c := c0) (by kernel_rfl) (wpS_one ?_)
  have hA0 : ∀ a : Act, a.tmps = #[r] ++ Array.replicate 34 undef → At G0 (nm fp ⟨r, h.one⟩) (lets ([.i 0, .i 0, .r L] ++ List.replicate 8 (.i 0))) (fun _ => undef) a w := fun a ha => ⟨ha.trans (by kernel_rfl), fun x hx => by rw [List.mem_singleton.1 hx]; exact h, List.pairwise_singleton _ _, vws_none (by kernel_rfl)⟩
  refine stepP X0_ok (by kernel_rfl) pre_ev (hA0 _ (by kernel_rfl)) (DecOk.nil _) trivial rfl fun a1 w1 N1 u1 hd1 hA1 hB1 => ?_
  show wpS _ (restOf 30 [c0]) a1 w1
  rw [rest]
  have hno : ∀ k ∈ ([] : List Nat), ∀ b, ((nm fp ⟨r, h.one⟩).esl k).fp b → w.heap.size ≤ b := fun k hk => by cases hk
  refine loopS (fun k a w' => ∃ (i : Nat) (N : In) (u : Nat → Value), i ≤ L.length ∧ k = L.length - i ∧ At GL N (lets (st i L (L.take i))) u a w' ∧ a.defers = [] ∧ Same w w' ∧ (∀ b, (N.esl 1).fp b → w.heap.size ≤ b) ∧ ∀ b, (N.esl 2).fp b → w.heap.size ≤ b) (fun k a w' ⟨i, N, u, hi, hkm, hA, hd, hs, hf, hf2⟩ => ?_) ⟨0, N1, u1, Nat.zero_le _, rfl, ?_, hd1, sm hB1, AqR.new_of (x := (1, arr)) (Chg.refl _ w) hB1 hno (by simp [GL]) fun j hj hj2 => by cases hj2; exact absurd hj (by decide), AqR.new_of (x := (2, arr0)) (Chg.refl _ w) hB1 hno (by simp [GL]) fun j hj hj2 => by cases hj2; exact absurd hj (by decide)⟩
  · by_cases hlt : i < L.length
    · obtain ⟨k, k1, k7, hx⟩ := hk _ (List.getElem_mem hlt)
      have hg := List.all_eq_true.1 go_ev (k - 1) (List.mem_range.2 (by omega))
      rw [show k - 1 + 1 = k by omega] at hg
      have hp : L[i]? = some L[i] := List.getElem?_eq_getElem hlt
      have hkd : kT.den (lets (st i L (L.take i))) = .i (k : Int) := (congrArg LD.i (show cellAt L i 0 = _ from cellAt_eq hp 0)).trans (congrArg LD.i hx)
      refine wpIn_mono (stepK X0_ok (by kernel_rfl) (by kernel_rfl) hg hA (DecOk.cons (decide_eq_true (show (i : Int) < L.length by omega)) (DecOk.cons (decide_eq_false (show ¬ (i : Int) < 0 by omega)) (DecOk.cons (decide_eq_true (show (i : Int) < L.length by omega)) (DecOk.cons (decide_eq_true (show (kT.den (lets (st i L (L.take i)))).toI = (k : Int) by rw [hkd]; rfl)) (DecOk.nil _))))) trivial rfl) fun e a' w2 ⟨he, hd', N2, u2, hA2, hB2⟩ => ?_
      obtain rfl : e = .normal := he
      rw [newR_lets rfl, step hlt hL hx] at hA2
      have hw : ∀ k ∈ [1], ∀ b, (N.esl k).fp b → w.heap.size ≤ b := fun k hk b hb => by rw [List.mem_singleton.1 hk] at hb; exact hf b hb
      have q1 := (hB2.keep 1 (by decide) (by decide)).2.2
      have q2 := (hB2.keep 2 (by decide) (by decide)).2.2
      exact ⟨L.length - (i + 1), by omega, i + 1, N2, u2, hlt, rfl, hA2, hd'.trans hd, AqR.chg_new hs hB2 hw, fun b hb => hf b (by rwa [q1] at hb), fun b hb => hf2 b (by rwa [q2] at hb)⟩
    · obtain rfl : i = L.length := by omega
      rw [List.take_length] at hA
      refine wpIn_mono (stepK X0_ok (by kernel_rfl) (by kernel_rfl) end_ev hA (DecOk.cons (decide_eq_false (show ¬ (L.length : Int) < L.length by omega)) (DecOk.nil _)) trivial rfl) fun e a' w2 ⟨he, hd', N2, u2, hA2, hB2⟩ => ?_
      obtain rfl : e = .exit 0 := he
      show wpS _ [zd] a' w2
      rw [show newR ids (lets (st L.length L L)) = lets (st L.length L L) from newR_lets rfl] at hA2
      refine stepP X0_ok (by kernel_rfl) z_ev hA2 (DecOk.nil _) trivial rfl fun a3 w3 N3 u3 hd3 hA3 hB3 => ?_
      rw [show newR ids (lets (st L.length L L)) = lets (st L.length L L) from newR_lets rfl] at hA3
      have q2 := (hB2.keep 2 (by decide) (by decide)).2.2
      have hw : ∀ k ∈ [2], ∀ b, (N2.esl k).fp b → w.heap.size ≤ b := fun k hk b hb => by rw [List.mem_singleton.1 hk, q2] at hb; exact hf2 b hb
      obtain ⟨_, ob, hb1, hb2⟩ := hA3.mem (2, arr) (by simp [GZ])
      exact bodyPost_ret (results_cell_row rfl _ _ _ _ _ _ _ (At.slot hA3 (t := 2) (v := .ptr (some (2, 0))) rfl) (hb1.trans (congrArg some hb2)) Tryz.underlying35 rfl (by kernel_rfl)) (hd3.trans (hd'.trans hd)) ⟨rfl, AqR.chg_new (hs.trans (sm hB2)) hB3 hw⟩
  · have e1 : newR ([.lit 0, .app 12 [.var 2], .var 2] ++ z) (lets ([.i 0, .i 0, .r L] ++ List.replicate 8 (.i 0))) = lets (st ((0 : Nat) : Int) L (L.take 0)) := newR_lets rfl
    rw [e1] at hA1
    exact hA1
end Go.Proofs.YthjnecicagmdeaaGreat.V.AqKr
