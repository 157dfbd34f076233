/-
  Which queries are left that nothing is wrong of: slices.IndexFunc and slices.DeleteFunc with the program's own judgement. Condition: at most a thousand.
-/
import Derived.Test.YthjnecicagmdeaaGreatAqC
import Derived.Test.YthjnecicagmdeaaGreatE2P
namespace Go.Proofs.YthjnecicagmdeaaGreat.V.AqF
open Go.Proofs.YthjnecicagmdeaaGreat Go.Proofs.YthjnecicagmdeaaGreat.V Go.RowKit Go.E2
open Go.Al hiding P3
set_option linter.unusedVariables false
set_option linter.unusedSectionVars false

noncomputable def c0 : Code := bodyOf Tryz.prog 37
noncomputable def d0 : Code := bodyOf Tryz.prog 21
def fu : SV := .func (.func 22) [] []
def X1 : Facts → Extra := fun _ => xOf [(23, chkQ)]
theorem X1_ok (F : Facts) (_ : F.say = fun _ => True) : @ExtraOk _ F Tryz.prog (X1 F) := by
  letI := F
  exact xOf_ok fun x hx => by
    rw [List.mem_singleton.1 hx]
    exact chkQ_ok Check_any

/-! the first that is to be left out -/
theorem firstBad_none {L : List (List Int)} (h : ∀ x ∈ L, okQ x = true) : firstBad L = -1 := by
  unfold firstBad
  rw [List.findIdx?_eq_none_iff.2 fun x hx => by rw [h x hx]; rfl]
theorem firstBad_some {L : List (List Int)} {i : Nat} (hi : i < L.length) (h1 : okQ L[i] = false) (h2 : ∀ x ∈ L.take i, okQ x = true) : firstBad L = (i : Int) := by
  unfold firstBad
  rw [List.findIdx?_eq_some_iff_getElem.2 ⟨hi, by rw [h1]; rfl, fun j hj => by
    have : L[j] ∈ L.take i := List.mem_take_iff_getElem.2 ⟨j, by rw [Nat.min_def]; split <;> omega, rfl⟩
    simp [h2 _ this]⟩]
def G0 : Frm := ⟨[(0, .blob 107 (.var 2))], 1, [.root 0, fu] ++ List.replicate 17 (.tup [])⟩
def GL : Frm := ⟨[(0, .blob 107 (.var 2))], 1, [.root 0, fu, .any 2, .any 3, .any 4, .any 5, .any 6, .ix (.var 1), .ix (.var 0)] ++ (List.range 10).map (fun i => .any (i + 9))⟩
def GR : Frm := ⟨[], 1, [.any 0, .any 1, .any 2, .any 3, .ix (.var 0)] ++ (List.range 14).map (fun i => .any (i + 5))⟩
def GZ : Frm := ⟨[], 1, [.any 0, .any 1, .any 2, .any 3, .int .i64 (-1)] ++ (List.range 14).map (fun i => .any (i + 5))⟩
theorem rest : restOf 30 [c0] = [.block 0 (.loop (cAt c0 [1, 0, 1, 1, 1])), cAt c0 [1, 1]] := by kernel_rfl
theorem pre_ev : chkP (fun _ => True) Tryz.prog X1 200 20 30 [c0] G0 (.leaf 0 GL [.lit 0, .app 12 [.var 2], .var 2] [.nm 0] 1 []) [] = true := by kernel_rfl
theorem go_ev : chkK (fun _ => True) Tryz.prog X1 200 20 (cAt c0 [1, 0, 1, 1, 1]) GL (.fork (okT (.var 2) (.var 0)) (.leaf 0 GL [.app 0 [.var 0, .lit 1], .var 1, .var 2] [.nm 0] 1 []) (.leaf 1 GR [.var 0, .var 1, .var 2] [] 0 [])) [(.app 3 [.var 0, .var 1], true), (.app 3 [.var 0, .lit 0], false), (.app 3 [.var 0, .app 12 [.var 2]], true)] = true := by kernel_rfl
theorem end_ev : chkK (fun _ => True) Tryz.prog X1 200 20 (cAt c0 [1, 0, 1, 1, 1]) GL (.leaf 2 GL [.var 0, .var 1, .var 2] [.nm 0] 1 []) [(.app 3 [.var 0, .var 1], false)] = true := by kernel_rfl
theorem z_ev : chkP (fun _ => True) Tryz.prog X1 200 20 30 [cAt c0 [1, 1]] GL (.leaf 1 GZ [.var 0, .var 1, .var 2] [] 0 []) [] = true := by kernel_rfl
def nm (fp : Nat → Prop) (r : { v : Value // v.oneCell' = true }) : In := ⟨fun i => 0, fun _ => 0, fun i => [⟨(none, 0), fp, r⟩].getD i (EX.lit (none, 0)), vlu (fun _ => LD.i 0) (fun _ => undef)⟩
theorem sm {G F : Frm} {N N2 : In} {rn : List Src} {m : Nat} {w w' : World} (h : Beh G F N rn m [] N2 w w') : Same w w' := h.chg.mono fun k _ ⟨id, h, _⟩ => by cases h
set_option maxRecDepth 100000 in
theorem index_any {own : Bool} {L : List (List Int)} {r : Value} {fp : Nat → Prop} {w : World} (h : RowAt 34 10 own r L fp w) (hL : L.length ≤ 1000) :
    Calls Tryz.prog 37 #[r, .func (.func 22) #[] #[]] w fun e w' => e = .returned (.int .i64 (firstBad L)) ∧ Same w w' := by
  have h := h.ro
  refine calls_of_code Tryz.func37 (c := c0) (by kernel_rfl) (wpS_one ?_)
  have hA0 : ∀ a : Act, a.tmps = #[r, .func (.func 22) #[] #[]] ++ Array.replicate 17 undef → At G0 (nm fp ⟨r, h.one⟩) (lets [.i 0, .i 0, .r L]) (fun _ => undef) a w := fun a ha => ⟨ha.trans (by kernel_rfl), fun x hx => by rw [List.mem_singleton.1 hx]; exact h, List.pairwise_singleton _ _, vws_none (by kernel_rfl)⟩
  refine stepP X1_ok (by kernel_rfl) pre_ev (hA0 _ (by kernel_rfl)) (DecOk.nil _) trivial rfl fun a1 w1 N1 u1 hd1 hA1 hB1 => ?_
  show wpS _ (restOf 30 [c0]) a1 w1
  rw [rest]
  refine loopS (fun k a w' => ∃ (i : Nat) (N : In) (u : Nat → Value), i ≤ L.length ∧ k = L.length - i ∧ At GL N (lets [.i i, .i L.length, .r L]) u a w' ∧ a.defers = [] ∧ Same w w' ∧ ∀ x ∈ L.take i, okQ x = true) (fun k a w' ⟨i, N, u, hi, hk, hA, hd, hs, hf⟩ => ?_) ⟨0, N1, u1, Nat.zero_le _, rfl, ?_, hd1, sm hB1, fun x hx => by simp at hx⟩
  · by_cases hlt : i < L.length
    · have hp : L[i]? = some L[i] := List.getElem?_eq_getElem hlt
      have hok : (okT (.var 2) (.var 0)).den (lets [.i i, .i L.length, .r L]) = .b (okQ L[i]) := okT_den rfl rfl hp (h.len _ (List.getElem_mem hlt))
      have hdec : DecOk [(.app 3 [.var 0, .var 1], true), (.app 3 [.var 0, .lit 0], false), (.app 3 [.var 0, .app 12 [.var 2]], true)] (lets [.i i, .i L.length, .r L]) := DecOk.cons (decide_eq_true (show (i : Int) < L.length by omega)) (DecOk.cons (decide_eq_false (show ¬ (i : Int) < 0 by omega)) (DecOk.cons (decide_eq_true (show (i : Int) < L.length by omega)) (DecOk.nil _)))
      cases hb : okQ L[i]
      · rw [hb] at hok
        refine wpIn_mono (stepK (k := 1) (F := GR) (ts := [.var 0, .var 1, .var 2]) (rn := []) (m := 0) (W := []) X1_ok (by kernel_rfl) (by kernel_rfl) go_ev hA hdec trivial (by simp only [KT.pick, hok]; rfl)) fun e a' w2 ⟨he, hd', N2, u2, hA2, hB2⟩ => ?_
        obtain rfl : e = .ret := he
        refine bodyPost_ret (hA2.res (t := 4) (v := .ix (.var 0)) rfl rfl w2) (hd'.trans hd) ⟨?_, hs.trans (sm hB2)⟩
        rw [firstBad_some hlt hb hf]
        rfl
      · rw [hb] at hok
        refine wpIn_mono (stepK (k := 0) (F := GL) (ts := [.app 0 [.var 0, .lit 1], .var 1, .var 2]) (rn := [.nm 0]) (m := 1) (W := []) X1_ok (by kernel_rfl) (by kernel_rfl) go_ev hA hdec trivial (by simp only [KT.pick, hok]; rfl)) fun e a' w2 ⟨he, hd', N2, u2, hA2, hB2⟩ => ?_
        obtain rfl : e = .normal := he
        have e1 : tdenL (lets [.i i, .i L.length, .r L]) [.app 0 [.var 0, .lit 1], .var 1, .var 2] = [.i ((i + 1 : Nat) : Int), .i L.length, .r L] := by
          show [LD.i (IntKind.i64.wrap ((i : Int) + 1)), _, _] = _
          rw [IntWalk.i64_in _ (by omega)]
          rfl
        rw [newR_lets rfl, e1] at hA2
        refine ⟨L.length - (i + 1), by omega, i + 1, N2, u2, hlt, rfl, hA2, hd'.trans hd, hs.trans (sm hB2), fun x hx => ?_⟩
        rw [← List.take_append_getElem hlt, List.mem_append, List.mem_singleton] at hx
        rcases hx with hx | rfl
        · exact hf x hx
        · exact hb
    · obtain rfl : i = L.length := by omega
      refine wpIn_mono (stepK X1_ok (by kernel_rfl) (by kernel_rfl) end_ev hA (DecOk.cons (decide_eq_false (show ¬ (L.length : Int) < L.length by omega)) (DecOk.nil _)) trivial rfl) fun e a' w2 ⟨he, hd', N2, u2, hA2, hB2⟩ => ?_
      obtain rfl : e = .exit 0 := he
      show wpS _ [cAt c0 [1, 1]] a' w2
      refine stepP X1_ok (by kernel_rfl) z_ev hA2 (DecOk.nil _) trivial rfl fun a3 w3 N3 u3 hd3 hA3 hB3 => ?_
      refine bodyPost_ret (hA3.res (t := 4) (v := .int .i64 (-1)) rfl rfl w3) (hd3.trans (hd'.trans hd)) ⟨?_, (hs.trans (sm hB2)).trans (sm hB3)⟩
      rw [List.take_length] at hf
      rw [firstBad_none hf]
      rfl
  · rw [newR_lets rfl] at hA1
    exact hA1

/-! DeleteFunc -/
def idxE [Facts] : List SV → St → Option (SR × St)
  | [.root j, .func (.func f) [] []], st => match rowJ st j with
    | some (e, sz, own, c, t) => cond (Nat.beq f 22 && (Nat.beq e 34 && (Nat.beq sz 10 && leB (.app 12 [t]) (.lit 1000)))) (some (.ret (.ix (.app 32 [t])), st)) none
    | none => none
  | _, _ => none
theorem idxE_ok {F : Facts} : Entry Tryz.prog 37 idxE := by
  intro args st r st' h A I w hok ha
  unfold idxE at h
  split at h
  case h_2 => cases h
  rename_i j f
  split at h
  case h_2 => cases h
  rename_i e sz own c t hj
  rw [Bool.cond_eq_ite] at h
  split at h
  case isFalse => cases h
  rename_i hb
  simp only [Bool.and_eq_true, Nat.beq_eq] at hb
  obtain ⟨rfl, rfl, rfl, hb⟩ := hb
  cases h
  obtain ⟨hl, hc, hA, hR, hrow⟩ := rowJ_spec hok hj
  have hlen : ((Tm.den I.val.r t).toR).length ≤ 1000 := by
    have h1 : (((Tm.den I.val.r t).toR).length : Int) ≤ 1000 := leB_den hok.val hb
    omega
  exact read_entry hok trivial (index_any (L := (Tm.den I.val.r t).toR) hrow hlen)
noncomputable def X2 : Facts → Extra := fun F => xOf [(37, @idxE F), (23, chkQ)]
theorem X2_ok (F : Facts) (_ : F.say = fun _ => True) : @ExtraOk _ F Tryz.prog (X2 F) := by
  letI := F
  exact xOf_ok fun x hx => by
    rcases List.mem_cons.1 hx with rfl | hx
    · exact idxE_ok
    · rw [List.mem_singleton.1 hx]
      exact chkQ_ok Check_any
def D0 : Frm := ⟨[(0, .blob 106 (.var 2))], 1, [.root 0, fu] ++ List.replicate 40 (.tup [])⟩
def DL : Frm := ⟨[(0, .blob 106 (.var 2))], 1, [.root 0, fu, .any 2, .any 3, .slice none 0 (.lit 0), .ix (.var 0), .ix (.var 1)] ++ (List.range 35).map (fun i => .any (i + 7))⟩
def DA : Frm := ⟨[(0, .blob 106 (.var 2))], 1, [.any 0, .any 1, .any 2, .any 3, .root 0] ++ (List.range 37).map (fun i => .any (i + 5))⟩
def DZ : Frm := ⟨[(0, .blob 106 (.var 2))], 1, [.any 0, .any 1, .any 2, .any 3, .vw 0 10 (.lit 0) (.var 0)] ++ (List.range 37).map (fun i => .any (i + 5))⟩
theorem drest : restOf 60 [d0] = [.block 0 (.loop (cAt d0 [1, 1, 1, 0, 1, 1, 1])), cAt d0 [1, 1, 1, 1]] := by kernel_rfl
def big : List (Tm × Bool) := [(.app 3 [.lit 1000, .app 12 [.var 2]], false)]
theorem dpre_ev : chkP (fun _ => True) Tryz.prog X2 200 20 60 [d0] D0 (.fork (.app 4 [.app 32 [.var 2], .lit (-1)]) (.leaf 1 DA [.var 0, .var 1, .var 2] [.nm 0] 1 []) (.leaf 0 DL [.app 32 [.var 2], .app 0 [.app 32 [.var 2], .lit 1], .var 2] [.nm 0] 1 [])) big = true := by kernel_rfl
def keepT : List Tm := [.app 0 [.var 0, .lit 1], .app 0 [.var 1, .lit 1], .app 18 (.var 2 :: .var 0 :: rowT (.var 2) (.var 1))]
theorem dgo_ev : chkK (fun _ => True) Tryz.prog X2 200 20 (cAt d0 [1, 1, 1, 0, 1, 1, 1]) DL (.fork (okT (.var 2) (.var 1)) (.leaf 0 DL keepT [.nm 0] 1 [0]) (.leaf 0 DL [.var 0, .app 0 [.var 1, .lit 1], .var 2] [.nm 0] 1 [])) [(.app 3 [.var 1, .app 12 [.var 2]], true), (.app 3 [.var 0, .lit 0], false), (.app 3 [.var 1, .lit 0], false), (.app 3 [.var 0, .app 12 [.var 2]], true)] = true := by kernel_rfl
theorem dend_ev : chkK (fun _ => True) Tryz.prog X2 200 20 (cAt d0 [1, 1, 1, 0, 1, 1, 1]) DL (.leaf 2 DL [.var 0, .var 1, .var 2] [.nm 0] 1 []) [(.app 3 [.var 1, .app 12 [.var 2]], false)] = true := by kernel_rfl
theorem dz_ev : chkP (fun _ => True) Tryz.prog X2 200 20 60 [cAt d0 [1, 1, 1, 1]] DL (.leaf 1 DZ [.var 0, .var 1, .app 19 [.var 2, .var 0, .lit 10]] [.nm 0] 1 [0]) [(.app 3 [.var 0, .lit 0], false), (.app 3 [.app 12 [.var 2], .var 0], false), (.app 3 [.app 12 [.app 19 [.var 2, .var 0, .lit 10]], .var 0], false)] = true := by kernel_rfl
theorem _root_.Go.E2.RowAt.head {e : TypeId} {sz : Nat} {own : Bool} {r : Value} {L : List (List Int)} {fp : Nat → Prop} {w : World} (h : RowAt e sz own r L fp w) {n : Nat} (hn : n ≤ L.length) : RowAt e sz false (subV sz r 0 n) (L.take n) fp w := by
  letI : Facts := ⟨[], [], fun _ => True, []⟩
  obtain ⟨A, k, rfl, h1, h2, h3, h4, h5, _⟩ := h.form
  have hA : (if k = 0 then A else A.map (·.add (0 * sz))) = A := by
    split
    · rfl
    · cases A with
      | none => rfl
      | some a => cases a; simp [Addr.add]
  refine ⟨h.pos, fun l hl => h.len l (List.mem_of_mem_take hl), A, k - 0, ?_, ?_, h2, ?_, h4, h5, fun h => by cases h⟩
  · simp only [subV, hA, List.length_take, Nat.min_eq_left hn]
  · rw [List.length_take, Nat.min_eq_left hn]; omega
  · rw [← cellsR_take h.len]
    exact h3.take _
set_option maxRecDepth 100000 in
theorem delete_any {L : List (List Int)} {r : Value} {fp : Nat → Prop} {w : World} (h : RowAt 34 10 true r L fp w) (hL : L.length ≤ 1000) :
    Calls Tryz.prog 21 #[r, .func (.func 22) #[] #[]] w (Turns (fun v fp' w' => RowAt 34 10 false v (L.filter okQ) fp' w') fp w) := by
  refine calls_of_code Tryz.func21 (c := d0) (by kernel_rfl) (wpS_one ?_)
  have hA0 : ∀ a : Act, a.tmps = #[r, .func (.func 22) #[] #[]] ++ Array.replicate 40 undef → At D0 (nm fp ⟨r, h.one⟩) (lets [.i 0, .i 0, .r L]) (fun _ => undef) a w := fun a ha => ⟨ha.trans (by kernel_rfl), fun x hx => by rw [List.mem_singleton.1 hx]; exact h, List.pairwise_singleton _ _, vws_none (by kernel_rfl)⟩
  have hbig : DecOk big (lets [.i 0, .i 0, .r L]) := DecOk.cons (decide_eq_false (show ¬ (1000 : Int) < L.length by omega)) (DecOk.nil _)
  by_cases hall : ∀ x ∈ L, okQ x = true
  · have hfb := firstBad_none hall
    refine stepP (k := 1) (F := DA) (ts := [.var 0, .var 1, .var 2]) (rn := [.nm 0]) (m := 1) (W := []) X2_ok (by kernel_rfl) dpre_ev (hA0 _ (by kernel_rfl)) hbig trivial ?_ fun a1 w1 N1 u1 hd1 hA1 hB1 => ?_
    · have : (Tm.app 4 [.app 32 [.var 2], .lit (-1)]).den (lets [.i 0, .i 0, .r L]) = .b (decide (firstBad L = -1)) := rfl
      rw [hfb] at this
      simp only [KT.pick, this]
      rfl
    · have k1 := (hB1.keep 0 (by decide) (by decide)).2.2
      refine bodyPost_ret (hA1.res (t := 4) (v := .root 0) rfl rfl w1) hd1 ⟨_, (N1.esl 0).fp, rfl, ?_, (sm hB1).to, fun b hb => .inr ?_⟩
      · rw [List.filter_eq_self.2 hall]
        rw [newR_lets rfl] at hA1
        have hm : RowAt 34 10 true ((N1.esl 0).rt.1) L (N1.esl 0).fp w1 := hA1.mem (0, .blob 106 (.var 2)) (by simp [DA])
        exact hm.ro
      · rw [k1] at hb
        exact hb
  · obtain ⟨i0, hi0, hbad, hpre⟩ : ∃ i, ∃ hi : i < L.length, okQ L[i] = false ∧ ∀ x ∈ L.take i, okQ x = true := by
      cases hfi : L.findIdx? fun x => !okQ x with
      | none =>
        refine absurd (fun x hx => ?_) hall
        have := List.findIdx?_eq_none_iff.1 hfi x hx
        simpa using this
      | some i =>
        obtain ⟨hi, h1, h2⟩ := List.findIdx?_eq_some_iff_getElem.1 hfi
        refine ⟨i, hi, by simpa using h1, fun x hx => ?_⟩
        obtain ⟨j, hj, rfl⟩ := List.mem_take_iff_getElem.1 hx
        have := h2 j (by omega)
        simpa using this
    have hfb := firstBad_some hi0 hbad hpre
    refine stepP (k := 0) (F := DL) (ts := [.app 32 [.var 2], .app 0 [.app 32 [.var 2], .lit 1], .var 2]) (rn := [.nm 0]) (m := 1) (W := []) X2_ok (by kernel_rfl) dpre_ev (hA0 _ (by kernel_rfl)) hbig trivial ?_ fun a1 w1 N1 u1 hd1 hA1 hB1 => ?_
    · have : (Tm.app 4 [.app 32 [.var 2], .lit (-1)]).den (lets [.i 0, .i 0, .r L]) = .b (decide (firstBad L = -1)) := rfl
      rw [hfb, decide_eq_false (show ¬ ((i0 : Int) = -1) by omega)] at this
      simp only [KT.pick, this]
      rfl
    show wpS _ (restOf 60 [d0]) a1 w1
    rw [drest]
    have k1 := (hB1.keep 0 (by decide) (by decide)).2.2
    refine loopS (fun k a w' => ∃ (i j : Nat) (M : List (List Int)) (N : In) (u : Nat → Value), i ≤ j ∧ i < L.length ∧ j ≤ L.length ∧ k = L.length - j ∧ At DL N (lets [.i i, .i j, .r M]) u a w' ∧ a.defers = [] ∧ Chg fp w w' ∧ (N.esl 0).fp = fp ∧ M.length = L.length ∧ M.take i = (L.take j).filter okQ ∧ M.drop j = L.drop j) (fun k a w' ⟨i, j, M, N, u, hij, hil, hj, hk, hA, hd, hs, hf, hM, h1, h2⟩ => ?_) ⟨i0, i0 + 1, L, N1, u1, by omega, hi0, hi0, rfl, ?_, hd1, (sm hB1).to, by rw [k1]; rfl, rfl, ?_, rfl⟩
    · have hrow : RowAt 34 10 true ((N.esl 0).rt.1) M (N.esl 0).fp w' := hA.mem (0, .blob 106 (.var 2)) (by simp [DL])
      by_cases hlt : j < L.length
      · have hltM : j < M.length := by omega
        have hp : M[j]? = some M[j] := List.getElem?_eq_getElem hltM
        have hx : M[j] = L[j] := by
          have e1 := congrArg (fun l => l[0]?) h2
          simp only [List.getElem?_drop, Nat.add_zero] at e1
          rw [hp, List.getElem?_eq_getElem hlt] at e1
          exact Option.some.inj e1
        have hok : (okT (.var 2) (.var 1)).den (lets [.i i, .i j, .r M]) = .b (okQ M[j]) := okT_den rfl rfl hp (hrow.len _ (List.getElem_mem hltM))
        have hdec : DecOk [(.app 3 [.var 1, .app 12 [.var 2]], true), (.app 3 [.var 0, .lit 0], false), (.app 3 [.var 1, .lit 0], false), (.app 3 [.var 0, .app 12 [.var 2]], true)] (lets [.i i, .i j, .r M]) := DecOk.cons (decide_eq_true (show (j : Int) < M.length by omega)) (DecOk.cons (decide_eq_false (show ¬ (i : Int) < 0 by omega)) (DecOk.cons (decide_eq_false (show ¬ (j : Int) < 0 by omega)) (DecOk.cons (decide_eq_true (show (i : Int) < M.length by omega)) (DecOk.nil _))))
        have htk : L.take (j + 1) = L.take j ++ [M[j]] := by rw [hx, List.take_append_getElem hlt]
        have hdr : M.drop (j + 1) = L.drop (j + 1) := by
          have := congrArg (List.drop 1) h2
          simpa [List.drop_drop, Nat.add_comm] using this
        cases hb : okQ M[j]
        · rw [hb] at hok
          refine wpIn_mono (stepK (k := 0) (F := DL) (ts := [.var 0, .app 0 [.var 1, .lit 1], .var 2]) (rn := [.nm 0]) (m := 1) (W := []) X2_ok (by kernel_rfl) (by kernel_rfl) dgo_ev hA hdec trivial (by simp only [KT.pick, hok]; rfl)) fun e a' w2 ⟨he, hd', N2, u2, hA2, hB2⟩ => ?_
          obtain rfl : e = .normal := he
          have e1 : tdenL (lets [.i i, .i j, .r M]) [.var 0, .app 0 [.var 1, .lit 1], .var 2] = [.i i, .i ((j + 1 : Nat) : Int), .r M] := by
            show [_, LD.i (IntKind.i64.wrap ((j : Int) + 1)), _] = _
            rw [IntWalk.i64_in _ (by omega)]
            rfl
          rw [newR_lets rfl, e1] at hA2
          have k2 := (hB2.keep 0 (by decide) (by decide)).2.2
          refine ⟨L.length - (j + 1), by omega, i, j + 1, M, N2, u2, by omega, hil, hlt, rfl, hA2, hd'.trans hd, hs.same (sm hB2), by rw [k2]; exact hf, hM, ?_, hdr⟩
          rw [htk, List.filter_append, h1]
          simp [hb]
        · rw [hb] at hok
          refine wpIn_mono (stepK (k := 0) (F := DL) (ts := keepT) (rn := [.nm 0]) (m := 1) (W := [0]) X2_ok (by kernel_rfl) (by kernel_rfl) dgo_ev hA hdec trivial (by simp only [KT.pick, hok]; rfl)) fun e a' w2 ⟨he, hd', N2, u2, hA2, hB2⟩ => ?_
          obtain rfl : e = .normal := he
          have e1 : tdenL (lets [.i i, .i j, .r M]) keepT = [.i ((i + 1 : Nat) : Int), .i ((j + 1 : Nat) : Int), .r (M.set i M[j])] := by
            show [LD.i (IntKind.i64.wrap ((i : Int) + 1)), LD.i (IntKind.i64.wrap ((j : Int) + 1)), LD.r (M.set ((i : Int).toNat) [cellAt M j 0, cellAt M j 1, cellAt M j 2, cellAt M j 3, cellAt M j 4, cellAt M j 5, cellAt M j 6, cellAt M j 7, cellAt M j 8, cellAt M j 9])] = _
            rw [IntWalk.i64_in _ (by omega), IntWalk.i64_in _ (by omega), row_eq hp (hrow.len _ (List.getElem_mem hltM)), Int.toNat_natCast]
            rfl
          rw [newR_lets rfl, e1] at hA2
          have k2 := (hB2.keep 0 (by decide) (by decide)).2.2
          have hc : Chg fp w w2 := hs.trans hB2.chg fun b hb ⟨id, g1, g2, g3⟩ => by rw [List.mem_singleton.1 g1, hf] at g3; exact g3
          have hci : i + 1 ≤ L.length := by omega
          have him : i < M.length := by omega
          have htake : (M.set i M[j]).take (i + 1) = (L.take (j + 1)).filter okQ := by
            have hi2 : i < (M.set i M[j]).length := by rw [List.length_set]; exact him
            rw [← List.take_append_getElem hi2, List.take_set_of_le (Nat.le_refl i), List.getElem_set_self, h1, htk, List.filter_append]
            simp [hb]
          have hdrop : (M.set i M[j]).drop (j + 1) = L.drop (j + 1) := by rw [List.drop_set_of_lt (by omega), hdr]
          by_cases hlast : i + 1 < L.length
          · exact ⟨L.length - (j + 1), by omega, i + 1, j + 1, M.set i M[j], N2, u2, by omega, hlast, hlt, rfl, hA2, hd'.trans hd, hc, by rw [k2]; exact hf, by rw [List.length_set]; exact hM, htake, hdrop⟩
          · exfalso
            have hjl : j + 1 = L.length := by omega
            have hn := congrArg List.length htake
            rw [List.length_take, List.length_set, hjl, List.take_length] at hn
            have hle := List.length_filter_le okQ L
            have : L.filter okQ = L := List.filter_eq_self.2 (by
              have : (L.filter okQ).length = L.length := by omega
              exact List.filter_eq_self.1 (List.Sublist.eq_of_length List.filter_sublist this))
            exact hall (List.filter_eq_self.1 this)
      · obtain rfl : j = L.length := by omega
        refine wpIn_mono (stepK X2_ok (by kernel_rfl) (by kernel_rfl) dend_ev hA (DecOk.cons (decide_eq_false (show ¬ (L.length : Int) < M.length by omega)) (DecOk.nil _)) trivial rfl) fun e a' w2 ⟨he, hd', N2, u2, hA2, hB2⟩ => ?_
        obtain rfl : e = .exit 0 := he
        show wpS _ [cAt d0 [1, 1, 1, 1]] a' w2
        have e1 : newR [.var 0, .var 1, .var 2] (lets [.i i, .i L.length, .r M]) = lets [.i i, .i L.length, .r M] := newR_lets rfl
        rw [e1] at hA2
        have hlen2 : (((M.take i ++ List.replicate (M.length - i) (List.replicate 10 (0 : Int))).length : Nat) : Int) = M.length := by
          rw [List.length_append, List.length_take, List.length_replicate]
          omega
        refine stepP X2_ok (by kernel_rfl) dz_ev hA2 (DecOk.cons (decide_eq_false (show ¬ (i : Int) < 0 by omega)) (DecOk.cons (decide_eq_false (show ¬ (M.length : Int) < i by omega)) (DecOk.cons (decide_eq_false (show ¬ (((M.take (i : Int).toNat ++ List.replicate (M.length - (i : Int).toNat) (List.replicate (10 : Int).toNat (0 : Int))).length : Nat) : Int) < i by rw [Int.toNat_natCast]; show ¬ (((M.take i ++ List.replicate (M.length - i) (List.replicate 10 (0 : Int))).length : Nat) : Int) < i; rw [hlen2]; omega)) (DecOk.nil _)))) trivial rfl fun a3 w3 N3 u3 hd3 hA3 hB3 => ?_
        have k2 := (hB2.keep 0 (by decide) (by decide)).2.2
        have k3 := (hB3.keep 0 (by decide) (by decide)).2.2
        have hfp3 : (N3.esl 0).fp = fp := by rw [k3, k2]; exact hf
        have hc : Chg fp w w3 := (hs.same (sm hB2)).trans hB3.chg fun b hb ⟨id, g1, g2, g3⟩ => by rw [List.mem_singleton.1 g1, k2, hf] at g3; exact g3
        have e3 : tdenL (lets [.i i, .i L.length, .r M]) [.var 0, .var 1, .app 19 [.var 2, .var 0, .lit 10]] = [.i i, .i L.length, .r (M.take i ++ List.replicate (M.length - i) (List.replicate 10 0))] := by
          show [_, _, LD.r (M.take (i : Int).toNat ++ List.replicate (M.length - (i : Int).toNat) (List.replicate (10 : Int).toNat 0))] = _
          rw [Int.toNat_natCast]
          rfl
        rw [newR_lets rfl, e3] at hA3
        have hm : RowAt 34 10 true ((N3.esl 0).rt.1) (M.take i ++ List.replicate (M.length - i) (List.replicate 10 0)) (N3.esl 0).fp w3 := hA3.mem (0, .blob 106 (.var 2)) (by simp [DZ])
        have hh := hm.head (n := i) (by rw [List.length_append, List.length_take, List.length_replicate]; omega)
        rw [List.take_append_of_le_length (by rw [List.length_take]; omega), List.take_take, Nat.min_self, h1, List.take_length] at hh
        refine bodyPost_ret (hA3.res (t := 4) (v := .vw 0 10 (.lit 0) (.var 0)) rfl rfl w3) (hd3.trans (hd'.trans hd)) ⟨_, (N3.esl 0).fp, rfl, hh, hc, fun b hb => .inr ?_⟩
        rw [hfp3] at hb
        exact hb
    · have e1 : tdenL (lets [.i 0, .i 0, .r L]) [.app 32 [.var 2], .app 0 [.app 32 [.var 2], .lit 1], .var 2] = [.i (i0 : Int), .i ((i0 + 1 : Nat) : Int), .r L] := by
        show [LD.i (firstBad L), LD.i (IntKind.i64.wrap (firstBad L + 1)), LD.r L] = _
        rw [hfb, IntWalk.i64_in _ (by omega)]
        rfl
      rw [newR_lets rfl, e1] at hA1
      exact hA1
    · rw [← List.take_append_getElem hi0, List.filter_append, List.filter_eq_self.2 hpre]
      simp [hbad]
end Go.Proofs.YthjnecicagmdeaaGreat.V.AqF
