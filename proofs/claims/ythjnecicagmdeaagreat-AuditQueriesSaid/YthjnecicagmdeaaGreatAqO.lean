/-
  The law's own walk: what any points and intervals suggest. No conditions.
-/
import Derived.Test.YthjnecicagmdeaaGreatAqL
namespace Go.Proofs.YthjnecicagmdeaaGreat.V.AqO
open Go.Proofs.YthjnecicagmdeaaGreat Go.Proofs.YthjnecicagmdeaaGreat.V Go.Proofs.YthjnecicagmdeaaGreat.V.AqL Go.RowKit Go.E2
open Go.Al hiding P3
set_option linter.unusedVariables false
set_option linter.unusedSectionVars false

def cT (t : Tm) (k : Int) : SV := .ix (.app 29 [t, .lit k])
def kE [Facts] : List SV → St → Option (SR × St)
  | [.root j], st => match rowJ st j with
    | some (e, sz, own, c, .var v) => cond ((Nat.beq v 3 || Nat.beq v 4) && (Nat.beq e 34 && Nat.beq sz 10)) (some (.ret (.agg [cT (.var v) 0, cT (.var v) 1, cT (.var v) 2, cT (.var v) 3, cT (.var v) 4, cT (.var v) 5, cT (.var v) 6, cT (.var v) 7]), st)) none
    | _ => none
  | _, _ => none
def Say (v : VL) : Prop := kOk (v.r 3).toR ∧ kOk (v.r 4).toR
theorem kE_ok {F : Facts} (hF : F.say = Say) {f : FuncId} (hc : ∀ {own : Bool} {L : List (List Int)} {r : Value} {fp : Nat → Prop} {w : World}, RowAt 34 10 own r L fp w → L.length ≤ 1000 → (∀ x ∈ L, ∃ k : Nat, 1 ≤ k ∧ k ≤ 7 ∧ x.getD 0 0 = (k : Int)) → Calls Tryz.prog f #[r] w fun e w' => e = .returned (AqKa.cntV L) ∧ Same w w') : Entry Tryz.prog f kE := by
  intro args st r st' h A I w hok ha
  unfold kE at h
  split at h
  case h_2 => cases h
  rename_i j
  split at h
  case h_2 => cases h
  rename_i e sz own c v hj
  rw [Bool.cond_eq_ite] at h
  split at h
  case isFalse => cases h
  rename_i hb
  simp only [Bool.and_eq_true, Bool.or_eq_true, Nat.beq_eq] at hb
  obtain ⟨hv, rfl, rfl⟩ := hb
  cases h
  obtain ⟨hl, _, _, _, hrow⟩ := rowJ_spec hok hj
  have hsay : Say I.val := hF ▸ hok.val.say
  have hk : kOk ((I.val.r v).toR) := by
    rcases hv with rfl | rfl
    · exact hsay.1
    · exact hsay.2
  exact read_entry hok ⟨trivial, trivial, trivial, trivial, trivial, trivial, trivial, trivial, trivial⟩ (hc (L := (I.val.r v).toR) hrow hk.1 hk.2)
noncomputable def XL : Facts → Extra := fun F => xOf [(5, @qE F), (6, @rqE F), (9, livE), (7, @kE F), (8, @kE F)]
theorem XL_ok (F : Facts) (hF : F.say = Say) : @ExtraOk _ F Tryz.prog (XL F) := by
  letI := F
  exact xOf_ok fun x hx => by
    simp only [List.mem_cons, List.not_mem_nil, or_false] at hx
    rcases hx with rfl | rfl | rfl | rfl | rfl
    · exact qE_ok
    · exact rqE_ok
    · exact livE_ok
    · exact kE_ok hF fun h hl hk => AqKa.kinds_any h hl hk
    · exact kE_ok hF fun h hl hk => AqKr.kinds_any h hl hk
noncomputable def c0 : Code := bodyOf Tryz.prog 3
noncomputable def bd : Code := cAt c0 [1, 1, 1, 1, 1, 1, 0, 1, 1, 1]
noncomputable def zd : Code := cAt c0 [1, 1, 1, 1, 1, 1, 1]
def GL : Frm := ⟨[(0, .blob 107 (.var 3)), (1, .blob 106 (.var 4))], 2, [.any 0, .any 1, .bool false, .any 3, .any 4, .root 0, .root 1, .ix (.var 0)] ++ (List.range 50).map (fun i => .any (i + 8))⟩
def GZ : Frm := ⟨[], 2, [.any 0, .any 1, .bool true] ++ (List.range 55).map (fun i => .any (i + 3))⟩
theorem rest : restOf 40 [c0] = [.block 0 (.loop bd), zd] := by kernel_rfl
def same (q : Int) : Tm := .app 4 [.app 17 [.var 3, .var 0, .lit q], .app 17 [.var 4, .var 0, .lit q]]
def conj : List Tm → Tm
  | [] => .app 4 [.lit 0, .lit 0]
  | t :: l => .app 7 [t, conj l]
/-- two queries are one -/
def sameQ : Tm := conj [same 0, conj [same 1, same 2, same 3, same 4], conj [same 5, same 6, same 7], same 8, same 9]
theorem go_ev : chkK Say Tryz.prog XL 200 20 bd GL (.leaf 0 GL [.app 0 [.var 0, .lit 1], .var 1, .var 2, .var 3, .var 4] [] 2 []) [(.app 3 [.var 0, .app 12 [.var 3]], true), (.app 3 [.var 0, .lit 0], false), (.app 3 [.var 0, .app 12 [.var 4]], true), (sameQ, true)] = true := by kernel_rfl
theorem end_ev : chkK Say Tryz.prog XL 200 20 bd GL (.leaf 2 GL [.var 0, .var 1, .var 2, .var 3, .var 4] [] 2 []) [(.app 3 [.var 0, .app 12 [.var 3]], false)] = true := by kernel_rfl
def samek (k : Int) : Tm := .app 4 [.app 29 [.var 3, .lit k], .app 29 [.var 4, .lit k]]
theorem z_ev : chkP Say Tryz.prog XL 200 20 40 [zd] GL (.leaf 1 GZ [.var 0, .var 1, .var 2, .var 3, .var 4] [] 0 []) [(conj [samek 0, samek 1, samek 2, samek 3, samek 4, samek 5, samek 6, samek 7], true)] = true := by kernel_rfl
/-! ahead of the loop: what is clipped at twenty -/
def G0 : Frm := ⟨[(0, .blob 101 (.var 1)), (1, .blob 103 (.var 2))], 2, [.agg [.root 0, .root 1]] ++ List.replicate 57 (.tup [])⟩
def clipT (v : Nat) (b : Bool) : Tm := .app 15 [.app 13 [], cond b (.app 16 [.var v, .lit 0, .lit 20]) (.var v)]
def clip2 (v : Nat) (b : Bool) : Tm := .app 15 [.app 13 [], clipT v b]
def kT (p q : Bool) : List (Tm × Bool) := [(.app 3 [.lit 20, .app 12 [.var 1]], p), (.app 3 [.lit 20, .app 12 [.var 2]], q), (.app 3 [.lit 0, .app 12 [.app 13 []]], false), (.app 3 [.lit 20, .app 12 [clipT 1 p]], false), (.app 3 [.lit 20, .app 12 [clip2 1 p]], false), (.app 3 [.lit 20, .app 12 [clipT 2 q]], false), (.app 3 [.lit 20, .app 12 [clip2 2 q]], false), (.app 4 [.app 12 [.app 28 [clip2 1 p, clip2 2 q]], .app 12 [.app 28 [clipT 1 p, clipT 2 q]]], true)]
theorem pre_ev : ([true, false].all fun p => [true, false].all fun q => chkP (fun _ => True) Tryz.prog (fun F => xOf [(5, @qE F), (6, @rqE F)]) 200 20 40 [c0] G0 (.leaf 0 GL [.lit 0, .var 1, .var 2, .app 28 [clip2 1 p, clip2 2 q], .app 28 [clipT 1 p, clipT 2 q]] [.nm 15, .nm 16] 0 []) (kT p q)) = true := by kernel_rfl
/-- the law's loop and end, both lists being one -/
theorem tail {fn : Func} (hfn : fn.results = #[.tmp 2]) {w : World} {L : List (List Int)} {x y : LD} (hk : kOk L) {N : In} {u : Nat → Value} {a : Act} {w' : World} (hA : At GL N (lets [.i ((0 : Nat) : Int), x, y, .r L, .r L]) u a w') (hd : a.defers = []) (hs : Same w w') :
    wpS (bodyPost Tryz.prog fn fun e w' => e = .returned (.bool true) ∧ Same w w') [.block 0 (.loop bd), zd] a w' := by
  have hS : ∀ i : Int, ∀ u, Say (vlu (lets [.i i, x, y, .r L, .r L]) u) := fun i u => ⟨hk, hk⟩
  have sm : ∀ {G F : Frm} {N N2 : In} {rn : List Src} {m : Nat} {w w' : World}, Beh G F N rn m [] N2 w w' → Same w w' := fun h => h.chg.mono fun k _ ⟨id, h, _⟩ => by cases h
  refine loopS (fun k a w' => ∃ (i : Nat) (N : In) (u : Nat → Value), i ≤ L.length ∧ k = L.length - i ∧ At GL N (lets [.i (i : Int), x, y, .r L, .r L]) u a w' ∧ a.defers = [] ∧ Same w w') (fun k a w' ⟨i, N, u, hi, hkm, hA, hd, hs⟩ => ?_) ⟨0, N, u, Nat.zero_le _, rfl, hA, hd, hs⟩
  have l1 := hk.1
  by_cases hlt : i < L.length
  · have hq : Th.toB (sameQ.den (lets [.i (i : Int), x, y, .r L, .r L])) = true := by
      simp [sameQ, conj, same, Tm.den, tdenL, Th.and_, Th.eql_, lets]
    refine wpIn_mono (stepK XL_ok (by kernel_rfl) (by kernel_rfl) go_ev hA (DecOk.cons (decide_eq_true (show (i : Int) < L.length by omega)) (DecOk.cons (decide_eq_false (show ¬ (i : Int) < 0 by omega)) (DecOk.cons (decide_eq_true (show (i : Int) < L.length by omega)) (DecOk.cons hq (DecOk.nil _))))) (hS _ _) rfl) fun e a' w2 ⟨he, hd', N2, u2, hA2, hB2⟩ => ?_
    obtain rfl : e = .normal := he
    have e1 : tdenL (lets [.i (i : Int), x, y, .r L, .r L]) [.app 0 [.var 0, .lit 1], .var 1, .var 2, .var 3, .var 4] = [.i ((i + 1 : Nat) : Int), x, y, .r L, .r L] := by
      show [LD.i (IntKind.i64.wrap ((i : Int) + 1)), x, y, LD.r L, LD.r L] = _
      rw [IntWalk.i64_in _ (by omega)]
      rfl
    rw [newR_lets rfl, e1] at hA2
    exact ⟨L.length - (i + 1), by omega, i + 1, N2, u2, hlt, rfl, hA2, hd'.trans hd, hs.trans (sm hB2)⟩
  · obtain rfl : i = L.length := by omega
    refine wpIn_mono (stepK XL_ok (by kernel_rfl) (by kernel_rfl) end_ev hA (DecOk.cons (decide_eq_false (show ¬ (L.length : Int) < L.length by omega)) (DecOk.nil _)) (hS _ _) rfl) fun e a' w2 ⟨he, hd', N2, u2, hA2, hB2⟩ => ?_
    obtain rfl : e = .exit 0 := he
    show wpS _ [zd] a' w2
    rw [show newR [.var 0, .var 1, .var 2, .var 3, .var 4] (lets [.i (L.length : Int), x, y, .r L, .r L]) = lets [.i (L.length : Int), x, y, .r L, .r L] from newR_lets rfl] at hA2
    have hq : Th.toB ((conj [samek 0, samek 1, samek 2, samek 3, samek 4, samek 5, samek 6, samek 7]).den (lets [.i (L.length : Int), x, y, .r L, .r L])) = true := by
      simp [conj, samek, Tm.den, tdenL, Th.and_, Th.eql_, lets]
    refine stepP XL_ok (by kernel_rfl) z_ev hA2 (DecOk.cons hq (DecOk.nil _)) (hS _ _) rfl fun a3 w3 N3 u3 hd3 hA3 hB3 => ?_
    exact bodyPost_ret (hA3.res (t := 2) (v := .bool true) hfn rfl w3) (hd3.trans (hd'.trans hd)) ⟨rfl, (hs.trans (sm hB2)).trans (sm hB3)⟩
def XP : Facts → Extra := fun F => xOf [(5, @qE F), (6, @rqE F)]
theorem XP_ok (F : Facts) (_ : F.say = fun _ => True) : @ExtraOk _ F Tryz.prog (XP F) := by
  letI := F
  exact xOf_ok fun x hx => by
    simp only [List.mem_cons, List.not_mem_nil, or_false] at hx
    rcases hx with rfl | rfl
    · exact qE_ok
    · exact rqE_ok
def nm (fp fs : Nat → Prop) (r s : { v : Value // v.oneCell' = true }) : In := ⟨fun i => 0, fun _ => 0, fun i => [⟨(none, 0), fp, r⟩, ⟨(none, 0), fs, s⟩].getD i (EX.lit (none, 0)), vlu (fun _ => LD.i 0) (fun _ => undef)⟩
def clip (b : Bool) (L : List (List Int)) : List (List Int) := [] ++ cond b ((L.drop 0).take 20) L
theorem clip_le {L : List (List Int)} {b : Bool} (h : decide ((20 : Int) < L.length) = b) : (clip b L).length ≤ 20 := by
  cases b
  · have := of_decide_eq_false h
    simp [clip]; omega
  · simp [clip]; omega
end Go.Proofs.YthjnecicagmdeaaGreat.V.AqO
