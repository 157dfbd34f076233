/-
  The law's own walk: what any points and intervals suggest. No conditions.
-/
import Derived.Test.YthjnecicagmdeaaGreatAqO
namespace Go.Proofs.YthjnecicagmdeaaGreat.V.AqP
open Go.Proofs.YthjnecicagmdeaaGreat Go.Proofs.YthjnecicagmdeaaGreat.V Go.Proofs.YthjnecicagmdeaaGreat.V.AqL Go.Proofs.YthjnecicagmdeaaGreat.V.AqO Go.RowKit Go.E2
open Go.Al hiding P3
set_option linter.unusedVariables false
set_option linter.unusedSectionVars false

theorem wpS_app {Q : Exit → Act → World → Prop} {m : List Code} : ∀ (l : List Code) {a : Act} {w : World}, wpS (fun e a w => match e with
    | .normal => wpS Q m a w
    | e => Q e a w) l a w → wpS Q (l ++ m) a w
  | [], a, w, h => h
  | c :: l, a, w, h => wpIn_mono h fun e a w h => by
    cases e with
    | normal => exact wpS_app l h
    | _ => exact h
theorem wpS_mono {Q : Exit → Act → World → Prop} {c : Code} {l l' : List Code} (hl : ∀ a w, wpS Q l a w → wpS Q l' a w) {a : Act} {w : World} (h : wpS Q (c :: l) a w) : wpS Q (c :: l') a w := wpIn_mono h fun e a w h => by
  cases e with
  | normal => exact hl _ _ h
  | _ => exact h
noncomputable def cA : Code := cAt c0 [0]
noncomputable def cB : Code := cAt c0 [1, 0]
noncomputable def z1 : Code := cAt c0 [1, 1]
theorem parts : c0 = .seq cA (.seq cB z1) := by kernel_rfl
def frA : List SV := [.agg [.root 0, .atom 0]] ++ List.replicate 57 (.tup [])
def frB : List SV := [.agg [.root 0, .atom 0], .ptr (some (1, 0)), .bool false, .root 4, .atom 0, .tup [], .tup [], .tup [], .ptr (some (1, 0)), .root 0, .root 4, .ptr (some (1, 1)), .atom 0] ++ List.replicate 45 (.tup [])
def kA (p : Bool) : List (Tm × Bool) := [(.app 3 [.lit 20, .app 12 [.var 1]], p), (.app 3 [.lit 1073741824, .app 12 [.app 13 []]], false)]
def okA (p : Bool) : Option (SX × List SV × St) → Bool
  | some (.nrm, fr, st) => eqbS frB fr && (eqSO (.blob 100 (clipT 1 p)) (E2.look st.H 4) && ((match E2.look st.H 0 with
    | some _ => true
    | none => false) && st.wr.all fun i => Nat.ble 1 i))
  | _ => false
theorem okA_spec {p : Bool} {o : Option (SX × List SV × St)} (h : okA p o = true) : ∃ fr st, o = some (.nrm, fr, st) ∧ eqbS frB fr = true ∧ eqSO (.blob 100 (clipT 1 p)) (E2.look st.H 4) = true ∧ E2.look st.H 0 ≠ none ∧ ∀ i ∈ st.wr, 1 ≤ i := by
  match o, h with
  | some (.nrm, fr, st), h =>
    simp only [okA, Bool.and_eq_true] at h
    obtain ⟨h1, h2, h3, h4⟩ := h
    refine ⟨fr, st, rfl, h1, h2, fun e => ?_, fun i hi => ?_⟩
    · rw [e] at h3; cases h3
    · exact Nat.le_of_ble_eq_true (List.all_eq_true.1 h4 i hi)
noncomputable def chkA (p : Bool) : Bool :=
  letI := decF (fun _ => True) (kA p)
  okA p (evPre Tryz.prog (evN Tryz.prog (xOf []) 200 20) 200 20 [cA, cB] frA ⟨[(0, .blob 101 (.var 1))], 1, []⟩)
theorem a_ev : ([true, false].all chkA) = true := by kernel_rfl
def G1 : Frm := ⟨[(0, .blob 103 (.var 2)), (1, .blob 100 (.var 1))], 2, [.any 0, .any 1, .bool false, .root 1, .root 0] ++ (List.range 53).map (fun i => .any (i + 5))⟩
def P2 : Tm := .app 15 [.app 13 [], .var 1]
def kQ (q : Bool) : List (Tm × Bool) := [(.app 3 [.lit 0, .app 12 [.app 13 []]], false), (.app 3 [.lit 20, .app 12 [.var 1]], false), (.app 3 [.lit 20, .app 12 [P2]], false), (.app 3 [.lit 20, .app 12 [clipT 2 q]], false), (.app 3 [.lit 20, .app 12 [clip2 2 q]], false), (.app 3 [.lit 20, .app 12 [.var 2]], q), (.app 4 [.app 12 [.app 28 [P2, clip2 2 q]], .app 12 [.app 28 [.var 1, clipT 2 q]]], true)]
theorem b_ev : ([true, false].all fun q => chkP (fun _ => True) Tryz.prog XP 200 20 40 [z1] G1 (.leaf 0 GL [.lit 0, .var 1, .var 2, .app 28 [P2, clip2 2 q], .app 28 [.var 1, clipT 2 q]] [.nm 11, .nm 12] 0 []) (kQ q)) = true := by kernel_rfl
theorem rest1 : restOf 40 [z1] = [.block 0 (.loop bd), zd] := by kernel_rfl
theorem restA : restOf 20 [cA, cB] = [] := by kernel_rfl
/-- behind what was copied -/
theorem law2 {fn : Func} (hfn : fn.results = #[.tmp 2]) {w w1 : World} {P S : List (List Int)} (hP : P.length ≤ 20) {N : In} {u : Nat → Value} {a : Act} (hA : At G1 N (lets [.i 0, .r P, .r S, .i 0, .i 0]) u a w1) (hd : a.defers = []) (hs : Same w w1) :
    wpS (bodyPost Tryz.prog fn fun e w' => e = .returned (.bool true) ∧ Same w w') [z1] a w1 := by
  obtain ⟨q, hq⟩ : ∃ q, decide ((20 : Int) < S.length) = q := ⟨_, rfl⟩
  have hb : chkP (fun _ => True) Tryz.prog XP 200 20 40 [z1] G1 (.leaf 0 GL [.lit 0, .var 1, .var 2, .app 28 [P2, clip2 2 q], .app 28 [.var 1, clipT 2 q]] [.nm 11, .nm 12] 0 []) (kQ q) = true := by
    have := List.all_eq_true.1 b_ev q (by cases q <;> simp)
    exact this
  have h1 := clip_le (L := S) hq
  have eT : (clipT 2 q).den (lets [.i 0, .r P, .r S, .i 0, .i 0]) = LD.r (clip q S) := by cases q <;> rfl
  have e2 : (clip2 2 q).den (lets [.i 0, .r P, .r S, .i 0, .i 0]) = LD.r (clip q S) := by
    show LD.r ([] ++ ((clipT 2 q).den (lets [.i 0, .r P, .r S, .i 0, .i 0])).toR) = _
    rw [eT]
    rfl
  have eP : P2.den (lets [.i 0, .r P, .r S, .i 0, .i 0]) = LD.r P := rfl
  have hdec : DecOk (kQ q) (lets [.i 0, .r P, .r S, .i 0, .i 0]) := by
    refine DecOk.cons rfl (DecOk.cons (decide_eq_false (show ¬ (20 : Int) < P.length by omega)) (DecOk.cons (decide_eq_false (show ¬ (20 : Int) < P.length by omega)) (DecOk.cons ?_ (DecOk.cons ?_ (DecOk.cons hq (DecOk.cons ?_ (DecOk.nil _)))))))
    · show decide ((20 : Int) < ((clipT 2 q).den (lets [.i 0, .r P, .r S, .i 0, .i 0])).toR.length) = false
      rw [eT]
      exact decide_eq_false (show ¬ (20 : Int) < (clip q S).length by omega)
    · show decide ((20 : Int) < ((clip2 2 q).den (lets [.i 0, .r P, .r S, .i 0, .i 0])).toR.length) = false
      rw [e2]
      exact decide_eq_false (show ¬ (20 : Int) < (clip q S).length by omega)
    · show decide (((sugQ (P2.den (lets [.i 0, .r P, .r S, .i 0, .i 0])).toR ((clip2 2 q).den (lets [.i 0, .r P, .r S, .i 0, .i 0])).toR).length : Int) = (sugQ P ((clipT 2 q).den (lets [.i 0, .r P, .r S, .i 0, .i 0])).toR).length) = true
      rw [eT, e2, eP]
      exact decide_eq_true rfl
  refine stepP XP_ok (by kernel_rfl) hb hA hdec trivial rfl fun a2 w2 N2 u2 hd2 hA2 hB2 => ?_
  show wpS _ (restOf 40 [z1]) a2 w2
  rw [rest1]
  have e5 : newR [.lit 0, .var 1, .var 2, .app 28 [P2, clip2 2 q], .app 28 [.var 1, clipT 2 q]] (lets [.i 0, .r P, .r S, .i 0, .i 0]) = lets [.i ((0 : Nat) : Int), .r P, .r S, .r (sugQ P (clip q S)), .r (sugQ P (clip q S))] := by
    rw [newR_lets rfl]
    show lets [.i 0, .r P, .r S, .r (sugQ (P2.den (lets [.i 0, .r P, .r S, .i 0, .i 0])).toR ((clip2 2 q).den (lets [.i 0, .r P, .r S, .i 0, .i 0])).toR), .r (sugQ P ((clipT 2 q).den (lets [.i 0, .r P, .r S, .i 0, .i 0])).toR)] = _
    rw [eT, e2, eP]
    rfl
  rw [e5] at hA2
  exact tail hfn (kOk_sug hP h1) hA2 (hd2.trans hd) (hs.trans (hB2.chg.mono fun k _ ⟨id, h, _⟩ => by cases h))
set_option maxRecDepth 100000 in
theorem law_any {P S : List (List Int)} {r s : Value} {fp fs : Nat → Prop} {w : World} (hr : RowAt 40 3 false r P fp w) (hs : RowAt 42 3 false s S fs w) :
    Calls Tryz.prog 3 #[.agg #[r, s]] w fun e w' => e = .returned (.bool true) ∧ Same w w' := by
  refine calls_of_code Tryz.func3 (c := c0) (by kernel_rfl) (wpS_one ?_)
  rw [parts]
  refine wpS_seq (wpS_mono (l := [cB, z1]) (fun a w h => wpS_seq h) ?_)
  refine wpS_app (m := [z1]) [cA, cB] ?_
  obtain ⟨p, hp⟩ : ∃ p, decide ((20 : Int) < P.length) = p := ⟨_, rfl⟩
  have ha : chkA p = true := List.all_eq_true.1 a_ev p (by cases p <;> simp)
  letI := decF (fun _ => True) (kA p)
  let I : In := ⟨fun _ => 0, fun _ => 0, fun _ => ⟨(none, 0), fp, ⟨r, hr.one⟩⟩, ⟨fun _ => s, lets [.i 0, .r P, .r S, .i 0, .i 0], fun _ => undef⟩⟩
  have hval : ValOk Tryz.prog I.val := ⟨fun _ => hs.one, fun f hf => (by cases hf), fun f hf => (by cases hf), trivial, DecOk.cons hp (DecOk.cons rfl (DecOk.nil _))⟩
  have hok : Ok Tryz.prog (fun i => i < 1) I ⟨[(0, .blob 101 (.var 1))], 1, []⟩ w := Ok.of _ 1 hval (fun x hx => by
    rw [List.mem_singleton.1 hx]
    exact ⟨by decide, trivial, hr⟩) (List.pairwise_singleton _ _)
  obtain ⟨fr, st, he, hfr, hb4, hl0, hwr⟩ := okA_spec ha
  have hXok : ExtraOk Tryz.prog (xOf []) := xOf_ok fun x hx => by cases hx
  refine evPre_run hXok 20 [cA, cB] he hok ⟨?_, ⟨⟨(by decide : 0 < 1), trivial, trivial⟩, okL_iff.2 fun v hv => ?_⟩⟩ fun e a' w' I' hmv hf' hd' hx => ?_
  · kernel_rfl
  · rw [(List.mem_replicate.1 hv).2]
    exact trivial
  show wpS _ (restOf 20 [cA, cB]) a' w'
  rw [restA]
  show wpS _ [z1] a' w'
  have hwr0 : ∀ b, (∃ id, id ∈ st.wr ∧ E2.look [(0, SO.blob 101 (.var 1))] id ≠ none ∧ (I.esl id).fp b) → False := fun b ⟨id, h1, h2, _⟩ => by
    match id, hwr id h1, h2 with
    | id + 1, _, h2 => exact h2 rfl
  have hsame : Same w w' := hmv.chgW.mono fun b _ hb => hwr0 b hb
  have hI : I'.val = I.val := hmv.val
  obtain ⟨y, hy, hreal⟩ := eqSO_real (P := Tryz.prog) (I := I') (id := 4) (w := w') hb4
  have h4 : Th.holds 100 (I'.esl 4).rt.1 ((clipT 1 p).den I'.val.r) (I'.esl 4).fp w' := hreal (hmv.ok.real 4 _ hy)
  rw [hI] at h4
  have eT : (clipT 1 p).den I.val.r = LD.r (clip p P) := by cases p <;> rfl
  rw [eT] at h4
  have hfr1 : a'.tmps = (denL I' frB).toArray := by rw [hf'.tmps, (eqbS_den I' _ _ hfr).1]
  have hdis : ∀ b, fs b → ¬ (I'.esl 4).fp b := fun b h1 h2 => by
    rcases hmv.new 4 (by decide) (by rw [hy]; simp) b h2 with h3 | ⟨k, h3, h5, _⟩
    · have := hs.lt h1
      omega
    · match k, h3, h5 with
      | 0, _, h5 => exact hl0 h5
      | k + 1, h3, _ => exact h3 rfl
  refine law2 (P := clip p P) (S := S) rfl (clip_le hp) (N := ⟨fun _ => 0, fun _ => 0, fun i => cond (Nat.beq i 0) ⟨(none, 0), fs, ⟨s, hs.one⟩⟩ (I'.esl 4), I'.val⟩) (u := fun i => (denL I' frB).getD i undef) ⟨?_, fun x hx => ?_, ?_, vws_none (by kernel_rfl)⟩ hd' hsame
  · rw [hfr1]
    obtain ⟨x1, x2, x3, x4⟩ := I'
    cases hI
    rfl
  · simp only [G1, List.mem_cons, List.not_mem_nil, or_false] at hx
    rcases hx with rfl | rfl
    · exact (hs.frame fun b hb => hsame.block b (hs.lt hb) fun h => h)
    · exact h4
  · refine List.pairwise_cons.2 ⟨fun y hy => ?_, List.pairwise_singleton _ _⟩
    rw [List.mem_singleton.1 hy]
    exact ⟨by decide, hdis⟩
/-- points that came in, as a row -/
theorem row_in {e : TypeId} {w : World} {A : Option Addr} {n c : Nat} {l : List (Int × Int × Int)} (h : Row3 w A n c l) : RowAt e 3 false (.slice A n c) (l.map fun p => [p.1, p.2.1, p.2.2]) (fun b => blkOf A = some b) w := by
  obtain ⟨h1, h2, h3, h4, h5⟩ := h
  have hc : cellsR (l.map fun p => [p.1, p.2.1, p.2.2]) = is3 l := by
    unfold cellsR is3
    rw [List.flatMap_map]
    rfl
  refine ⟨by decide, fun x hx => ?_, A, c, by rw [List.length_map, h2], by rw [List.length_map]; omega, h4, by rw [hc]; exact h1, fun b => Iff.rfl, h5, fun hc => by cases hc⟩
  obtain ⟨p, _, rfl⟩ := List.mem_map.1 hx
  rfl
end Go.Proofs.YthjnecicagmdeaaGreat.V.AqP
