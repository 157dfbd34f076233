/-
  What is wrong of a query, as the evaluator takes it: the program's words and the document's. No conditions.
-/
import Derived.Test.YthjnecicagmdeaaGreatAqM
namespace Go.Proofs.YthjnecicagmdeaaGreat.V
open Go.Proofs.YthjnecicagmdeaaGreat Go.RowKit Go.E2
open Go.Al hiding P3
set_option linter.unusedVariables false
set_option linter.unusedSectionVars false

/-- a number of a row's element -/
def cellAt (L : List (List Int)) (i q : Int) : Int := ((L[i.toNat]?).bind fun l => l[q.toNat]?).getD 0
theorem cellAt_eq {L : List (List Int)} {i : Nat} {p : List Int} (h : L[i]? = some p) (q : Nat) : cellAt L (i : Int) (q : Int) = p.getD q 0 := by
  unfold cellAt
  rw [Int.toNat_natCast, Int.toNat_natCast, h]
  simp [List.getD_eq_getElem?_getD]
/-- all numbers of a query in a row -/
def rowT (L i : Tm) : List Tm := [.app 17 [L, i, .lit 0], .app 17 [L, i, .lit 1], .app 17 [L, i, .lit 2], .app 17 [L, i, .lit 3], .app 17 [L, i, .lit 4], .app 17 [L, i, .lit 5], .app 17 [L, i, .lit 6], .app 17 [L, i, .lit 7], .app 17 [L, i, .lit 8], .app 17 [L, i, .lit 9]]
def okT (L i : Tm) : Tm := .app 4 [.app 30 (rowT L i), .lit 0]
theorem row_eq {L : List (List Int)} {i : Nat} {p : List Int} (h : L[i]? = some p) (hl : p.length = 10) : [cellAt L i 0, cellAt L i 1, cellAt L i 2, cellAt L i 3, cellAt L i 4, cellAt L i 5, cellAt L i 6, cellAt L i 7, cellAt L i 8, cellAt L i 9] = p := by
  rw [show cellAt L i 0 = p.getD 0 0 from cellAt_eq h 0, show cellAt L i 1 = p.getD 1 0 from cellAt_eq h 1, show cellAt L i 2 = p.getD 2 0 from cellAt_eq h 2, show cellAt L i 3 = p.getD 3 0 from cellAt_eq h 3, show cellAt L i 4 = p.getD 4 0 from cellAt_eq h 4, show cellAt L i 5 = p.getD 5 0 from cellAt_eq h 5, show cellAt L i 6 = p.getD 6 0 from cellAt_eq h 6, show cellAt L i 7 = p.getD 7 0 from cellAt_eq h 7, show cellAt L i 8 = p.getD 8 0 from cellAt_eq h 8, show cellAt L i 9 = p.getD 9 0 from cellAt_eq h 9]
  match p, hl with
  | [_, _, _, _, _, _, _, _, _, _], _ => rfl
theorem okT_den {r : Nat → LD} {L : List (List Int)} {tL ti : Tm} {i : Nat} {p : List Int} (h1 : tL.den r = .r L) (h2 : ti.den r = .i (i : Int)) (h : L[i]? = some p) (hl : p.length = 10) : (okT tL ti).den r = .b (okQ p) := by
  have : (okT tL ti).den r = .b (decide (checkE (qOf [cellAt (tL.den r).toR (ti.den r).toI 0, cellAt (tL.den r).toR (ti.den r).toI 1, cellAt (tL.den r).toR (ti.den r).toI 2, cellAt (tL.den r).toR (ti.den r).toI 3, cellAt (tL.den r).toR (ti.den r).toI 4, cellAt (tL.den r).toR (ti.den r).toI 5, cellAt (tL.den r).toR (ti.den r).toI 6, cellAt (tL.den r).toR (ti.den r).toI 7, cellAt (tL.den r).toR (ti.den r).toI 8, cellAt (tL.den r).toR (ti.den r).toI 9]) = 0)) := rfl
  rw [this, h1, h2]
  show LD.b (decide (checkE (qOf [cellAt L i 0, cellAt L i 1, cellAt L i 2, cellAt L i 3, cellAt L i 4, cellAt L i 5, cellAt L i 6, cellAt L i 7, cellAt L i 8, cellAt L i 9]) = 0)) = _
  rw [row_eq h hl]
  rfl
def chkQ : List SV → St → Option (SR × St)
  | [.agg l], st => match tmL l with
    | some ts => cond (Nat.beq ts.length 10) (some (.ret (.ix (.app 30 ts)), st)) none
    | none => none
  | _, _ => none
theorem qV_of (l : List Int) (h : l.length = 10) : qV (qOf l) = .agg (l.map (Value.int .i64)).toArray := by
  match l, h with
  | [_, _, _, _, _, _, _, _, _, _], _ => rfl
theorem chkQ_ok {F : Facts} {f : FuncId} (h0 : ∀ (q : Qy) (w : World), Calls Tryz.prog f #[qV q] w fun e w' => e = .returned (.int .i64 (checkE q)) ∧ Same w w') : Entry Tryz.prog f chkQ := by
  intro args st r st' h A I w hok ha
  unfold chkQ at h
  split at h
  case h_2 => cases h
  rename_i l
  split at h
  case h_2 => cases h
  rename_i ts hts
  rw [Bool.cond_eq_ite] at h
  split at h
  case isFalse => cases h
  rename_i hb
  rw [Nat.beq_eq] at hb
  cases h
  refine read_entry hok trivial ?_
  have hl : ((tdenL I.val.r ts).map LD.toI).length = 10 := by rw [List.length_map, tdenL_length, hb]
  have e1 : (SV.agg l).den I = qV (qOf ((tdenL I.val.r ts).map LD.toI)) := by
    rw [qV_of _ hl]
    simp only [SV.den, tmL_den hts, List.map_map]
    rfl
  have e2 : (SV.ix (.app 30 ts)).den I = .int .i64 (checkE (qOf ((tdenL I.val.r ts).map LD.toI))) := rfl
  simp only [denL]
  rw [e1, e2]
  exact h0 _ w
end Go.Proofs.YthjnecicagmdeaaGreat.V
