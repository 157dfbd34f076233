/-
  history.fresh, history.place. No conditions.
  history's reader: take: an event that is none, ahead of any operation; what the reader is. Conditions: 64 events at most; numbers that an int holds.
-/
import Derived.Test.YtlimpepdelpogaaGreatDoorHwN
import Derived.Test.YtlimpepdelpogaaGreatDoorHrA
import Derived.Test.YtlimpepdelpogaaGreatDoorMy
/-! HwA -/
namespace Go.Proofs.YtlimpepdelpogaaGreatDoor
open Go.RowKit Go.Al
set_option linter.unusedVariables false
set_option maxHeartbeats 4000000
set_option maxRecDepth 100000
theorem rowReqH : RowTy Tryz.prog 37 18 := ⟨⟨_, Tryz.underlying37, rfl⟩, by kernel_rfl⟩
theorem rowDeed : RowTy Tryz.prog 79 29 := ⟨⟨_, Tryz.underlying79, rfl⟩, by kernel_rfl⟩
theorem rowEvt : RowTy Tryz.prog 45 27 := ⟨⟨_, Tryz.underlying45, rfl⟩, by kernel_rfl⟩
theorem rowRep : RowTy Tryz.prog 43 5 := ⟨⟨_, Tryz.underlying43, rfl⟩, by kernel_rfl⟩
theorem results_cell1 {P : Program} {w : World} {fn : Func} {x : Tmp} {ty t : TypeId} {g : Nat} (hf : fn.results = #[.cell x ty]) {tmps : Array Value} {cs : Array Value} {d : TypeDesc}
    (ha : tmps.getD x undef = .pointer (some ⟨g, 0, none⟩)) (hb : Blk w g t cs) (hu : P.underlying ty = some d) (hd : (match d with | .struct _ | .array _ _ => true | _ => false) = true) (hi : (P.info? ty).map (·.size) = some cs.size) :
    (results fn tmps).run P w = .ok (.agg cs) w := by
  rw [Array.getD_eq_getD_getElem?] at ha
  simp [results, hf, asAddr, ha, run_loadVar_row w g t ty cs (0, 0) d hb hu hd hi]
theorem rangeAt_part {w : World} {g : Nat} {t : TypeId} (xs ys zs : List Value) (h : Blk w g t (xs ++ ys ++ zs).toArray) : w.rangeAt g xs.length ys := fun j v hv => by
  rw [h.cell, List.getElem?_toArray, List.append_assoc, List.getElem?_append_right (by omega), show xs.length + j - xs.length = j by omega, List.getElem?_append_left (List.getElem?_eq_some_iff.1 hv).1]
  exact hv
/-- an event's request, and reply, in its block -/
theorem ev_req {w : World} {g : Nat} {t : TypeId} {e : Ev} (h : Blk w g t (evL e).toArray) : w.rangeAt g 4 (rqL e.r) := rangeAt_part [.int .i64 e.k, .int .i64 e.st, .int .i64 e.ss, .int .i64 e.op] (rqL e.r) (rpL e.t) h
theorem ev_rep {w : World} {g : Nat} {t : TypeId} {e : Ev} (h : Blk w g t (evL e).toArray) : w.rangeAt g 22 (rpL e.t) :=
  rangeAt_part ([.int .i64 e.k, .int .i64 e.st, .int .i64 e.ss, .int .i64 e.op] ++ rqL e.r) (rpL e.t) [] (by rw [List.append_nil]; exact h)
theorem fresh_any (e : Ev) (w : World) :
    Calls Tryz.prog 72 #[evV e] w fun f w' => f = .returned (.agg (ddL (freshD e)).toArray) ∧ Same w w' := by
  have hb1 := Blk.new w 45 (evL e).toArray
  have c2 : (evL e)[2]? = some (.int .i64 e.ss) := rfl
  have hra := ev_req hb1
  have hra2 : (w.alloc (.cells (evL e).toArray 45)).rangeAt w.heap.size 4 (rqL e.r) := hra
  obtain ⟨ek, est, ess, eop, ⟨k, ⟨ck, ⟨p1, p2, p3⟩, ⟨s1, s2, s3⟩⟩, ⟨q1, q2, q3, q4, q5, q6, q7, q8, q9, q10⟩⟩, et⟩ := e
  have Hra := hide hra2
  have HB := hide hb1
  clear hra hra2 hb1
  unfold evV
  generalize evL _ = L at *
  simp only [rqL, cgL, qL, ddL, rpL, freshD, List.cons_append, List.nil_append] at *
  have HL := hide (RowL.lit (cs := [.int .i64 (-1), .int .i64 (-1), .int .i64 (-1), .int .i64 (-1), .int .i64 (-1), .int .i64 ess, .int .i64 k, .int .i64 ck, .int .i64 p1, .int .i64 p2, .int .i64 p3, .int .i64 s1, .int .i64 s2, .int .i64 s3, .int .i64 q1, .int .i64 q2, .int .i64 q3, .int .i64 q4, .int .i64 q5, .int .i64 q6, .int .i64 q7, .int .i64 q8, .int .i64 q9, .int .i64 q10, .int .i64 0, .bool false, .bool false, .int .i64 0, .slice none 0 0]) (n := 29) rfl rfl)
  go_enter Tryz.func72, Tryz.ntmps72
  go_wp2_with (first
    | ((with_reducible refine ldR 37 w.heap.size 4 18 _ rowReqH ?_ (rangeAt_same Hra.out ((Chg.refl _ _).alloc _)) ?_ ?_ ?_); rfl; rfl; rfl)
    | ((with_reducible refine stNg 79 29 [.int .i64 (-1), .int .i64 (-1), .int .i64 (-1), .int .i64 (-1), .int .i64 (-1), .int .i64 ess, .int .i64 k, .int .i64 ck, .int .i64 p1, .int .i64 p2, .int .i64 p3, .int .i64 s1, .int .i64 s2, .int .i64 s3, .int .i64 q1, .int .i64 q2, .int .i64 q3, .int .i64 q4, .int .i64 q5, .int .i64 q6, .int .i64 q7, .int .i64 q8, .int .i64 q9, .int .i64 q10, .int .i64 0, .bool false, .bool false, .int .i64 0, .slice none 0 0] 79 _ rowDeed ?_ ?_ HL.out.one ?_ ?_ ?_); rfl; rfl; (simp only [World.size_alloc]; rfl); rfl; intro w3 hs hz hb; have Hs3 := hide hs; have Hb3 := hide hb; clear hs hz hb)
    | fail)
  have hb3 := Hb3.out
  simp only [World.size_alloc] at hb3
  exact bodyPost_ret (results_cell1 rfl rfl hb3 Tryz.underlying79 rfl (by kernel_rfl)) rfl ⟨rfl, Same.trans ((Chg.refl _ w).alloc _) Hs3.out⟩
/-! where an operation keeps when something happened -/
theorem place_bad {g o : Nat} (k : Int) (w : World) (hk : IntKind.i64.wrap (k - 1) < 0 ∨ 5 ≤ IntKind.i64.wrap (k - 1)) :
    Calls Tryz.prog 73 #[.pointer (some ⟨g, o, none⟩), .int .i64 k] w fun e w' => e = .panicked (fault 0 1) ∧ Same w w' := by
  have HT := hide (fun (w' : World) (A : Option Addr) => tindex_bad (A := A) (n := 5) (c := 5) (IntKind.i64.wrap (k - 1)) w' hk)
  obtain ⟨m, hm⟩ : ∃ m, IntKind.i64.wrap (k - 1) = m := ⟨_, rfl⟩
  rw [hm] at HT
  clear hk
  go_enter Tryz.func73, Tryz.ntmps73
  go_wp2_with fail
  refine wp_region_mixS 15 (by kernel_rfl) (by kernel_rfl) fun Fin hFin => ?_
  simp only [List.take_succ_cons, List.take_zero]
  iterate 15 (
      (refine mix_lit ?_ ?_ (Chg.refl _) ?_ ?_ ?_ ?_; rotate_left 2
       · intro e w1 hR hF K hK; (skip); go_simp; (refine hK _ _ (Chg.refl _ _) ?_; rfl)
       · intro e; simp only [puts]; rfl
       · exact Loc.const _ _))
  refine mix_nil fun e w1 hR hF => hFin _ _ ?_
  simp only [List.drop_succ_cons, List.drop_zero]
  have HR := hide hR
  clear hF hFin hR
  go_wp2_with (go_at_call 98; (with_reducible refine (HT.out _ _).mono ?_); rintro e9 w' ⟨rfl, hs⟩)
  exact ⟨rfl, rfl, Same.trans (HR.out.alloc _) hs⟩
theorem place_1 {g o : Nat} (w : World) :
    Calls Tryz.prog 73 #[.pointer (some ⟨g, o, none⟩), .int .i64 1] w fun e w' => e = .returned (.pointer (some ⟨g, o + 0, none⟩)) ∧ Same w w' := by
  go_enter Tryz.func73, Tryz.ntmps73
  go_wp2_with fail
  refine wp_region_mixS 15 (by kernel_rfl) (by kernel_rfl) fun Fin hFin => ?_
  simp only [List.take_succ_cons, List.take_zero]
  iterate 15 (
      (refine mix_lit ?_ ?_ (Chg.refl _) ?_ ?_ ?_ ?_; rotate_left 2
       · intro e w1 hR hF K hK; (skip); go_simp; (refine hK _ _ (Chg.refl _ _) ?_; rfl)
       · intro e; simp only [puts]; rfl
       · exact Loc.const _ _))
  refine mix_nil fun e w1 hR hF => hFin _ _ ?_
  simp only [List.drop_succ_cons, List.drop_zero]
  have HR := hide hR
  clear hF hFin hR
  have HT := hide (tindex_ok (b := w1.heap.size) (off := 0) (n := 5) (c := 5) (v := .pointer (some ⟨g, o + 0, none⟩)) 0 (w1.alloc (.cells #[.pointer (some ⟨g, o + 0, none⟩), .pointer (some ⟨g, o + 1, none⟩), .pointer (some ⟨g, o + 2, none⟩), .pointer (some ⟨g, o + 3, none⟩), .pointer (some ⟨g, o + 4, none⟩)] 98)) (by decide) (by rw [(Blk.new w1 _ _).cell]; rfl) rfl)
  simp only [Nat.add_zero] at HT
  go_wp2_with (go_at_call 98; have hT := HT.out; (refine hT.mono ?_); rintro e9 w' ⟨rfl, hs⟩)
  go_ret
  exact ⟨rfl, Same.trans (HR.out.alloc _) hs⟩
theorem place_2 {g o : Nat} (w : World) :
    Calls Tryz.prog 73 #[.pointer (some ⟨g, o, none⟩), .int .i64 2] w fun e w' => e = .returned (.pointer (some ⟨g, o + 1, none⟩)) ∧ Same w w' := by
  go_enter Tryz.func73, Tryz.ntmps73
  go_wp2_with fail
  refine wp_region_mixS 15 (by kernel_rfl) (by kernel_rfl) fun Fin hFin => ?_
  simp only [List.take_succ_cons, List.take_zero]
  iterate 15 (
      (refine mix_lit ?_ ?_ (Chg.refl _) ?_ ?_ ?_ ?_; rotate_left 2
       · intro e w1 hR hF K hK; (skip); go_simp; (refine hK _ _ (Chg.refl _ _) ?_; rfl)
       · intro e; simp only [puts]; rfl
       · exact Loc.const _ _))
  refine mix_nil fun e w1 hR hF => hFin _ _ ?_
  simp only [List.drop_succ_cons, List.drop_zero]
  have HR := hide hR
  clear hF hFin hR
  have HT := hide (tindex_ok (b := w1.heap.size) (off := 0) (n := 5) (c := 5) (v := .pointer (some ⟨g, o + 1, none⟩)) 1 (w1.alloc (.cells #[.pointer (some ⟨g, o + 0, none⟩), .pointer (some ⟨g, o + 1, none⟩), .pointer (some ⟨g, o + 2, none⟩), .pointer (some ⟨g, o + 3, none⟩), .pointer (some ⟨g, o + 4, none⟩)] 98)) (by decide) (by rw [(Blk.new w1 _ _).cell]; rfl) rfl)
  simp only [Nat.add_zero] at HT
  go_wp2_with (go_at_call 98; have hT := HT.out; (refine hT.mono ?_); rintro e9 w' ⟨rfl, hs⟩)
  go_ret
  exact ⟨rfl, Same.trans (HR.out.alloc _) hs⟩
theorem place_3 {g o : Nat} (w : World) :
    Calls Tryz.prog 73 #[.pointer (some ⟨g, o, none⟩), .int .i64 3] w fun e w' => e = .returned (.pointer (some ⟨g, o + 2, none⟩)) ∧ Same w w' := by
  go_enter Tryz.func73, Tryz.ntmps73
  go_wp2_with fail
  refine wp_region_mixS 15 (by kernel_rfl) (by kernel_rfl) fun Fin hFin => ?_
  simp only [List.take_succ_cons, List.take_zero]
  iterate 15 (
      (refine mix_lit ?_ ?_ (Chg.refl _) ?_ ?_ ?_ ?_; rotate_left 2
       · intro e w1 hR hF K hK; (skip); go_simp; (refine hK _ _ (Chg.refl _ _) ?_; rfl)
       · intro e; simp only [puts]; rfl
       · exact Loc.const _ _))
  refine mix_nil fun e w1 hR hF => hFin _ _ ?_
  simp only [List.drop_succ_cons, List.drop_zero]
  have HR := hide hR
  clear hF hFin hR
  have HT := hide (tindex_ok (b := w1.heap.size) (off := 0) (n := 5) (c := 5) (v := .pointer (some ⟨g, o + 2, none⟩)) 2 (w1.alloc (.cells #[.pointer (some ⟨g, o + 0, none⟩), .pointer (some ⟨g, o + 1, none⟩), .pointer (some ⟨g, o + 2, none⟩), .pointer (some ⟨g, o + 3, none⟩), .pointer (some ⟨g, o + 4, none⟩)] 98)) (by decide) (by rw [(Blk.new w1 _ _).cell]; rfl) rfl)
  simp only [Nat.add_zero] at HT
  go_wp2_with (go_at_call 98; have hT := HT.out; (refine hT.mono ?_); rintro e9 w' ⟨rfl, hs⟩)
  go_ret
  exact ⟨rfl, Same.trans (HR.out.alloc _) hs⟩
theorem place_4 {g o : Nat} (w : World) :
    Calls Tryz.prog 73 #[.pointer (some ⟨g, o, none⟩), .int .i64 4] w fun e w' => e = .returned (.pointer (some ⟨g, o + 3, none⟩)) ∧ Same w w' := by
  go_enter Tryz.func73, Tryz.ntmps73
  go_wp2_with fail
  refine wp_region_mixS 15 (by kernel_rfl) (by kernel_rfl) fun Fin hFin => ?_
  simp only [List.take_succ_cons, List.take_zero]
  iterate 15 (
      (refine mix_lit ?_ ?_ (Chg.refl _) ?_ ?_ ?_ ?_; rotate_left 2
       · intro e w1 hR hF K hK; (skip); go_simp; (refine hK _ _ (Chg.refl _ _) ?_; rfl)
       · intro e; simp only [puts]; rfl
       · exact Loc.const _ _))
  refine mix_nil fun e w1 hR hF => hFin _ _ ?_
  simp only [List.drop_succ_cons, List.drop_zero]
  have HR := hide hR
  clear hF hFin hR
  have HT := hide (tindex_ok (b := w1.heap.size) (off := 0) (n := 5) (c := 5) (v := .pointer (some ⟨g, o + 3, none⟩)) 3 (w1.alloc (.cells #[.pointer (some ⟨g, o + 0, none⟩), .pointer (some ⟨g, o + 1, none⟩), .pointer (some ⟨g, o + 2, none⟩), .pointer (some ⟨g, o + 3, none⟩), .pointer (some ⟨g, o + 4, none⟩)] 98)) (by decide) (by rw [(Blk.new w1 _ _).cell]; rfl) rfl)
  simp only [Nat.add_zero] at HT
  go_wp2_with (go_at_call 98; have hT := HT.out; (refine hT.mono ?_); rintro e9 w' ⟨rfl, hs⟩)
  go_ret
  exact ⟨rfl, Same.trans (HR.out.alloc _) hs⟩
theorem place_5 {g o : Nat} (w : World) :
    Calls Tryz.prog 73 #[.pointer (some ⟨g, o, none⟩), .int .i64 5] w fun e w' => e = .returned (.pointer (some ⟨g, o + 4, none⟩)) ∧ Same w w' := by
  go_enter Tryz.func73, Tryz.ntmps73
  go_wp2_with fail
  refine wp_region_mixS 15 (by kernel_rfl) (by kernel_rfl) fun Fin hFin => ?_
  simp only [List.take_succ_cons, List.take_zero]
  iterate 15 (
      (refine mix_lit ?_ ?_ (Chg.refl _) ?_ ?_ ?_ ?_; rotate_left 2
       · intro e w1 hR hF K hK; (skip); go_simp; (refine hK _ _ (Chg.refl _ _) ?_; rfl)
       · intro e; simp only [puts]; rfl
       · exact Loc.const _ _))
  refine mix_nil fun e w1 hR hF => hFin _ _ ?_
  simp only [List.drop_succ_cons, List.drop_zero]
  have HR := hide hR
  clear hF hFin hR
  have HT := hide (tindex_ok (b := w1.heap.size) (off := 0) (n := 5) (c := 5) (v := .pointer (some ⟨g, o + 4, none⟩)) 4 (w1.alloc (.cells #[.pointer (some ⟨g, o + 0, none⟩), .pointer (some ⟨g, o + 1, none⟩), .pointer (some ⟨g, o + 2, none⟩), .pointer (some ⟨g, o + 3, none⟩), .pointer (some ⟨g, o + 4, none⟩)] 98)) (by decide) (by rw [(Blk.new w1 _ _).cell]; rfl) rfl)
  simp only [Nat.add_zero] at HT
  go_wp2_with (go_at_call 98; have hT := HT.out; (refine hT.mono ?_); rintro e9 w' ⟨rfl, hs⟩)
  go_ret
  exact ⟨rfl, Same.trans (HR.out.alloc _) hs⟩
theorem place_ok {g o : Nat} (k : Int) (w : World) (hk : 1 ≤ k ∧ k ≤ 5) :
    Calls Tryz.prog 73 #[.pointer (some ⟨g, o, none⟩), .int .i64 k] w fun e w' => e = .returned (.pointer (some ⟨g, o + (k - 1).toNat, none⟩)) ∧ Same w w' := by
  have h : k = 1 ∨ k = 2 ∨ k = 3 ∨ k = 4 ∨ k = 5 := by omega
  rcases h with rfl | rfl | rfl | rfl | rfl
  · exact place_1 w
  · exact place_2 w
  · exact place_3 w
  · exact place_4 w
  · exact place_5 w
end Go.Proofs.YtlimpepdelpogaaGreatDoor
/-! HwB -/
namespace Go.Proofs.YtlimpepdelpogaaGreatDoor
open Go.RowKit Go.Al
set_option linter.unusedVariables false
set_option maxHeartbeats 8000000
set_option maxRecDepth 100000
/-- not at most: under a name, so that no simplifier turns it -/
structure NLe (a b : Int) : Prop where
  out : ¬ a ≤ b
theorem WfX.wrap1 {k : Int} (h : inI k) (hk : k < 1 ∨ 5 < k) : IntKind.i64.wrap (k - 1) < 0 ∨ 5 ≤ IntKind.i64.wrap (k - 1) := by
  unfold inI at h
  by_cases h1 : k = -9223372036854775808
  · subst h1
    exact .inr (by decide)
  · rw [IntWalk.i64_in _ (by omega)]
    omega
/-- the reader's state -/
structure RSt (u0 u1 w : World) (g : Nat) (A0 : Option Addr) (N C : Nat) (st : Int) (Ad : Option Addr) (n c : Nat) (ds : List Dd) : Prop where
  blk : Blk w g 108 #[.slice A0 N C, .slice Ad n c, .int .i64 st]
  own : w.ownsRow u1.heap.size 79 29 (.slice Ad n c) n (flatD ds)
  len : ds.length = n
  same : Same u0 w
  frm : Chg (· = g) u1 w
  rep : ∀ d ∈ ds, RpAt u0 d.t
def TakeBad (u0 u1 : World) (g : Nat) (e : Ending) (w' : World) : Prop := (∃ c, e = .panicked (fault 0 c)) ∧ Same u0 w' ∧ Chg (· = g) u1 w'
def TakeOk (u0 u1 : World) (g : Nat) (A0 : Option Addr) (N C : Nat) (st : Int) (ds : List Dd) (e : Ending) (w' : World) : Prop := e = .returned (.tuple #[]) ∧ ∃ Ad n c, RSt u0 u1 w' g A0 N C st Ad n c ds
theorem TakeBad.mk {u0 u1 w w' : World} {g : Nat} {c : Int} (h0 : Same u0 w) (h1 : Chg (· = g) u1 w) (h : Chg (· = g) w w') (hg : u0.heap.size ≤ g := by assumption) : TakeBad u0 u1 g (.panicked (fault 0 c)) w' :=
  ⟨⟨c, rfl⟩, Chg.fresh (S := fun k => k = g) (h0.to.trans h fun _ _ e => e) (fun k e => by subst e; exact hg), h1.trans h fun _ _ e => e⟩
theorem RSt.move {u0 u1 w w' : World} {g : Nat} {A0 Ad : Option Addr} {N C n c : Nat} {st st' : Int} {ds : List Dd} (h : RSt u0 u1 w g A0 N C st Ad n c ds) (hg0 : u0.heap.size ≤ g) (hg1 : g < u1.heap.size) (hc : Chg (· = g) w w') (hb : Blk w' g 108 #[.slice A0 N C, .slice Ad n c, .int .i64 st']) : RSt u0 u1 w' g A0 N C st' Ad n c ds :=
  ⟨hb, own_chg h.own hc fun b hb' e => by have := (h.own.lt b hb').1; omega, h.len, Chg.fresh (S := fun k => k = g) (h.same.to.trans hc fun _ _ e => e) (fun k e => by subst e; exact hg0), h.frm.trans hc fun _ _ e => e, h.rep⟩
/-- one operation written -/
theorem RSt.put {u0 u1 w w' : World} {g gd : Nat} {A0 : Option Addr} {N C n c j : Nat} {st : Int} {ds : List Dd} {d' : Dd} (h : RSt u0 u1 w g A0 N C st (some ⟨gd, 0, none⟩) n c ds) (hg0 : u0.heap.size ≤ g) (hg1 : g < u1.heap.size) (hgd : u1.heap.size ≤ gd)
    (hc : Chg (· = gd) w w') (ho : w'.ownsRow u1.heap.size 79 29 (.slice (some ⟨gd, 0, none⟩) n c) n (flatD (ds.set j d'))) (hr : RpAt u0 d'.t) : RSt u0 u1 w' g A0 N C st (some ⟨gd, 0, none⟩) n c (ds.set j d') :=
  ⟨h.blk.chg hc (by omega), ho, by rw [List.length_set]; exact h.len,
    Chg.fresh (S := fun k => k = gd) (h.same.to.trans hc fun _ _ e => e) (fun k e => by subst e; omega),
    h.frm.trans hc (fun k hk e => by omega),
    fun d hd => by rcases List.mem_or_eq_of_mem_set hd with hd | rfl; exact h.rep d hd; exact hr⟩
/-- an event's numbers are ints -/
structure WfX (x : Ev) : Prop where
  k : inI x.k
  op : inI x.op
theorem take_a {u0 u1 : World} {g : Nat} {A0 Ad : Option Addr} {N C n c : Nat} {st : Int} {all : List Ev} {ds : List Dd} (i : Nat) (x : Ev) (w : World) (hN : all.length = N) (hN4 : N ≤ 64) (hn : n ≤ 64) (hi : i < N) (hg0 : u0.heap.size ≤ g) (hg1 : g < u1.heap.size) (hs : RSt u0 u1 w g A0 N C st Ad n c ds) (ha : Evs u0 A0 all) (he : RpAt u0 x.t) (hv : ∀ d ∈ ds, InvD all i d) (hx : WfX x) (h1 : ¬ st ≤ x.st) :
    Calls Tryz.prog 41 #[.pointer (some ⟨g, 0, none⟩), .int .i64 (i : Int), evV x] w (TakeBad u0 u1 g) := by
  have HSt := hide hs
  obtain ⟨hblk, hown, hlen, hsame, hfrom, hrep⟩ := hs
  have hgw : g < w.heap.size := hblk.lt
  have hne : ¬ g = w.heap.size := by omega
  have hne' : ¬ w.heap.size = g := by omega
  have Hs1 := hide ((Chg.refl (fun _ => False) w).alloc (.cells (evL x).toArray 45))
  have Hb1 := hide (Blk.new w 45 (evL x).toArray)
  have Hk1 := hide (hblk.alloc (.cells (evL x).toArray 45))
  have Hsm := hide hsame
  have Hfr := hide hfrom
  have Hg0 := hide hg0
  have Hg1 := hide hg1
  have Hev := hide ha
  have Hxt := hide he
  have Hin := hide hv
  have HN := hide hN
  have HN4 := hide hN4
  have Hi := hide hi
  have Hreq := hide (fun (w' : World) (b : Nat) (t : TypeId) (h : Blk w' b t (evL x).toArray) => ev_req h)
  have Hrep := hide (fun (w' : World) (b : Nat) (t : TypeId) (h : Blk w' b t (evL x).toArray) => ev_rep h)
  have HLl := hide (evL_length x)
  have HLo := hide (one_evL x)
  have HRl := hide (rqL_length x.r)
  have c0 : (evL x)[0]? = some (.int .i64 x.k) := rfl
  have c1 : (evL x)[1]? = some (.int .i64 x.st) := rfl
  have c2 : (evL x)[2]? = some (.int .i64 x.ss) := rfl
  have c3 : (evL x)[3]? = some (.int .i64 x.op) := rfl
  have c22 : (evL x)[22]? = some (.int .i64 x.t.e) := rfl
  have HF := hide (fun w' => fresh_any x w')
  have hwn : IntKind.i64.wrap ((n : Int) + 1) = (n : Int) + 1 := IntWalk.i64_in _ (by omega)
  unfold evV at HF ⊢
  clear hown hsame hfrom hrep hlen hg0 hg1 ha he hv hblk hN hN4 hi
  obtain ⟨k, hk⟩ : ∃ k, x.k = k := ⟨_, rfl⟩
  obtain ⟨xs, hxs⟩ : ∃ k, x.st = k := ⟨_, rfl⟩
  obtain ⟨ss, hss⟩ : ∃ k, x.ss = k := ⟨_, rfl⟩
  obtain ⟨te, hte⟩ : ∃ k, x.t.e = k := ⟨_, rfl⟩
  rw [hk] at c0
  rw [hxs] at c1
  rw [hss] at c2
  rw [hte] at c22
  rw [hxs] at h1
  have H1 : NLe st xs := ⟨h1⟩
  clear h1
  have Hk := hide hk
  have Hxs := hide hxs
  have Hss := hide hss
  have Hte := hide hte
  clear hk hxs hss hte
  generalize evL x = L at *
  obtain ⟨op, hop⟩ : ∃ k, x.op = k := ⟨_, rfl⟩
  rw [hop] at c3 
  clear hop
  go_enter Tryz.func41, Tryz.ntmps41
  go_wp2_with fail
  refine wp_region_mixS 23 (by kernel_rfl) (by kernel_rfl) fun Fin hFin => ?_
  simp only [List.take_succ_cons, List.take_zero]
  iterate 23 (
      (refine mix_lit ?_ ?_ (Chg.refl _) ?_ ?_ ?_ ?_; rotate_left 2
       · intro e w1 hR hF K hK; (have hcb := (Hb1.out.same hR).cell; have hkb := (Hk1.out.same hR).cell; have h1 := H1.out); go_simp; (refine hK _ _ (Chg.refl _ _) ?_; rfl)
       · intro e; simp only [puts]; rfl
       · exact Loc.const _ _))
  refine mix_nil fun e wa hR hF => hFin _ _ ?_
  simp only [List.drop_succ_cons, List.drop_zero]
  have HSa := hide (Same.trans Hs1.out hR)
  have Hba := hide (Hb1.out.same hR)
  have Hka := hide (Hk1.out.same hR)
  clear hF hFin hR Hs1 Hb1 Hk1
  go_wp2_with (first
    | (go_at_call 71; (with_reducible refine (hmust_bad _).mono ?_); rintro e9 w9 ⟨rfl, rfl⟩)
    | fail)
  exact ⟨rfl, TakeBad.mk Hsm.out Hfr.out (Same.to HSa.out)⟩
theorem take_b {u0 u1 : World} {g : Nat} {A0 Ad : Option Addr} {N C n c : Nat} {st : Int} {all : List Ev} {ds : List Dd} (i : Nat) (x : Ev) (w : World) (hN : all.length = N) (hN4 : N ≤ 64) (hn : n ≤ 64) (hi : i < N) (hg0 : u0.heap.size ≤ g) (hg1 : g < u1.heap.size) (hs : RSt u0 u1 w g A0 N C st Ad n c ds) (ha : Evs u0 A0 all) (he : RpAt u0 x.t) (hv : ∀ d ∈ ds, InvD all i d) (hx : WfX x) (h1 : st ≤ x.st) (h2 : ¬ 0 ≤ x.op) :
    Calls Tryz.prog 41 #[.pointer (some ⟨g, 0, none⟩), .int .i64 (i : Int), evV x] w (TakeBad u0 u1 g) := by
  have HSt := hide hs
  obtain ⟨hblk, hown, hlen, hsame, hfrom, hrep⟩ := hs
  have hgw : g < w.heap.size := hblk.lt
  have hne : ¬ g = w.heap.size := by omega
  have hne' : ¬ w.heap.size = g := by omega
  have Hs1 := hide ((Chg.refl (fun _ => False) w).alloc (.cells (evL x).toArray 45))
  have Hb1 := hide (Blk.new w 45 (evL x).toArray)
  have Hk1 := hide (hblk.alloc (.cells (evL x).toArray 45))
  have Hsm := hide hsame
  have Hfr := hide hfrom
  have Hg0 := hide hg0
  have Hg1 := hide hg1
  have Hev := hide ha
  have Hxt := hide he
  have Hin := hide hv
  have HN := hide hN
  have HN4 := hide hN4
  have Hi := hide hi
  have Hreq := hide (fun (w' : World) (b : Nat) (t : TypeId) (h : Blk w' b t (evL x).toArray) => ev_req h)
  have Hrep := hide (fun (w' : World) (b : Nat) (t : TypeId) (h : Blk w' b t (evL x).toArray) => ev_rep h)
  have HLl := hide (evL_length x)
  have HLo := hide (one_evL x)
  have HRl := hide (rqL_length x.r)
  have c0 : (evL x)[0]? = some (.int .i64 x.k) := rfl
  have c1 : (evL x)[1]? = some (.int .i64 x.st) := rfl
  have c2 : (evL x)[2]? = some (.int .i64 x.ss) := rfl
  have c3 : (evL x)[3]? = some (.int .i64 x.op) := rfl
  have c22 : (evL x)[22]? = some (.int .i64 x.t.e) := rfl
  have HF := hide (fun w' => fresh_any x w')
  have hwn : IntKind.i64.wrap ((n : Int) + 1) = (n : Int) + 1 := IntWalk.i64_in _ (by omega)
  unfold evV at HF ⊢
  clear hown hsame hfrom hrep hlen hg0 hg1 ha he hv hblk hN hN4 hi
  obtain ⟨k, hk⟩ : ∃ k, x.k = k := ⟨_, rfl⟩
  obtain ⟨xs, hxs⟩ : ∃ k, x.st = k := ⟨_, rfl⟩
  obtain ⟨ss, hss⟩ : ∃ k, x.ss = k := ⟨_, rfl⟩
  obtain ⟨te, hte⟩ : ∃ k, x.t.e = k := ⟨_, rfl⟩
  rw [hk] at c0
  rw [hxs] at c1
  rw [hss] at c2
  rw [hte] at c22
  rw [hxs] at h1
  have Hk := hide hk
  have Hxs := hide hxs
  have Hss := hide hss
  have Hte := hide hte
  clear hk hxs hss hte
  generalize evL x = L at *
  obtain ⟨op, hop⟩ : ∃ k, x.op = k := ⟨_, rfl⟩
  rw [hop] at c3 h2
  clear hop
  have H2 : NLe 0 op := ⟨h2⟩
  clear h2
  go_enter Tryz.func41, Tryz.ntmps41
  go_wp2_with fail
  refine wp_region_mixS 23 (by kernel_rfl) (by kernel_rfl) fun Fin hFin => ?_
  simp only [List.take_succ_cons, List.take_zero]
  iterate 23 (
      (refine mix_lit ?_ ?_ (Chg.refl _) ?_ ?_ ?_ ?_; rotate_left 2
       · intro e w1 hR hF K hK; (have hcb := (Hb1.out.same hR).cell; have hkb := (Hk1.out.same hR).cell; have h2 := H2.out); go_simp; (refine hK _ _ (Chg.refl _ _) ?_; rfl)
       · intro e; simp only [puts]; rfl
       · exact Loc.const _ _))
  refine mix_nil fun e wa hR hF => hFin _ _ ?_
  simp only [List.drop_succ_cons, List.drop_zero]
  have HSa := hide (Same.trans Hs1.out hR)
  have Hba := hide (Hb1.out.same hR)
  have Hka := hide (Hk1.out.same hR)
  clear hF hFin hR Hs1 Hb1 Hk1
  go_wp2_with (first
    | (go_at_call 71; (with_reducible refine (hmust_bad _).mono ?_); rintro e9 w9 ⟨rfl, rfl⟩)
    | fail)
  exact ⟨rfl, TakeBad.mk Hsm.out Hfr.out (Same.to HSa.out)⟩
theorem take_c {u0 u1 : World} {g : Nat} {A0 Ad : Option Addr} {N C n c : Nat} {st : Int} {all : List Ev} {ds : List Dd} (i : Nat) (x : Ev) (w : World) (hN : all.length = N) (hN4 : N ≤ 64) (hn : n ≤ 64) (hi : i < N) (hg0 : u0.heap.size ≤ g) (hg1 : g < u1.heap.size) (hs : RSt u0 u1 w g A0 N C st Ad n c ds) (ha : Evs u0 A0 all) (he : RpAt u0 x.t) (hv : ∀ d ∈ ds, InvD all i d) (hx : WfX x) (h1 : st ≤ x.st) (h2 : 0 ≤ x.op) (h3 : ¬ x.op ≤ (n : Int) + 1) :
    Calls Tryz.prog 41 #[.pointer (some ⟨g, 0, none⟩), .int .i64 (i : Int), evV x] w (TakeBad u0 u1 g) := by
  have HSt := hide hs
  obtain ⟨hblk, hown, hlen, hsame, hfrom, hrep⟩ := hs
  have hgw : g < w.heap.size := hblk.lt
  have hne : ¬ g = w.heap.size := by omega
  have hne' : ¬ w.heap.size = g := by omega
  have Hs1 := hide ((Chg.refl (fun _ => False) w).alloc (.cells (evL x).toArray 45))
  have Hb1 := hide (Blk.new w 45 (evL x).toArray)
  have Hk1 := hide (hblk.alloc (.cells (evL x).toArray 45))
  have Hsm := hide hsame
  have Hfr := hide hfrom
  have Hg0 := hide hg0
  have Hg1 := hide hg1
  have Hev := hide ha
  have Hxt := hide he
  have Hin := hide hv
  have HN := hide hN
  have HN4 := hide hN4
  have Hi := hide hi
  have Hreq := hide (fun (w' : World) (b : Nat) (t : TypeId) (h : Blk w' b t (evL x).toArray) => ev_req h)
  have Hrep := hide (fun (w' : World) (b : Nat) (t : TypeId) (h : Blk w' b t (evL x).toArray) => ev_rep h)
  have HLl := hide (evL_length x)
  have HLo := hide (one_evL x)
  have HRl := hide (rqL_length x.r)
  have c0 : (evL x)[0]? = some (.int .i64 x.k) := rfl
  have c1 : (evL x)[1]? = some (.int .i64 x.st) := rfl
  have c2 : (evL x)[2]? = some (.int .i64 x.ss) := rfl
  have c3 : (evL x)[3]? = some (.int .i64 x.op) := rfl
  have c22 : (evL x)[22]? = some (.int .i64 x.t.e) := rfl
  have HF := hide (fun w' => fresh_any x w')
  have hwn : IntKind.i64.wrap ((n : Int) + 1) = (n : Int) + 1 := IntWalk.i64_in _ (by omega)
  unfold evV at HF ⊢
  clear hown hsame hfrom hrep hlen hg0 hg1 ha he hv hblk hN hN4 hi
  obtain ⟨k, hk⟩ : ∃ k, x.k = k := ⟨_, rfl⟩
  obtain ⟨xs, hxs⟩ : ∃ k, x.st = k := ⟨_, rfl⟩
  obtain ⟨ss, hss⟩ : ∃ k, x.ss = k := ⟨_, rfl⟩
  obtain ⟨te, hte⟩ : ∃ k, x.t.e = k := ⟨_, rfl⟩
  rw [hk] at c0
  rw [hxs] at c1
  rw [hss] at c2
  rw [hte] at c22
  rw [hxs] at h1
  have Hk := hide hk
  have Hxs := hide hxs
  have Hss := hide hss
  have Hte := hide hte
  clear hk hxs hss hte
  generalize evL x = L at *
  obtain ⟨op, hop⟩ : ∃ k, x.op = k := ⟨_, rfl⟩
  rw [hop] at c3 h2 h3
  clear hop
  have H3 : NLe op ((n : Int) + 1) := ⟨h3⟩
  clear h3
  go_enter Tryz.func41, Tryz.ntmps41
  go_wp2_with fail
  refine wp_region_mixS 23 (by kernel_rfl) (by kernel_rfl) fun Fin hFin => ?_
  simp only [List.take_succ_cons, List.take_zero]
  iterate 23 (
      (refine mix_lit ?_ ?_ (Chg.refl _) ?_ ?_ ?_ ?_; rotate_left 2
       · intro e w1 hR hF K hK; (have hcb := (Hb1.out.same hR).cell; have hkb := (Hk1.out.same hR).cell; have h3 := H3.out); go_simp; (refine hK _ _ (Chg.refl _ _) ?_; rfl)
       · intro e; simp only [puts]; rfl
       · exact Loc.const _ _))
  refine mix_nil fun e wa hR hF => hFin _ _ ?_
  simp only [List.drop_succ_cons, List.drop_zero]
  have HSa := hide (Same.trans Hs1.out hR)
  have Hba := hide (Hb1.out.same hR)
  have Hka := hide (Hk1.out.same hR)
  clear hF hFin hR Hs1 Hb1 Hk1
  go_wp2_with (first
    | (go_at_call 71; (with_reducible refine (hmust_bad _).mono ?_); rintro e9 w9 ⟨rfl, rfl⟩)
    | fail)
  exact ⟨rfl, TakeBad.mk Hsm.out Hfr.out (Same.to HSa.out)⟩
theorem take_d1 {u0 u1 : World} {g : Nat} {A0 Ad : Option Addr} {N C n c : Nat} {st : Int} {all : List Ev} {ds : List Dd} (i : Nat) (x : Ev) (w : World) (hN : all.length = N) (hN4 : N ≤ 64) (hn : n ≤ 64) (hi : i < N) (hg0 : u0.heap.size ≤ g) (hg1 : g < u1.heap.size) (hs : RSt u0 u1 w g A0 N C st Ad n c ds) (ha : Evs u0 A0 all) (he : RpAt u0 x.t) (hv : ∀ d ∈ ds, InvD all i d) (hx : WfX x) (h1 : st ≤ x.st) (h2 : x.op = 0) (h3 : ¬ x.k = 5) :
    Calls Tryz.prog 41 #[.pointer (some ⟨g, 0, none⟩), .int .i64 (i : Int), evV x] w (TakeBad u0 u1 g) := by
  have HSt := hide hs
  obtain ⟨hblk, hown, hlen, hsame, hfrom, hrep⟩ := hs
  have hgw : g < w.heap.size := hblk.lt
  have hne : ¬ g = w.heap.size := by omega
  have hne' : ¬ w.heap.size = g := by omega
  have Hs1 := hide ((Chg.refl (fun _ => False) w).alloc (.cells (evL x).toArray 45))
  have Hb1 := hide (Blk.new w 45 (evL x).toArray)
  have Hk1 := hide (hblk.alloc (.cells (evL x).toArray 45))
  have Hsm := hide hsame
  have Hfr := hide hfrom
  have Hg0 := hide hg0
  have Hg1 := hide hg1
  have Hev := hide ha
  have Hxt := hide he
  have Hin := hide hv
  have HN := hide hN
  have HN4 := hide hN4
  have Hi := hide hi
  have Hreq := hide (fun (w' : World) (b : Nat) (t : TypeId) (h : Blk w' b t (evL x).toArray) => ev_req h)
  have Hrep := hide (fun (w' : World) (b : Nat) (t : TypeId) (h : Blk w' b t (evL x).toArray) => ev_rep h)
  have HLl := hide (evL_length x)
  have HLo := hide (one_evL x)
  have HRl := hide (rqL_length x.r)
  have c0 : (evL x)[0]? = some (.int .i64 x.k) := rfl
  have c1 : (evL x)[1]? = some (.int .i64 x.st) := rfl
  have c2 : (evL x)[2]? = some (.int .i64 x.ss) := rfl
  have c3 : (evL x)[3]? = some (.int .i64 x.op) := rfl
  have c22 : (evL x)[22]? = some (.int .i64 x.t.e) := rfl
  have HF := hide (fun w' => fresh_any x w')
  have hwn : IntKind.i64.wrap ((n : Int) + 1) = (n : Int) + 1 := IntWalk.i64_in _ (by omega)
  unfold evV at HF ⊢
  clear hown hsame hfrom hrep hlen hg0 hg1 ha he hv hblk hN hN4 hi
  obtain ⟨k, hk⟩ : ∃ k, x.k = k := ⟨_, rfl⟩
  obtain ⟨xs, hxs⟩ : ∃ k, x.st = k := ⟨_, rfl⟩
  obtain ⟨ss, hss⟩ : ∃ k, x.ss = k := ⟨_, rfl⟩
  obtain ⟨te, hte⟩ : ∃ k, x.t.e = k := ⟨_, rfl⟩
  rw [hk] at c0
  rw [hxs] at c1
  rw [hss] at c2
  rw [hte] at c22
  rw [hxs] at h1
  rw [hk] at h3
  have h3' : (k == 5) = false := by simpa using h3
  have Hk := hide hk
  have Hxs := hide hxs
  have Hss := hide hss
  have Hte := hide hte
  clear hk hxs hss hte
  generalize evL x = L at *
  rw [h2] at c3
  have hn0 : (0 : Int) ≤ (n : Int) + 1 := by omega
  go_enter Tryz.func41, Tryz.ntmps41
  go_wp2_with fail
  refine wp_region_mixS 23 (by kernel_rfl) (by kernel_rfl) fun Fin hFin => ?_
  simp only [List.take_succ_cons, List.take_zero]
  iterate 23 (
      (refine mix_lit ?_ ?_ (Chg.refl _) ?_ ?_ ?_ ?_; rotate_left 2
       · intro e w1 hR hF K hK; (have hcb := (Hb1.out.same hR).cell; have hkb := (Hk1.out.same hR).cell); go_simp; (refine hK _ _ (Chg.refl _ _) ?_; rfl)
       · intro e; simp only [puts]; rfl
       · exact Loc.const _ _))
  refine mix_nil fun e wa hR hF => hFin _ _ ?_
  simp only [List.drop_succ_cons, List.drop_zero]
  have HSa := hide (Same.trans Hs1.out hR)
  have Hba := hide (Hb1.out.same hR)
  have Hka := hide (Hk1.out.same hR)
  clear hF hFin hR Hs1 Hb1 Hk1
  have hcb := Hba.out.cell
  have hkb := Hka.out.cell
  have hfk := Hka.out.frozen
  go_wp2_with (first
    | (go_at_call 71; (with_reducible refine (hmust_ok _).mono ?_); rintro e9 w9 ⟨rfl, rfl⟩)
    | (go_at_call 71; (with_reducible refine (hmust_bad _).mono ?_); rintro e9 w9 ⟨rfl, rfl⟩)
    | fail)
  exact ⟨rfl, TakeBad.mk Hsm.out Hfr.out ((Same.to HSa.out : Chg (· = g) w wa).set1 _ _)⟩
theorem take_d2 {u0 u1 : World} {g : Nat} {A0 Ad : Option Addr} {N C n c : Nat} {st : Int} {all : List Ev} {ds : List Dd} (i : Nat) (x : Ev) (w : World) (hN : all.length = N) (hN4 : N ≤ 64) (hn : n ≤ 64) (hi : i < N) (hg0 : u0.heap.size ≤ g) (hg1 : g < u1.heap.size) (hs : RSt u0 u1 w g A0 N C st Ad n c ds) (ha : Evs u0 A0 all) (he : RpAt u0 x.t) (hv : ∀ d ∈ ds, InvD all i d) (hx : WfX x) (h1 : st ≤ x.st) (h2 : x.op = 0) (h3 : x.k = 5) (h4 : ¬ x.t.e = 8) :
    Calls Tryz.prog 41 #[.pointer (some ⟨g, 0, none⟩), .int .i64 (i : Int), evV x] w (TakeBad u0 u1 g) := by
  have HSt := hide hs
  obtain ⟨hblk, hown, hlen, hsame, hfrom, hrep⟩ := hs
  have hgw : g < w.heap.size := hblk.lt
  have hne : ¬ g = w.heap.size := by omega
  have hne' : ¬ w.heap.size = g := by omega
  have Hs1 := hide ((Chg.refl (fun _ => False) w).alloc (.cells (evL x).toArray 45))
  have Hb1 := hide (Blk.new w 45 (evL x).toArray)
  have Hk1 := hide (hblk.alloc (.cells (evL x).toArray 45))
  have Hsm := hide hsame
  have Hfr := hide hfrom
  have Hg0 := hide hg0
  have Hg1 := hide hg1
  have Hev := hide ha
  have Hxt := hide he
  have Hin := hide hv
  have HN := hide hN
  have HN4 := hide hN4
  have Hi := hide hi
  have Hreq := hide (fun (w' : World) (b : Nat) (t : TypeId) (h : Blk w' b t (evL x).toArray) => ev_req h)
  have Hrep := hide (fun (w' : World) (b : Nat) (t : TypeId) (h : Blk w' b t (evL x).toArray) => ev_rep h)
  have HLl := hide (evL_length x)
  have HLo := hide (one_evL x)
  have HRl := hide (rqL_length x.r)
  have c0 : (evL x)[0]? = some (.int .i64 x.k) := rfl
  have c1 : (evL x)[1]? = some (.int .i64 x.st) := rfl
  have c2 : (evL x)[2]? = some (.int .i64 x.ss) := rfl
  have c3 : (evL x)[3]? = some (.int .i64 x.op) := rfl
  have c22 : (evL x)[22]? = some (.int .i64 x.t.e) := rfl
  have HF := hide (fun w' => fresh_any x w')
  have hwn : IntKind.i64.wrap ((n : Int) + 1) = (n : Int) + 1 := IntWalk.i64_in _ (by omega)
  unfold evV at HF ⊢
  clear hown hsame hfrom hrep hlen hg0 hg1 ha he hv hblk hN hN4 hi
  obtain ⟨k, hk⟩ : ∃ k, x.k = k := ⟨_, rfl⟩
  obtain ⟨xs, hxs⟩ : ∃ k, x.st = k := ⟨_, rfl⟩
  obtain ⟨ss, hss⟩ : ∃ k, x.ss = k := ⟨_, rfl⟩
  obtain ⟨te, hte⟩ : ∃ k, x.t.e = k := ⟨_, rfl⟩
  rw [hk] at c0
  rw [hxs] at c1
  rw [hss] at c2
  rw [hte] at c22
  rw [hxs] at h1
  rw [hk] at h3
  subst h3
  rw [hte] at h4
  have h4' : (te == 8) = false := by simpa using h4
  have Hk := hide hk
  have Hxs := hide hxs
  have Hss := hide hss
  have Hte := hide hte
  clear hk hxs hss hte
  generalize evL x = L at *
  rw [h2] at c3
  have hn0 : (0 : Int) ≤ (n : Int) + 1 := by omega
  go_enter Tryz.func41, Tryz.ntmps41
  go_wp2_with fail
  refine wp_region_mixS 23 (by kernel_rfl) (by kernel_rfl) fun Fin hFin => ?_
  simp only [List.take_succ_cons, List.take_zero]
  iterate 23 (
      (refine mix_lit ?_ ?_ (Chg.refl _) ?_ ?_ ?_ ?_; rotate_left 2
       · intro e w1 hR hF K hK; (have hcb := (Hb1.out.same hR).cell; have hkb := (Hk1.out.same hR).cell); go_simp; (refine hK _ _ (Chg.refl _ _) ?_; rfl)
       · intro e; simp only [puts]; rfl
       · exact Loc.const _ _))
  refine mix_nil fun e wa hR hF => hFin _ _ ?_
  simp only [List.drop_succ_cons, List.drop_zero]
  have HSa := hide (Same.trans Hs1.out hR)
  have Hba := hide (Hb1.out.same hR)
  have Hka := hide (Hk1.out.same hR)
  clear hF hFin hR Hs1 Hb1 Hk1
  have hcb := Hba.out.cell
  have hkb := Hka.out.cell
  have hfk := Hka.out.frozen
  go_wp2_with (first
    | (go_at_call 71; (with_reducible refine (hmust_ok _).mono ?_); rintro e9 w9 ⟨rfl, rfl⟩)
    | (go_at_call 71; (with_reducible refine (hmust_bad _).mono ?_); rintro e9 w9 ⟨rfl, rfl⟩)
    | fail)
  exact ⟨rfl, TakeBad.mk Hsm.out Hfr.out ((Same.to HSa.out : Chg (· = g) w wa).set1 _ _)⟩
theorem take_d3 {u0 u1 : World} {g : Nat} {A0 Ad : Option Addr} {N C n c : Nat} {st : Int} {all : List Ev} {ds : List Dd} (i : Nat) (x : Ev) (w : World) (hN : all.length = N) (hN4 : N ≤ 64) (hn : n ≤ 64) (hi : i < N) (hg0 : u0.heap.size ≤ g) (hg1 : g < u1.heap.size) (hs : RSt u0 u1 w g A0 N C st Ad n c ds) (ha : Evs u0 A0 all) (he : RpAt u0 x.t) (hv : ∀ d ∈ ds, InvD all i d) (hx : WfX x) (h1 : st ≤ x.st) (h2 : x.op = 0) (h3 : x.k = 5) (h4 : x.t.e = 8) :
    Calls Tryz.prog 41 #[.pointer (some ⟨g, 0, none⟩), .int .i64 (i : Int), evV x] w (TakeOk u0 u1 g A0 N C x.st ds) := by
  have HSt := hide hs
  obtain ⟨hblk, hown, hlen, hsame, hfrom, hrep⟩ := hs
  have hgw : g < w.heap.size := hblk.lt
  have hne : ¬ g = w.heap.size := by omega
  have hne' : ¬ w.heap.size = g := by omega
  have Hs1 := hide ((Chg.refl (fun _ => False) w).alloc (.cells (evL x).toArray 45))
  have Hb1 := hide (Blk.new w 45 (evL x).toArray)
  have Hk1 := hide (hblk.alloc (.cells (evL x).toArray 45))
  have Hsm := hide hsame
  have Hfr := hide hfrom
  have Hg0 := hide hg0
  have Hg1 := hide hg1
  have Hev := hide ha
  have Hxt := hide he
  have Hin := hide hv
  have HN := hide hN
  have HN4 := hide hN4
  have Hi := hide hi
  have Hreq := hide (fun (w' : World) (b : Nat) (t : TypeId) (h : Blk w' b t (evL x).toArray) => ev_req h)
  have Hrep := hide (fun (w' : World) (b : Nat) (t : TypeId) (h : Blk w' b t (evL x).toArray) => ev_rep h)
  have HLl := hide (evL_length x)
  have HLo := hide (one_evL x)
  have HRl := hide (rqL_length x.r)
  have c0 : (evL x)[0]? = some (.int .i64 x.k) := rfl
  have c1 : (evL x)[1]? = some (.int .i64 x.st) := rfl
  have c2 : (evL x)[2]? = some (.int .i64 x.ss) := rfl
  have c3 : (evL x)[3]? = some (.int .i64 x.op) := rfl
  have c22 : (evL x)[22]? = some (.int .i64 x.t.e) := rfl
  have HF := hide (fun w' => fresh_any x w')
  have hwn : IntKind.i64.wrap ((n : Int) + 1) = (n : Int) + 1 := IntWalk.i64_in _ (by omega)
  unfold evV at HF ⊢
  clear hown hsame hfrom hrep hlen hg0 hg1 ha he hv hblk hN hN4 hi
  obtain ⟨k, hk⟩ : ∃ k, x.k = k := ⟨_, rfl⟩
  obtain ⟨xs, hxs⟩ : ∃ k, x.st = k := ⟨_, rfl⟩
  obtain ⟨ss, hss⟩ : ∃ k, x.ss = k := ⟨_, rfl⟩
  obtain ⟨te, hte⟩ : ∃ k, x.t.e = k := ⟨_, rfl⟩
  rw [hk] at c0
  rw [hxs] at c1
  rw [hss] at c2
  rw [hte] at c22
  rw [hxs] at h1
  rw [hk] at h3
  subst h3
  rw [hte] at h4
  subst h4
  have Hk := hide hk
  have Hxs := hide hxs
  have Hss := hide hss
  have Hte := hide hte
  clear hk hxs hss hte
  generalize evL x = L at *
  rw [h2] at c3
  have hn0 : (0 : Int) ≤ (n : Int) + 1 := by omega
  go_enter Tryz.func41, Tryz.ntmps41
  go_wp2_with fail
  refine wp_region_mixS 23 (by kernel_rfl) (by kernel_rfl) fun Fin hFin => ?_
  simp only [List.take_succ_cons, List.take_zero]
  iterate 23 (
      (refine mix_lit ?_ ?_ (Chg.refl _) ?_ ?_ ?_ ?_; rotate_left 2
       · intro e w1 hR hF K hK; (have hcb := (Hb1.out.same hR).cell; have hkb := (Hk1.out.same hR).cell); go_simp; (refine hK _ _ (Chg.refl _ _) ?_; rfl)
       · intro e; simp only [puts]; rfl
       · exact Loc.const _ _))
  refine mix_nil fun e wa hR hF => hFin _ _ ?_
  simp only [List.drop_succ_cons, List.drop_zero]
  have HSa := hide (Same.trans Hs1.out hR)
  have Hba := hide (Hb1.out.same hR)
  have Hka := hide (Hk1.out.same hR)
  clear hF hFin hR Hs1 Hb1 Hk1
  have hcb := Hba.out.cell
  have hkb := Hka.out.cell
  have hfk := Hka.out.frozen
  go_wp2_with (first
    | (go_at_call 71; (with_reducible refine (hmust_ok _).mono ?_); rintro e9 w9 ⟨rfl, rfl⟩)
    | (go_at_call 71; (with_reducible refine (hmust_bad _).mono ?_); rintro e9 w9 ⟨rfl, rfl⟩)
    | fail)
  refine bodyPost_ret (results_none rfl _ _ _) rfl ?_
  rw [Hxs.out]
  exact ⟨rfl, _, _, _, HSt.out.move Hg0.out Hg1.out ((Same.to HSa.out : Chg (· = g) w wa).set1 _ _) (by have := Hka.out.set_ 2 (.int .i64 xs); simpa using this)⟩
end Go.Proofs.YtlimpepdelpogaaGreatDoor
