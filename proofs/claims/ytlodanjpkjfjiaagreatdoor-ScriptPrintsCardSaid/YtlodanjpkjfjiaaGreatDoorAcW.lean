/-
  Acts in memory: 22 cells. No conditions.
  trap.Must at a request; script.good. No conditions.
  script.reader.request. Conditions: Go's errors and the table of white space are laid; words of a sound length, not too many.
  script.writer: a number. Conditions: Go's table of powers of ten is laid; not too many words.
  An act's cells in memory: one changed, a request put in its middle; a reader beside it. No conditions.
-/
import Derived.Test.YtlodanjpkjfjiaaGreatDoorScP
import Derived.Test.YtlodanjpkjfjiaaGreatDoorCdL
import Derived.Test.YtlodanjpkjfjiaaGreatDoorScU
import Derived.Test.YtlodanjpkjfjiaaGreatDoorCdD
import Derived.Lib.AtoiAllCases
import Derived.Lib.SlicesS

import Derived.Test.YtlodanjpkjfjiaaGreatDoorCdG

/-! AcM -/
namespace Go.Proofs.YtlodanjpkjfjiaaGreatDoor
open Go.RowKit Go.Al
set_option linter.unusedVariables false

theorem infoAct : (Tryz.prog.info? 38).map (·.size) = some 22 := by kernel_rfl
/-- an act's cells, its bytes' slice at A with capacity c -/
def acL (a : Ac) (A : Option Addr) (c : Nat) : List Value := [.int .i64 a.k, .int .i64 a.id, .int .i64 a.n] ++ rqL a.r ++ [.slice A a.b.length c]
def acV (a : Ac) (A : Option Addr) (c : Nat) : Value := .agg (acL a A c).toArray
theorem acL_len (a : Ac) (A : Option Addr) (c : Nat) : (acL a A c).length = 22 := rfl
end Go.Proofs.YtlodanjpkjfjiaaGreatDoor
/-! CdM -/
namespace Go.Proofs.YtlodanjpkjfjiaaGreatDoor
open Go.RowKit Go.Al
set_option linter.unusedVariables false

set_option maxRecDepth 100000 in
set_option maxHeartbeats 4000000 in
theorem mustR_ok (r : Rq) (w : World) :
    Calls Tryz.prog 77 #[rqV r, .int .i64 0] w fun e w' => e = .returned (rqV r) ∧ Same w w' := by
  have Hr1 := hide (one_rqL r)
  have Hrl := hide (rqL_len r)
  unfold rqV
  generalize rqL r = R at *
  have hs0 : Same w ((w.alloc (.cells R.toArray 35)).alloc (.cells (rqL rqz).toArray 35)) := ((Chg.refl _ w).alloc _).alloc _
  have hb0 := (Blk.new w 35 R.toArray).alloc (.cells (rqL rqz).toArray 35)
  have hb1 := Blk.new (w.alloc (.cells R.toArray 35)) 35 (rqL rqz).toArray
  simp only [World.size_alloc] at hb1
  have hra : ((w.alloc (.cells R.toArray 35)).alloc (.cells (rqL rqz).toArray 35)).rangeAt w.heap.size 0 R := fun j v hv => by
    rw [Nat.zero_add, hb0.cell]
    simpa using hv
  have Hs0 := hide hs0
  have Hb1 := hide hb1
  have Hra := hide hra
  clear hs0 hb0 hb1 hra
  simp only [rqL, cgL, qL, z3', qy0, cg0, rqz, List.cons_append, List.nil_append] at Hs0 Hb1 Hra
  go_enter Tryz.func77, Tryz.ntmps77
  go_wp2_with (first
    | (go_at_call 93; refine (throw_ok _ _).mono ?_; rintro e w' ⟨rfl, rfl⟩)
    | (refine wpList_ld (by rfl) 35 _ rfl w.heap.size 0 rfl R _ Hra.out Tryz.underlying35 rfl (by rw [Hrl.out]; exact infoRqE) ?_)
    | (refine wpList_store_row (by rfl) 35 _ _ rfl (w.heap.size + 1) R.toArray rfl rfl 35 _ Hb1.out (by rw [List.size_toArray, Hrl.out]; exact infoRqE) (show (18 : Nat) = R.toArray.size by rw [List.size_toArray, Hrl.out]) (all_oneCell_toArray Hr1.out) ?_)
    | fail)
  refine bodyPost_ret (results_cell_row rfl _ _ _ _ _ _ _ rfl (Blk.setRow_ Hb1.out _) Tryz.underlying35 rfl (by rw [List.size_toArray, Hrl.out]; exact infoRqE)) (by rfl) ?_
  exact ⟨rfl, Chg.setRow Hs0.out (.inr (by omega)) _⟩
set_option maxRecDepth 100000 in
set_option maxHeartbeats 4000000 in
theorem mustR_bad (r : Rq) (c : Int) (w : World) (h : ¬ c = 0) :
    Calls Tryz.prog 77 #[rqV r, .int .i64 c] w fun e w' => e = .panicked (fault 0 c) ∧ Same w w' := by
  have H := hide h
  clear h
  unfold rqV
  generalize rqL r = R at *
  go_enter Tryz.func77, Tryz.ntmps77
  go_wp2_with (first
    | (go_at_call 93; refine (throw_bad _ _ _ H.out).mono ?_; rintro e w' ⟨rfl, rfl⟩)
    | fail)
  exact ⟨rfl, rfl, ((Chg.refl _ w).alloc _).alloc _⟩
theorem rangeA {w : World} {g : Nat} {a : Ac} {A : Option Addr} {c : Nat} (h : Blk w g 38 (acL a A c).toArray) : w.rangeAt g 3 (rqL a.r) :=
  rangeAt_blk [.int .i64 a.k, .int .i64 a.id, .int .i64 a.n] (rqL a.r) [.slice A a.b.length c] h
set_option maxRecDepth 100000 in
set_option maxHeartbeats 8000000 in
theorem sgood_any (a : Ac) (A : Option Addr) (c : Nat) (w : World) (hl : a.b.length ≤ maxLen) :
    Calls Tryz.prog 33 #[acV a A c] w fun e w' => e = .returned (.bool (goodA a)) ∧ Same w w' := by
  have HG := hide (Good_req a.r)
  have hb := Blk.new w 38 (acL a A c).toArray
  have hra := rangeA hb
  have hk0 := hb.cell 0
  have hk2 := hb.cell 2
  have hk4 := hb.cell 21
  have hs := (Chg.refl (fun _ => False) w).alloc (.cells (acL a A c).toArray 38)
  have Hs := hide hs
  have Hra := hide hra
  have h0 : (acL a A c)[0]? = some (.int .i64 a.k) := rfl
  have h2 : (acL a A c)[2]? = some (.int .i64 a.n) := rfl
  have h4 : (acL a A c)[21]? = some (.slice A a.b.length c) := rfl
  simp only [List.getElem?_toArray, h0, h2, h4] at hk0 hk2 hk4
  have hfz := hb.frozen
  have Hrl := hide (rqL_len a.r)
  obtain ⟨ga, hga⟩ : ∃ x, goodA a = x := ⟨_, rfl⟩
  rw [hga]
  unfold goodA at hga
  have HGa := hide hga
  clear hga
  unfold acV
  unfold rqV at HG
  clear hb hs hra h0 h2 h4 hfz
  generalize acL a A c = L at *
  generalize goodR a.r = gr at *
  generalize rqL a.r = R at *
  obtain ⟨k, id, n, r, b⟩ := a
  simp only at *
  generalize b.length = bl at *
  by_cases k1 : k = 1
  · subst k1
    go_enter Tryz.func33, Tryz.ntmps33
    go_wp2_with (first
      | (refine wpList_ld (by rfl) 35 _ rfl w.heap.size 3 rfl R _ Hra.out Tryz.underlying35 rfl (by rw [Hrl.out]; exact infoRqE) ?_)
      | (go_at_call 47; (refine (HG.out _).mono ?_); rintro e w1 ⟨rfl, hs1⟩; have Hs1 := hide (Same.trans Hs.out hs1); clear hs1)
      | fail)
    (first | go_ret | go_ret2)
    refine ⟨?_, Hs1.out⟩
    rw [← HGa.out]
    first | rfl | (simp; done) | (simp; omega)
  · by_cases k2 : k = 2
    · subst k2
      by_cases n1 : 1 ≤ n
      · by_cases n2 : n ≤ 10000
        · go_enter Tryz.func33, Tryz.ntmps33
          go_wp2_with fail
          (first | go_ret | go_ret2)
          refine ⟨?_, Hs.out⟩
          rw [← HGa.out]
          first | rfl | (simp; done) | (simp; omega)
        · go_enter Tryz.func33, Tryz.ntmps33
          go_wp2_with fail
          (first | go_ret | go_ret2)
          refine ⟨?_, Hs.out⟩
          rw [← HGa.out]
          first | rfl | (simp; done) | (simp; omega)
      · go_enter Tryz.func33, Tryz.ntmps33
        go_wp2_with fail
        (first | go_ret | go_ret2)
        refine ⟨?_, Hs.out⟩
        rw [← HGa.out]
        first | rfl | (simp; done) | (simp; omega)
    · by_cases k4 : k = 4
      · subst k4
        by_cases n1 : 1 ≤ n
        · by_cases n2 : n ≤ 10000
          · go_enter Tryz.func33, Tryz.ntmps33
            go_wp2_with fail
            (first | go_ret | go_ret2)
            refine ⟨?_, Hs.out⟩
            rw [← HGa.out]
            first | rfl | (simp; done) | (simp; omega)
          · go_enter Tryz.func33, Tryz.ntmps33
            go_wp2_with fail
            (first | go_ret | go_ret2)
            refine ⟨?_, Hs.out⟩
            rw [← HGa.out]
            first | rfl | (simp; done) | (simp; omega)
        · go_enter Tryz.func33, Tryz.ntmps33
          go_wp2_with fail
          (first | go_ret | go_ret2)
          refine ⟨?_, Hs.out⟩
          rw [← HGa.out]
          first | rfl | (simp; done) | (simp; omega)
      · by_cases k5 : k = 5
        · subst k5
          by_cases hb : bl ≤ 1000
          · go_enter Tryz.func33, Tryz.ntmps33
            go_wp2_with fail
            (first | go_ret | go_ret2)
            refine ⟨?_, Hs.out⟩
            rw [← HGa.out]
            first | rfl | (simp; done) | (simp; omega)
          · go_enter Tryz.func33, Tryz.ntmps33
            go_wp2_with fail
            (first | go_ret | go_ret2)
            refine ⟨?_, Hs.out⟩
            rw [← HGa.out]
            first | rfl | (simp; done) | (simp; omega)
        · by_cases k3 : k = 3
          · subst k3
            go_enter Tryz.func33, Tryz.ntmps33
            go_wp2_with fail
            (first | go_ret | go_ret2)
            refine ⟨?_, Hs.out⟩
            rw [← HGa.out]
            first | rfl | (simp; done) | (simp; omega)
          · go_enter Tryz.func33, Tryz.ntmps33
            go_wp2_with fail
            (first | go_ret | go_ret2)
            refine ⟨?_, Hs.out⟩
            rw [← HGa.out]
            first | rfl | (simp [k1, k2, k3, k4, k5]; done) | (simp [k1, k2, k3, k4, k5]; omega)
end Go.Proofs.YtlodanjpkjfjiaaGreatDoor
/-! ScT -/
namespace Go.Proofs.YtlodanjpkjfjiaaGreatDoor
open Go.RowKit Go.Al
set_option linter.unusedVariables false

theorem idx_from (x : List UInt8) : ∀ (ws : List (List UInt8)) (i : Nat), Lib.idxFromS (ws.map fun l => (⟨l.toArray⟩ : ByteArray)) ⟨x.toArray⟩ i = if x ∈ ws then ((i + ws.idxOf x : Nat) : Int) else -1
  | [], i => by simp [Lib.idxFromS]
  | z :: ws, i => by
    have ih := idx_from x ws (i + 1)
    rw [List.map_cons, Lib.idxFromS]
    by_cases hz : z = x
    · subst hz
      simp
    · have hz2 : ¬ (⟨z.toArray⟩ : ByteArray) = ⟨x.toArray⟩ := fun e => hz (by simpa using e)
      have he : (z :: ws).idxOf x = ws.idxOf x + 1 := by
        have hb : (z == x) = false := beq_eq_false_iff_ne.2 hz
        first | (rw [List.idxOf_cons, hb]; rfl) | (simp [List.idxOf_cons, hb]; done) | (simp [List.idxOf, List.findIdx_cons, hb]; done)
      rw [if_neg hz2, ih, he]
      by_cases hm : x ∈ ws
      · rw [if_pos hm, if_pos (List.mem_cons_of_mem _ hm)]
        omega
      · rw [if_neg hm, if_neg (fun h => by
          rcases List.mem_cons.1 h with h | h
          · exact hz h.symm
          · exact hm h)]
theorem idx_place (ws : List (List UInt8)) (x : List UInt8) : Lib.idxOfS (ws.map fun l => (⟨l.toArray⟩ : ByteArray)) ⟨x.toArray⟩ = placeOf ws x - 1 := by
  unfold Lib.idxOfS placeOf
  rw [idx_from]
  split <;> omega
theorem intW_in {x : List UInt8} {v : Int} (h : intW x = .ok v) : inI' v := by
  unfold intW at h
  split at h
  · rename_i v' hv
    cases h
    exact Lib.atoiAll_bounds hv
  · cases h
theorem intW_8 {x : List UInt8} {c : Int} (h : intW x = .error c) : c = 8 := by
  unfold intW at h
  split at h
  · cases h
  · cases h
    rfl
/-- what reading the rest adds -/
def addW (vs : List Int) : Except Int (List Int) → Except Int (List Int)
  | .ok us => .ok (vs ++ us)
  | .error c => .error c
theorem addW_nil (r : Except Int (List Int)) : addW [] r = r := by cases r <;> rfl
theorem intsW_ok {x : List UInt8} {l : List (List UInt8)} {v : Int} (vs : List Int) (h : intW x = .ok v) : addW vs (intsW (x :: l)) = addW (vs ++ [v]) (intsW l) := by
  simp only [intsW, h]
  cases intsW l <;> simp [addW]
theorem intsW_bad {x : List UInt8} {l : List (List UInt8)} {c : Int} (vs : List Int) (h : intW x = .error c) : addW vs (intsW (x :: l)) = .error c := by
  simp only [intsW, h, addW]
theorem encL_snoc (vs : List Int) (v : Int) : encL (vs ++ [v]) = encL vs ++ encI v := by simp [encL]
/-- slices.Index at a list of words -/
theorem index_any (ws : List (List UInt8)) (x : List UInt8) (g : Nat) (w : World) (h : Blk w g 9 (wds ws).toArray) (hl : ws.length ≤ 1000) :
    Calls Tryz.prog 54 #[.slice (some ⟨g, 0, none⟩) ws.length ws.length, strV x] w fun e w' => e = .returned (.int .i64 (placeOf ws x - 1)) ∧ w = w' := by
  have hz : (ws.map fun l => (⟨l.toArray⟩ : ByteArray)).length = ws.length := List.length_map _
  refine (slices_Index_string g 0 ws.length ws.length (ws.map fun l => (⟨l.toArray⟩ : ByteArray)) ⟨x.toArray⟩ w (by rw [hz]; exact Nat.le_refl _) (by omega) (fun j hj => ?_)).mono ?_
  · rw [Nat.zero_add, h.cell, List.getElem?_toArray]
    rw [hz] at hj
    simp only [wds, List.getElem?_map, List.getElem?_eq_getElem hj, Option.map_some, strV, List.getD_eq_getElem?_getD, Option.getD_some]
  · rintro e w' ⟨rfl, rfl⟩
    refine ⟨?_, rfl⟩
    rw [List.take_of_length_le (by rw [hz]; exact Nat.le_refl _), idx_place]
end Go.Proofs.YtlodanjpkjfjiaaGreatDoor
/-! ScX -/
namespace Go.Proofs.YtlodanjpkjfjiaaGreatDoor
open Go.RowKit Go.Al
open Go.Sort (grow)
set_option linter.unusedVariables false

theorem same_growS (w : World) (k : Nat) (os : Array Obj) : Same w (grow (w.drewN k) os) :=
  ⟨rfl, rfl, rfl, by simp [grow], fun b hb => ty_of_heap (by simp only [grow]; exact Array.getElem?_append_left hb), fun b hb _ => by simp only [grow]; exact Array.getElem?_append_left hb⟩
theorem itoaS_any (n : Int) (h0 : -9223372036854775808 ≤ n) (h1 : n ≤ 9223372036854775807) (w : World) (h : Lib.TabIs Tryz.prog w "internal/strconv.uint64pow10" .u64 Lib.pow10Tab) :
    Calls Tryz.prog 84 #[.int .i64 n] w fun e w' => e = .returned (strV (Lib.itoa n)) ∧ Same w w' :=
  (strconv_Itoa n h0 h1 w h).mono fun e w' ⟨he, k, os, hw⟩ => ⟨he, hw ▸ same_growS w k os⟩
theorem WrtAt.same {w w' : World} {g : Nat} {ws : List (List UInt8)} (h : WrtAt w g ws) (hs : Same w w') : WrtAt w' g ws := by
  obtain ⟨A, c, h1, h2⟩ := h
  exact ⟨A, c, h1.same hs, own_chg h2 hs fun _ _ h => h⟩
set_option maxRecDepth 100000 in
set_option maxHeartbeats 4000000 in
theorem wint_any {g : Nat} (n : Int) (ws : List (List UInt8)) (w : World) (h : WrtAt w g ws) (hn : ws.length ≤ 100000) (h0 : -9223372036854775808 ≤ n) (h1 : n ≤ 9223372036854775807) (ht : Lib.TabIs Tryz.prog w "internal/strconv.uint64pow10" .u64 Lib.pow10Tab) :
    Calls Tryz.prog 62 #[.pointer (some ⟨g, 0, none⟩), .int .i64 n] w fun e w' => e = .returned (.tuple #[]) ∧ Chg (WS g w) w w' ∧ WrtAt w' g (ws ++ [Lib.itoa n]) := by
  have HI := hide (itoaS_any n h0 h1 w ht)
  have HW := hide (fun w' (hs : Same w w') => wword_any (Lib.itoa n) ws w' (h.same hs) hn)
  clear h hn h0 h1 ht
  generalize strV (Lib.itoa n) = sv at *
  go_enter Tryz.func62, Tryz.ntmps62
  go_wp2_with (first
    | (go_at_call 84; (refine HI.out.mono ?_); rintro e w1 ⟨rfl, hs1⟩; have Hs1 := hide hs1; clear hs1)
    | (go_at_call 61; (refine (HW.out _ Hs1.out).mono ?_); rintro e w2 ⟨rfl, hc2, hr2⟩; have Hc2 := hide hc2; have Hr2 := hide hr2; clear hc2 hr2)
    | fail)
  go_end0
  exact ⟨rfl, Chg.trans (Same.to Hs1.out) Hc2.out (fun _ hk h => h.tr Hs1.out hk), Hr2.out⟩
end Go.Proofs.YtlodanjpkjfjiaaGreatDoor
/-! AcW -/
namespace Go.Proofs.YtlodanjpkjfjiaaGreatDoor
open Go.RowKit Go.Al
set_option linter.unusedVariables false

/-- an act's cells: kind, who, how often, a request's, the bytes -/
def acW (k id n : Int) (R : List Value) (sl : Value) : List Value := .int .i64 k :: .int .i64 id :: .int .i64 n :: (R ++ [sl])
theorem acL_W (a : Ac) (A : Option Addr) (c : Nat) : acL a A c = acW a.k a.id a.n (rqL a.r) (.slice A a.b.length c) := rfl
theorem acW_len {k id n : Int} {R : List Value} {sl : Value} (h : R.length = 18) : (acW k id n R sl).length = 22 := by simp [acW, h]
theorem acW_set1 (k id n id' : Int) (R : List Value) (sl : Value) : (acW k id n R sl).toArray.setIfInBounds 1 (.int .i64 id') = (acW k id' n R sl).toArray := by simp [acW]
theorem acW_set2 (k id n n' : Int) (R : List Value) (sl : Value) : (acW k id n R sl).toArray.setIfInBounds 2 (.int .i64 n') = (acW k id n' R sl).toArray := by simp [acW]
theorem acW_set21 (k id n : Int) {R : List Value} (h : R.length = 18) (sl sl' : Value) : (acW k id n R sl).toArray.setIfInBounds 21 sl' = (acW k id n R sl').toArray := by
  simp [acW, h]
theorem acW_get0 (k id n : Int) (R : List Value) (sl : Value) : (acW k id n R sl).toArray[0]? = some (.int .i64 k) := rfl
theorem acW_get1 (k id n : Int) (R : List Value) (sl : Value) : (acW k id n R sl).toArray[1]? = some (.int .i64 id) := rfl
theorem acW_get2 (k id n : Int) (R : List Value) (sl : Value) : (acW k id n R sl).toArray[2]? = some (.int .i64 n) := rfl
theorem acW_get21 (k id n : Int) {R : List Value} (h : R.length = 18) (sl : Value) : (acW k id n R sl).toArray[21]? = some sl := by
  simp [acW, h]
theorem acW_range {w : World} {g : Nat} {t : TypeId} {k id n : Int} {R : List Value} {sl : Value} (h : Blk w g t (acW k id n R sl).toArray) : w.rangeAt g 3 R :=
  rangeAt_blk [.int .i64 k, .int .i64 id, .int .i64 n] R [sl] (by simpa [acW] using h)
theorem blk_range {w : World} {g : Nat} {t : TypeId} {L : List Value} (h : Blk w g t L.toArray) : w.rangeAt g 0 L := fun j v hv => by
  rw [Nat.zero_add, h.cell]
  simpa using hv
theorem Chg.setCells {S : Nat → Prop} {a : World} {g : Nat} : ∀ (vs : List Value) (o : Nat) {w : World}, Chg S a w → (S g ∨ a.heap.size ≤ g) → Chg S a (w.setCells g o vs)
  | [], o, w, h, _ => h
  | v :: vs, o, w, h, hg => by
    rw [World.setCells]
    exact Chg.setCells vs (o + 1) (h.setCell (p := ⟨g, o, none⟩) hg v) hg
theorem Blk.setCells_ {g : Nat} {t : TypeId} : ∀ (vs xs ys zs : List Value) {w : World}, ys.length = vs.length → Blk w g t (xs ++ ys ++ zs).toArray → Blk (w.setCells g xs.length vs) g t (xs ++ vs ++ zs).toArray
  | [], xs, ys, zs, w, hl, h => by
    have : ys = [] := List.eq_nil_of_length_eq_zero hl
    subst this
    exact h
  | v :: vs, xs, [], zs, w, hl, h => by simp at hl
  | v :: vs, xs, y :: ys, zs, w, hl, h => by
    rw [World.setCells]
    have h1 := h.set_ xs.length v
    have e : (xs ++ y :: ys ++ zs).toArray.setIfInBounds xs.length v = (xs ++ [v] ++ ys ++ zs).toArray := by simp
    rw [e] at h1
    have h2 := Blk.setCells_ vs (xs ++ [v]) ys zs (by simpa using hl) h1
    simpa using h2
theorem Blk.far_cells {w : World} {g g' : Nat} {t : TypeId} {cs : Array Value} (h : Blk w g t cs) (hne : g ≠ g') (o : Nat) (vs : List Value) : Blk (w.setCells g' o vs) g t cs :=
  h.chg (Chg.setCells (S := fun k => k = g') vs o (Chg.refl _ _) (.inl rfl)) hne
theorem acW_setR {w : World} {g : Nat} {t : TypeId} {k id n : Int} {R R' : List Value} {sl : Value} (h : Blk w g t (acW k id n R sl).toArray) (hl : R.length = R'.length) : Blk (w.setCells g 3 R') g t (acW k id n R' sl).toArray := by
  have := Blk.setCells_ R' [.int .i64 k, .int .i64 id, .int .i64 n] R [sl] hl (w := w) (g := g) (t := t) (by simpa [acW] using h)
  simpa [acW] using this
theorem acW_there {w : World} {g : Nat} {t : TypeId} {k id n : Int} {R : List Value} {sl : Value} (h : Blk w g t (acW k id n R sl).toArray) (m : Nat) (hl : m = R.length) : w.there g 3 m := fun j hj => by
  subst hl
  refine ⟨?_, h.frozen _⟩
  rw [h.cell]
  have : 3 + j < (acW k id n R sl).length := by simp [acW]; omega
  simp [List.getElem?_eq_getElem this]
/-- no string -/
def noStr : Value → Bool
  | .string _ => false
  | _ => true
theorem rqL_noStr (r : Rq) : (rqL r).all noStr = true := rfl
theorem acW_noStr (k id n : Int) {R : List Value} (h : R.all noStr = true) {sl : Value} (hs : noStr sl = true) : (acW k id n R sl).all noStr = true := by
  unfold acW
  rw [List.all_cons, List.all_cons, List.all_cons, List.all_append, h, List.all_cons, hs]
  rfl
theorem one_acW (k id n : Int) {R : List Value} (h : ∀ u ∈ R, u.oneCell' = true) {sl : Value} (hs : sl.oneCell' = true) : ∀ u ∈ acW k id n R sl, u.oneCell' = true := by
  intro u hu
  simp only [acW, List.mem_cons, List.mem_append, List.not_mem_nil, or_false] at hu
  rcases hu with rfl | rfl | rfl | hu | rfl
  · rfl
  · rfl
  · rfl
  · exact h u hu
  · exact hs
/-- a reader beside a block without strings that changes -/
theorem RdrAt.far {w w' : World} {g ga : Nat} {t : TypeId} {L : List Value} {ws : List (List UInt8)} (h : RdrAt w g ws) (hb : Blk w ga t L.toArray) (hn : L.all noStr = true) (hne : ga ≠ g) (hc : Chg (fun k => k = ga) w w') : RdrAt w' g ws := by
  obtain ⟨A, c, h1, h2, h3, h4⟩ := h
  refine ⟨A, c, h1.chg hc (fun e => hne e.symm), h2, ?_, h4⟩
  cases ws with
  | nil => exact Rd.nil _ _
  | cons x l =>
    refine h3.chg hc fun b hb' _ e => ?_
    have e' : b = ga := e
    subst e'
    obtain ⟨b2, off, rfl, hcell⟩ := h3 (by simp [wds])
    have h5 := hcell 0 (strV x) rfl
    have e2 : b2 = b := by simpa [blkOf] using hb'
    subst e2
    rw [Nat.add_zero, hb.cell] at h5
    simp only [List.getElem?_toArray] at h5
    have h6 := List.mem_of_getElem? h5
    have h7 := List.all_eq_true.1 hn _ h6
    simp [strV, noStr] at h7
end Go.Proofs.YtlodanjpkjfjiaaGreatDoor
