/-
  script.Print: the text of any acts, or which of them has none. Conditions: acts as they lie; numbers that an int holds; what Go's library has laid.
-/
import Derived.Test.YtlodanjpkjfjiaaGreatDoorReA
import Derived.Test.YtlodanjpkjfjiaaGreatDoorScQ
import Derived.Test.YtlodanjpkjfjiaaGreatDoorOnD
import Derived.Test.YtlodanjpkjfjiaaGreatDoorStI
namespace Go.Proofs.YtlodanjpkjfjiaaGreatDoor
open Go.RowKit Go.Al
set_option linter.unusedVariables false

/-- where the first act stands that is not good -/
def badAt (l : List Ac) : Nat := l.findIdx fun a => !goodA a
/-- how Print ends -/
def PrintEnd (l : List Ac) (w : World) (e : Ending) (w' : World) : Prop :=
  e = .returned (if badAt l = l.length then .tuple #[strV (textA l), .int .i64 0, .int .i64 0] else .tuple #[strV [], .int .i64 ((badAt l : Nat) + 1 : Int), .int .i64 8]) ∧ Same w w'
theorem badAt_of {l : List Ac} {j : Nat} (h : j < l.length) (hb : ∀ i (hi : i < j), goodA (l[i]'(by omega)) = true) (hg : goodA l[j] = false) : badAt l = j := by
  unfold badAt
  rw [List.findIdx_eq h]
  refine ⟨by rw [hg]; rfl, fun i hi => by rw [hb i hi]; rfl⟩
theorem badAt_all {l : List Ac} (h : ∀ a ∈ l, goodA a = true) : badAt l = l.length := by
  unfold badAt
  rw [List.findIdx_eq_length]
  intro a ha
  rw [h a ha]
  rfl
theorem textA_len : ∀ {l : List Ac}, (∀ a ∈ l, goodA a = true ∧ WfA a) → (textA l).length ≤ 3001 * l.length
  | [], _ => by simp [textA]
  | a :: r, h => by
    have h1 := textA_len (l := r) fun x hx => h x (List.mem_cons_of_mem _ hx)
    have h2 := showB_len (h a (List.mem_cons_self)).1 (h a (List.mem_cons_self)).2
    unfold textA at h1 ⊢
    simp only [List.flatMap_cons, List.length_append, List.length_cons, List.length_nil]
    omega
theorem textA_take {l : List Ac} {j : Nat} (h : j < l.length) : textA (l.take (j + 1)) = textA (l.take j) ++ (showB l[j] ++ [10]) := by
  rw [List.take_succ_eq_append_getElem h, textA_snoc]
theorem Show0 {A : Option Addr} {c : Nat} (a : Ac) (w : World) (h : ActAt w a A c) (hw : WfA a) (ha : Amb w) : Calls Tryz.prog 30 #[acV a A c] w (ShowEnd a w) :=
  show_any a w h.1 (Nat.le_trans h.2.1 h.2.2) hw ha
set_option maxRecDepth 100000 in
set_option maxHeartbeats 16000000 in
theorem Print_any {A : Option Addr} {c : Nat} (L : List La) (w : World) (ha : Amb w) (h : Acts w A L) (hw : ∀ d ∈ L, WfA d.a) (hn : L.length ≤ 10000) :
    Calls Tryz.prog 17 #[.slice A L.length c] w (PrintEnd (L.map (·.a)) w) := by
  have hz := Lib.fresh_isBuilder 70 5 w
  obtain ⟨M, hM⟩ : ∃ M, L.map (·.a) = M := ⟨_, rfl⟩
  have Hml := hide (show M.length = L.length by rw [← hM, List.length_map])
  have Hmg := hide (fun (i : Nat) (hi : i < L.length) => (show M[i]? = some L[i].a from by rw [← hM, List.getElem?_map, List.getElem?_eq_getElem hi]; rfl))
  have Hwm := hide (show ∀ a ∈ M, WfA a from fun a ha => (by rw [← hM] at ha; obtain ⟨d, hd, rfl⟩ := List.mem_map.1 ha; exact hw d hd))
  have HSh := hide (fun (i : Nat) (hi : i < L.length) (w' : World) (hs : Same w w') => (Show0 (c := L[i].c) L[i].a w' ((h.same hs).rep _ (List.getElem_mem hi)) (hw _ (List.getElem_mem hi)) (ha.same hs)))
  have HH := hide h
  rw [hM]
  have HN := hide hn
  have Hz := hide hz
  clear ha h hz hM hw
  obtain ⟨n, hnn⟩ : ∃ n, L.length = n := ⟨_, rfl⟩
  rw [hnn] at hn ⊢
  have Hn := hide hnn
  clear hnn
  have hn1 : ¬ (10000 : Int) < ((n : Nat) : Int) := by omega
  have HEnd : Hid (∀ (v : Value) w', v = (if badAt M = M.length then Value.tuple #[strV (textA M), .int .i64 0, .int .i64 0] else .tuple #[strV [], .int .i64 ((badAt M : Nat) + 1 : Int), .int .i64 8]) → Same w w' → PrintEnd M w (.returned v) w') := hide fun v w' hv hs => (by subst hv; exact ⟨rfl, hs⟩)
  go_enter Tryz.func17, Tryz.ntmps17
  go_wp2_with fail
  go_loopg [6, 7, 8, 9, 15] n (fun g v6 v7 v8 v9 vi wr => ∃ j : Nat, j ≤ n ∧ g = n - j ∧ vi = .int .i64 j ∧ Same w wr ∧ Lib.IsBuilder 70 5 w.heap.size w.heap.size (Lib.byteCells (textA (M.take j))) wr ∧ ∀ i (hi : i < j), ∃ a, M[i]? = some a ∧ goodA a = true)
  case atStart => exact ⟨0, Nat.zero_le _, rfl, rfl, (Chg.refl _ w).alloc _, Hz.out, fun i hi => absurd hi (Nat.not_lt_zero i)⟩
  case round =>
    obtain ⟨j, hj, hg, rfl, hs, hbd, hgood⟩ := hrel
    have Hg := hide hg
    have Hs := hide hs
    have Hbd := hide hbd
    have Hgood := hide hgood
    clear hg hs hbd hgood
    by_cases hlt : j < n
    · have hjl : j < L.length := by rw [Hn.out]; exact hlt
      obtain ⟨bL, oL, hAL, hbL, hraL, hlat⟩ := HH.out.at_ hjl
      subst hAL
      have HraL := hide (rangeAt_same hraL Hs.out)
      have Hld := hide (laL_len L[j])
      have Hl1 := hide (one_laL L[j])
      have HShj := hide (fun w' (hs : Same wr w') => HSh.out j hjl w' (Same.trans Hs.out hs))
      have Hmj := hide (Hmg.out j hjl)
      have hjm : j < M.length := by rw [Hml.out]; exact hjl
      have Hmj' := hide (show M[j] = L[j].a from Option.some.inj ((List.getElem?_eq_getElem hjm).symm.trans Hmj.out))
      have Htk := hide (show textA (M.take (j + 1)) = textA (M.take j) ++ (showB L[j].a ++ [10]) from by rw [textA_take hjm, Hmj'.out])
      have HW := hide (show WfA L[j].a from Hwm.out _ (List.mem_of_getElem? Hmj.out))
      have Htl : Hid ((textA (M.take j)).length ≤ 3001 * j) := hide (by
        have h1 := textA_len (l := M.take j) fun a ha => (by
          obtain ⟨i, hi, rfl⟩ := List.getElem_of_mem ha
          rw [List.length_take] at hi
          obtain ⟨a2, h2, h3⟩ := Hgood.out i (by omega)
          rw [List.getElem_take]
          have h4 : M[i]'(by omega) = a2 := Option.some.inj ((List.getElem?_eq_getElem (by omega)).symm.trans h2)
          rw [h4]
          exact ⟨h3, Hwm.out _ (List.mem_of_getElem? h2)⟩)
        rw [List.length_take] at h1
        have : min j M.length ≤ j := Nat.min_le_left _ _
        exact Nat.le_trans h1 (Nat.mul_le_mul_left _ this))
      clear hraL hlat hbL
      unfold ShowEnd at HShj
      generalize hd : L[j].a = d at *
      rw [show acV d L[j].A L[j].c = .agg (laL L[j]).toArray from by rw [← hd]; rfl] at HShj
      generalize laL L[j] = R at *
      clear hd
      have hwk : IntKind.i64.wrap ((j : Nat) : Int) = ((j : Nat) : Int) := IntWalk.i64_in _ (by omega)
      rcases hgd : goodA d with _ | _
      · have HBad := hide (show badAt M = j from badAt_of hjm (fun i hi => (by
          obtain ⟨a2, h2, h3⟩ := Hgood.out i hi
          have h4 : M[i]'(by omega) = a2 := Option.some.inj ((List.getElem?_eq_getElem (by omega)).symm.trans h2)
          rw [h4]; exact h3)) (by rw [Hmj'.out]; exact hgd))
        rw [hgd] at HShj
        clear hgd
        simp only [Bool.false_eq_true, if_false] at HShj
        unfold strV at HShj
        have hj1 : ((j : Nat) : Int) + 1 ≤ 9223372036854775807 := by omega
        go_wp2_with (first
          | ((with_reducible refine ldR 38 bL (oL + j * 22) 22 R rowAct Hld.out HraL.out ?_ ?_ ?_); rfl; rfl)
          | ((with_reducible refine stNg 38 22 R 38 _ rowAct Hld.out ?_ Hl1.out ?_ ?_ ?_); rfl; rfl; rfl; intro w4 hs4 hz4 hb4; have Hs4 := hide hs4; have Hr4 := hide (blk_range hb4); clear hs4 hz4 hb4)
          | ((with_reducible refine ldR 38 wr.heap.size 0 22 R rowAct Hld.out Hr4.out ?_ ?_ ?_); rfl; rfl)
          | (go_at_call 30; ((with_reducible refine (HShj.out _ Hs4.out).mono ?_); rintro e w5 ⟨rfl, hs5⟩; have Hs5 := hide (Same.trans (Same.trans Hs.out Hs4.out) hs5); clear hs5))
          | fail)
        refine bodyPost_ret (results_tmp3 rfl _ _ _) rfl ?_
        refine HEnd.out _ _ ?_ Hs5.out
        rw [if_neg (by rw [HBad.out]; omega), HBad.out]
        rfl
      · rw [hgd] at HShj
        simp only [if_true] at HShj
        have Hsl := hide (showB_len hgd HW.out)
        have Hgdd := hide hgd
        clear hgd
        unfold strV at HShj
        have hcat := bapp (showB d) [10]
        have HWr := hide (fun (w' : World) (hz : w.heap.size ≤ w'.heap.size) (hb : Lib.IsBuilder 70 5 w.heap.size w.heap.size (Lib.byteCells (textA (M.take j))) w') => bwrite w.heap.size w.heap.size _ ⟨(showB d ++ [10]).toArray⟩ w' hb (by rw [byteCells_len, ba_size, List.length_append]; have := Htl.out; have := Hsl.out; simp; omega) hz)
        simp only [byteCells_app] at HWr
        rw [← Htk.out] at HWr
        have hsl := Hsl.out
        have q0 : ¬ 9223372036854775807 < (showB d).length + 1 := by omega
        clear hsl
        have HQ := hide hcat
        clear hcat
        go_wp2_with (first
          | ((with_reducible refine ldR 38 bL (oL + j * 22) 22 R rowAct Hld.out HraL.out ?_ ?_ ?_); rfl; rfl)
          | ((with_reducible refine stNg 38 22 R 38 _ rowAct Hld.out ?_ Hl1.out ?_ ?_ ?_); rfl; rfl; rfl; intro w4 hs4 hz4 hb4; have Hs4 := hide hs4; have Hr4 := hide (blk_range hb4); clear hs4 hz4 hb4)
          | ((with_reducible refine ldR 38 wr.heap.size 0 22 R rowAct Hld.out Hr4.out ?_ ?_ ?_); rfl; rfl)
          | (go_at_call 30; ((with_reducible refine (HShj.out _ Hs4.out).mono ?_); rintro e w5 ⟨rfl, hs5⟩; have Hs45 := hide (Same.trans Hs4.out hs5); have Hs5 := hide (Same.trans (Same.trans Hs.out Hs4.out) hs5); clear hs5))
          | (rw [HQ.out]; go_at_call 31; ((with_reducible refine (HWr.out w5 Hs5.out.size (isbSame Hbd.out Hs45.out)).mono ?_); rintro e w6 ⟨rfl, hb6, hs6⟩; have HS6 := hide (same_belowB Hs5.out hs6 (Nat.le_refl _)); have HB6 := hide hb6; clear hb6 hs6))
          | fail)
        go_roundg (n - (j + 1))
        case measure => have := Hg.out; omega
        case rel =>
          refine ⟨j + 1, by omega, rfl, by go_num, HS6.out, isb_of HB6.out, fun i hi => ?_⟩
          rcases Nat.lt_or_ge i j with h1 | h1
          · exact Hgood.out i h1
          · obtain rfl : i = j := by omega
            exact ⟨d, Hmj.out, Hgdd.out⟩
    · have hjn : j = n := by omega
      subst hjn
      have Htk := hide (show M.take j = M from List.take_of_length_le (by rw [Hml.out, Hn.out]; exact Nat.le_refl _))
      have HAll := hide (show badAt M = M.length from badAt_all fun a ha => (by
        obtain ⟨i, hi, rfl⟩ := List.getElem_of_mem ha
        obtain ⟨a2, h2, h3⟩ := Hgood.out i (by rw [Hml.out, Hn.out] at hi; exact hi)
        have h4 : M[i] = a2 := Option.some.inj ((List.getElem?_eq_getElem hi).symm.trans h2)
        rw [h4]; exact h3))
      have HBs := hide (bstring w.heap.size w.heap.size _ _ Hbd.out Hs.out.size)
      rw [Htk.out] at HBs
      go_wp2_with (first
        | (go_at_call 32; (with_reducible refine HBs.out.mono ?_); rintro e w3 ⟨rfl, hs3⟩; have HS3 := hide (same_belowB Hs.out hs3 (Nat.le_refl _)); clear hs3)
        | fail)
      refine bodyPost_ret (results_tmp3 rfl _ _ _) rfl ?_
      refine HEnd.out _ _ ?_ HS3.out
      rw [if_pos HAll.out]
      rfl
set_option maxRecDepth 100000 in
set_option maxHeartbeats 2000000 in
theorem Print_long {A : Option Addr} {n c : Nat} (w : World) (hn : 10000 < n) (hc : n ≤ maxLen) :
    Calls Tryz.prog 17 #[.slice A n c] w fun e w' => e = .returned (.tuple #[.string ⟨#[]⟩, .int .i64 0, .int .i64 11]) ∧ w = w'  := by
  unfold maxLen at hc
  have hn1 : (10000 : Int) < ((n : Nat) : Int) := by omega
  go_enter Tryz.func17, Tryz.ntmps17
  go_wp2_with fail
  refine bodyPost_ret (results_tmp3 rfl _ _ _) rfl ?_
  exact ⟨rfl, rfl⟩
end Go.Proofs.YtlodanjpkjfjiaaGreatDoor
