/-
  script.shown: a good act's line. Conditions: numbers that an int holds; Go's tables are laid.
-/
import Derived.Test.YtlodanjpkjfjiaaGreatDoorScAm
namespace Go.Proofs.YtlodanjpkjfjiaaGreatDoor
open Go.RowKit Go.Al
set_option linter.unusedVariables false

theorem wordA_get (k : Nat) (h : k < 5) : (wds wordsA)[k]? = some (strV (wordAt wordsA ((k : Int) + 1))) := by
  have : ∀ m : Fin 5, wordsA[m.val]? = some (wordAt wordsA ((m.val : Int) + 1)) := by decide +kernel
  unfold wds
  rw [List.getElem?_map, this ⟨k, h⟩]
  rfl
theorem WrtAt.load {w : World} {g : Nat} {ws : List (List UInt8)} (h : WrtAt w g ws) : ∃ n A c, n = ws.length ∧ w.cell? ⟨g, 0, none⟩ = some (.slice A n c) ∧ Rd w A (wds ws) ∧ ws.length ≤ c := by
  obtain ⟨A, c, hb, ho⟩ := h
  obtain ⟨A', c', hv, h1, h2, _⟩ := own_form ho
  cases hv
  refine ⟨_, A, c, rfl, ?_, h2, h1⟩
  have := hb.cell 0
  simpa using this
theorem WrtAt.fresh (w : World) : WrtAt (w.alloc (.cells #[.slice none 0 0] 103)) w.heap.size [] :=
  ⟨none, 0, Blk.new w _ _, World.ownsRow_nil _ _ _ _⟩
set_option maxRecDepth 100000 in
set_option maxHeartbeats 8000000 in
theorem shown_3 {A : Option Addr} {c : Nat} (a : Ac) (w : World) (h : Rd w A (bs a.b)) (hg : goodA a = true) (hw : WfA a) (ha : Amb w) (hk : a.k = 3) :
    Calls Tryz.prog 45 #[acV a A c] w fun e w' => e = .returned (strV (showB a)) ∧ Same w w'  := by
  have hb0 := (Blk.new w 38 (acL a A c).toArray).alloc (.cells #[.slice none 0 0] 103)
  have hr1 := WrtAt.fresh (w.alloc (.cells (acL a A c).toArray 38))
  rw [World.size_alloc] at hr1
  have hs1 : Same w ((w.alloc (.cells (acL a A c).toArray 38)).alloc (.cells #[.slice none 0 0] 103)) := (((Chg.refl _ w).alloc _).alloc _)
  have hz1 : w.heap.size + 2 ≤ ((w.alloc (.cells (acL a A c).toArray 38)).alloc (.cells #[.slice none 0 0] 103)).heap.size := by simp
  have l0 : (acL a A c)[0]? = some (.int .i64 a.k) := rfl
  have l1 : (acL a A c)[1]? = some (.int .i64 a.id) := rfl
  have l2 : (acL a A c)[2]? = some (.int .i64 a.n) := rfl
  have l21 : (acL a A c)[21]? = some (.slice A a.b.length c) := rfl
  have Hacl := hide (show acL a A c = acW a.k a.id a.n (rqL a.r) (.slice A a.b.length c) from rfl)
  have HA := hide ha
  have Hjl := hide (showB_len hg hw)
  have Hwl := hide (showW_len hg)
  have Hid1 := hide hw.id
  have Hn1 := hide hw.n
  have Hr := hide hw.r
  have Hrd := hide h
  have Hsh := hide (show showB a = Lib.join (showW a) [32] from rfl)
  have Hsw := hide (show showW a = [wordAt wordsA 3, Lib.itoa a.id] from by unfold showW; rw [hk]; simp)
  rw [hk] at l0
  have HQ := hide (fun (w' : World) (hs : Same ((w.alloc (.cells (acL a A c).toArray 38)).alloc (.cells #[.slice none 0 0] 103)) w') => words_any w' (ha.same (Same.trans hs1 hs)).sp)
  have hwl5 : wordsA.length = 5 := rfl
  have hwk : IntKind.i64.wrap 2 = 2 := rfl
  have HW := hide (fun (w' : World) (hs : Same ((w.alloc (.cells (acL a A c).toArray 38)).alloc (.cells #[.slice none 0 0] 103)) w') => wword_any (wordAt wordsA 3) [] w' (hr1.same hs) (by decide))
  have HTab := hide (ha.wtab hs1 (g := w.heap.size + 1) (by omega))
  have HE : Hid (∀ (ws : List (List UInt8)) (w' : World), WrtAt w' (w.heap.size + 1) ws → ws = showW a → ∀ (Aj : Option Addr) (cj n : Nat), n = ws.length → Rd w' Aj (wds ws) → ws.length ≤ cj → Calls Tryz.prog 64 #[.slice Aj n cj, .string ⟨#[32]⟩] w' fun e w'' => e = .returned (strV (showB a)) ∧ Same w' w'') := hide fun ws w' hr hws Aj cj n hn hrd hle => by
    subst hws
    subst hn
    rw [Hsh.out]
    exact joinW _ (by unfold showW; simp) w' hrd (by have := Hwl.out; omega) hle (by rw [← Hsh.out]; have := Hjl.out; omega)
  clear h hg hw ha hk
  unfold acV
  have Hrl := hide (rqL_len a.r)
  generalize hLL : acL a A c = L at *
  clear hLL
  generalize showB a = sB at *
  obtain ⟨k, id, n, r, bb⟩ := a
  simp only at *
  rw [Hsw.out] at HE
  unfold WdsEnd at HQ
  unfold strV at HW
  go_enter Tryz.func45, Tryz.ntmps45
  go_wp2_with fail
  generalize (w.alloc (.cells L.toArray 38)).alloc (.cells #[.slice none 0 0] 103) = w1 at *
  have Hb1 := hide hb0
  have Hr1 := hide hr1
  have Hs1 := hide hs1
  have Hc1 := hide (Chg.refl (WS (w.heap.size + 1) w1) w1)
  have HI := hide (fun (n : Int) (us : List (List UInt8)) (w' : World) (hc : Chg (WS (w.heap.size + 1) w1) w1 w') (hr : WrtAt w' (w.heap.size + 1) us) (hu : us.length ≤ 2000) (i0 : inI' n) => wint_any n us w' hr (by omega) i0.1 i0.2 (HTab.out.ws hc).pw)
  clear hb0 hr1 hs1
  refine wp_region_mixS 7 (by kernel_rfl) (by kernel_rfl) fun Fin hFin => ?_
  simp only [List.take_succ_cons, List.take_zero]
  iterate 1 (
      (refine mix_lit ?_ ?_ (fun w => Chg.refl _ w) ?_ ?_ ?_ ?_
       rotate_left; rotate_left
       · intro e w1 hR hF K hK; (skip); go_simp; (refine hK _ _ (Chg.refl _ _) ?_; rfl)
       · intro e; simp only [Act.put, List.setIfInBounds_toArray, List.set_cons_zero, List.set_cons_succ]; rfl
       · exact Loc.const _ _))
  refine mix_letS (fun _ v w9 => ∃ b, v = .slice (some ⟨b, 0, none⟩) wordsA.length wordsA.length ∧ Blk w9 b 9 (wds wordsA).toArray) ?_ (by exact Loc.const _ _) ?_ ?_ ?_ ?_ ?_
  rotate_left
  · rintro e u w1 w2 hs ⟨b, rfl, h1⟩; exact ⟨b, rfl, h1.same hs⟩
  · intro e; rfl
  · intro e w9 hR hF K hK; go_simp; go_at_call 55; (refine (HQ.out _ hR).mono ?_); rintro _ w8 ⟨rfl, hw8⟩; subst hw8; exact hK _ _ _ ((Chg.refl _ _).alloc _) ⟨_, rfl, Blk.new _ _ _⟩ (by simp only [Act.put, List.setIfInBounds_toArray, List.set_cons_zero, List.set_cons_succ])
  · intro e; simp only [Act.put, List.setIfInBounds_toArray, List.set_cons_zero, List.set_cons_succ]; rfl
  iterate 3 (
      (refine mix_lit ?_ ?_ (fun w => Chg.refl _ w) ?_ ?_ ?_ ?_
       rotate_left; rotate_left
       · intro e w1 hR hF K hK; (have c90 := (Hb1.out.same hR).cell 0; simp only [List.getElem?_toArray, l0] at c90); go_simp; (refine hK _ _ (Chg.refl _ _) ?_; rfl)
       · intro e; simp only [Act.put, List.setIfInBounds_toArray, List.set_cons_zero, List.set_cons_succ]; rfl
       · exact Loc.const _ _))
  refine mix_letS (fun _ v w9 => ∃ b, v = .pointer (some ⟨b, 2, none⟩) ∧ Blk w9 b 9 (wds wordsA).toArray) ?_ (by exact Loc.const _ _) ?_ ?_ ?_ ?_ ?_
  rotate_left
  · rintro e u w1 w2 hs ⟨b, rfl, h1⟩; exact ⟨b, rfl, h1.same hs⟩
  · intro e; rfl
  · intro e w9 hR hF K hK; obtain ⟨b9, hb9, hk9⟩ := (show ∃ b, e 1 = .slice (some ⟨b, 0, none⟩) wordsA.length wordsA.length ∧ Blk w9 b 9 (wds wordsA).toArray from hF 1 (by kernel_rfl)); have hx9 : e 1 = .slice (some ⟨b9, 0, none⟩) wordsA.length wordsA.length := hb9; go_simp; exact hK _ _ _ (Chg.refl _ _) ⟨b9, rfl, hk9⟩ (by simp only [Act.put, List.setIfInBounds_toArray, List.set_cons_zero, List.set_cons_succ, hx9, hwl5])
  · intro e; simp only [Act.put, List.setIfInBounds_toArray, List.set_cons_zero, List.set_cons_succ]; rfl
  refine mix_letS (fun _ v _ => v = .string ⟨(wordAt wordsA 3).toArray⟩) ?_ (by exact Loc.const _ _) ?_ ?_ ?_ ?_ ?_
  rotate_left
  · rintro e u w1 w2 hs h; exact h
  · intro e; rfl
  · intro e w9 hR hF K hK; obtain ⟨b9, hb9, hk9⟩ := (show ∃ b, e 5 = .pointer (some ⟨b, 2, none⟩) ∧ Blk w9 b 9 (wds wordsA).toArray from hF 5 (by kernel_rfl)); have c9 := hk9.cell 2; simp only [List.getElem?_toArray, wordA_get 2 (by decide)] at c9; unfold strV at c9; have hx9 : e 5 = .pointer (some ⟨b9, 2, none⟩) := hb9; go_simp; exact hK _ _ _ (Chg.refl _ _) rfl (by simp only [Act.put, List.setIfInBounds_toArray, List.set_cons_zero, List.set_cons_succ, hx9])
  · intro e; simp only [Act.put, List.setIfInBounds_toArray, List.set_cons_zero, List.set_cons_succ]; rfl
  refine mix_nil fun e wR hR hF => hFin _ _ ?_
  simp only [List.drop_succ_cons, List.drop_zero]
  have h6 := (show e 6 = .string ⟨(wordAt wordsA 3).toArray⟩ from hF 6 (by decide))
  rw [h6]
  clear h6
  have HR := hide hR
  clear hR hF hFin
  go_wp2_with (first
    | (go_at_call 61; (with_reducible refine (HW.out _ HR.out).mono ?_); rintro e w2 ⟨rfl, hc, hr⟩; have Hr2 := hide hr; have hcR := hc; have Hc2 := hide (Chg.trans (Same.to (S := WS (w.heap.size + 1) w1) HR.out) hcR (fun _ hk h => h.tr HR.out hk)); have Hb2 := hide ((Hb1.out.same HR.out).chg hcR (WS.not (Hb1.out.same HR.out).ty (by decide) (by omega))); have c20 := Hb2.out.cell 0; have c21' := Hb2.out.cell 1; have c22 := Hb2.out.cell 2; have c221 := Hb2.out.cell 21; simp only [List.getElem?_toArray, l0, l1, l2, l21] at c20 c21' c22 c221; clear hc hr hcR)
    | (go_at_call 62; (with_reducible refine (HI.out _ _ w2 Hc2.out Hr2.out (by simp) Hid1.out).mono ?_); rintro e w3 ⟨rfl, hc, hr⟩; have Hr3 := hide hr; obtain ⟨nj, Aj, cj, hnj, hld, hrdj, hlj⟩ := hr.load; have Hnj := hide hnj; have Hrdj := hide hrdj; have Hlj := hide hlj; clear hnj hrdj hlj; have Hc3 := hide (Chg.trans Hc2.out hc (fun _ hk h => h.tr Hc2.out hk)); have Hb3 := hide (Hb2.out.chg hc (WS.not Hb2.out.ty (by decide) (by omega))); have c30 := Hb3.out.cell 0; have c31 := Hb3.out.cell 1; have c32 := Hb3.out.cell 2; have c321 := Hb3.out.cell 21; simp only [List.getElem?_toArray, l0, l1, l2, l21] at c30 c31 c32 c321; clear hc hr)
    | (go_at_call 64; (with_reducible refine (HE.out _ w3 Hr3.out (by simp) _ _ _ Hnj.out Hrdj.out Hlj.out).mono ?_); rintro e w9 ⟨rfl, hs9⟩; have Hs9 := hide hs9; clear hs9)
    | fail)
  go_ret
  exact ⟨rfl, Same.trans (Chg.fresh (S := fun k => w.heap.size ≤ k) (Chg.trans (Same.to Hs1.out) Hc3.out (fun k hk e => (by have := e.ge; omega))) (fun _ h => h)) Hs9.out⟩
set_option maxRecDepth 100000 in
set_option maxHeartbeats 8000000 in
theorem shown_2 {A : Option Addr} {c : Nat} (a : Ac) (w : World) (h : Rd w A (bs a.b)) (hg : goodA a = true) (hw : WfA a) (ha : Amb w) (hk : a.k = 2) :
    Calls Tryz.prog 45 #[acV a A c] w fun e w' => e = .returned (strV (showB a)) ∧ Same w w'  := by
  have hb0 := (Blk.new w 38 (acL a A c).toArray).alloc (.cells #[.slice none 0 0] 103)
  have hr1 := WrtAt.fresh (w.alloc (.cells (acL a A c).toArray 38))
  rw [World.size_alloc] at hr1
  have hs1 : Same w ((w.alloc (.cells (acL a A c).toArray 38)).alloc (.cells #[.slice none 0 0] 103)) := (((Chg.refl _ w).alloc _).alloc _)
  have hz1 : w.heap.size + 2 ≤ ((w.alloc (.cells (acL a A c).toArray 38)).alloc (.cells #[.slice none 0 0] 103)).heap.size := by simp
  have l0 : (acL a A c)[0]? = some (.int .i64 a.k) := rfl
  have l1 : (acL a A c)[1]? = some (.int .i64 a.id) := rfl
  have l2 : (acL a A c)[2]? = some (.int .i64 a.n) := rfl
  have l21 : (acL a A c)[21]? = some (.slice A a.b.length c) := rfl
  have Hacl := hide (show acL a A c = acW a.k a.id a.n (rqL a.r) (.slice A a.b.length c) from rfl)
  have HA := hide ha
  have Hjl := hide (showB_len hg hw)
  have Hwl := hide (showW_len hg)
  have Hid1 := hide hw.id
  have Hn1 := hide hw.n
  have Hr := hide hw.r
  have Hrd := hide h
  have Hsh := hide (show showB a = Lib.join (showW a) [32] from rfl)
  have Hsw := hide (show showW a = [wordAt wordsA 2, Lib.itoa a.id, Lib.itoa a.n] from by unfold showW; rw [hk]; simp)
  rw [hk] at l0
  have HQ := hide (fun (w' : World) (hs : Same ((w.alloc (.cells (acL a A c).toArray 38)).alloc (.cells #[.slice none 0 0] 103)) w') => words_any w' (ha.same (Same.trans hs1 hs)).sp)
  have hwl5 : wordsA.length = 5 := rfl
  have hwk : IntKind.i64.wrap 1 = 1 := rfl
  have HW := hide (fun (w' : World) (hs : Same ((w.alloc (.cells (acL a A c).toArray 38)).alloc (.cells #[.slice none 0 0] 103)) w') => wword_any (wordAt wordsA 2) [] w' (hr1.same hs) (by decide))
  have HTab := hide (ha.wtab hs1 (g := w.heap.size + 1) (by omega))
  have HE : Hid (∀ (ws : List (List UInt8)) (w' : World), WrtAt w' (w.heap.size + 1) ws → ws = showW a → ∀ (Aj : Option Addr) (cj n : Nat), n = ws.length → Rd w' Aj (wds ws) → ws.length ≤ cj → Calls Tryz.prog 64 #[.slice Aj n cj, .string ⟨#[32]⟩] w' fun e w'' => e = .returned (strV (showB a)) ∧ Same w' w'') := hide fun ws w' hr hws Aj cj n hn hrd hle => by
    subst hws
    subst hn
    rw [Hsh.out]
    exact joinW _ (by unfold showW; simp) w' hrd (by have := Hwl.out; omega) hle (by rw [← Hsh.out]; have := Hjl.out; omega)
  clear h hg hw ha hk
  unfold acV
  have Hrl := hide (rqL_len a.r)
  generalize hLL : acL a A c = L at *
  clear hLL
  generalize showB a = sB at *
  obtain ⟨k, id, n, r, bb⟩ := a
  simp only at *
  rw [Hsw.out] at HE
  unfold WdsEnd at HQ
  unfold strV at HW
  go_enter Tryz.func45, Tryz.ntmps45
  go_wp2_with fail
  generalize (w.alloc (.cells L.toArray 38)).alloc (.cells #[.slice none 0 0] 103) = w1 at *
  have Hb1 := hide hb0
  have Hr1 := hide hr1
  have Hs1 := hide hs1
  have Hc1 := hide (Chg.refl (WS (w.heap.size + 1) w1) w1)
  have HI := hide (fun (n : Int) (us : List (List UInt8)) (w' : World) (hc : Chg (WS (w.heap.size + 1) w1) w1 w') (hr : WrtAt w' (w.heap.size + 1) us) (hu : us.length ≤ 2000) (i0 : inI' n) => wint_any n us w' hr (by omega) i0.1 i0.2 (HTab.out.ws hc).pw)
  clear hb0 hr1 hs1
  refine wp_region_mixS 7 (by kernel_rfl) (by kernel_rfl) fun Fin hFin => ?_
  simp only [List.take_succ_cons, List.take_zero]
  iterate 1 (
      (refine mix_lit ?_ ?_ (fun w => Chg.refl _ w) ?_ ?_ ?_ ?_
       rotate_left; rotate_left
       · intro e w1 hR hF K hK; (skip); go_simp; (refine hK _ _ (Chg.refl _ _) ?_; rfl)
       · intro e; simp only [Act.put, List.setIfInBounds_toArray, List.set_cons_zero, List.set_cons_succ]; rfl
       · exact Loc.const _ _))
  refine mix_letS (fun _ v w9 => ∃ b, v = .slice (some ⟨b, 0, none⟩) wordsA.length wordsA.length ∧ Blk w9 b 9 (wds wordsA).toArray) ?_ (by exact Loc.const _ _) ?_ ?_ ?_ ?_ ?_
  rotate_left
  · rintro e u w1 w2 hs ⟨b, rfl, h1⟩; exact ⟨b, rfl, h1.same hs⟩
  · intro e; rfl
  · intro e w9 hR hF K hK; go_simp; go_at_call 55; (refine (HQ.out _ hR).mono ?_); rintro _ w8 ⟨rfl, hw8⟩; subst hw8; exact hK _ _ _ ((Chg.refl _ _).alloc _) ⟨_, rfl, Blk.new _ _ _⟩ (by simp only [Act.put, List.setIfInBounds_toArray, List.set_cons_zero, List.set_cons_succ])
  · intro e; simp only [Act.put, List.setIfInBounds_toArray, List.set_cons_zero, List.set_cons_succ]; rfl
  iterate 3 (
      (refine mix_lit ?_ ?_ (fun w => Chg.refl _ w) ?_ ?_ ?_ ?_
       rotate_left; rotate_left
       · intro e w1 hR hF K hK; (have c90 := (Hb1.out.same hR).cell 0; simp only [List.getElem?_toArray, l0] at c90); go_simp; (refine hK _ _ (Chg.refl _ _) ?_; rfl)
       · intro e; simp only [Act.put, List.setIfInBounds_toArray, List.set_cons_zero, List.set_cons_succ]; rfl
       · exact Loc.const _ _))
  refine mix_letS (fun _ v w9 => ∃ b, v = .pointer (some ⟨b, 1, none⟩) ∧ Blk w9 b 9 (wds wordsA).toArray) ?_ (by exact Loc.const _ _) ?_ ?_ ?_ ?_ ?_
  rotate_left
  · rintro e u w1 w2 hs ⟨b, rfl, h1⟩; exact ⟨b, rfl, h1.same hs⟩
  · intro e; rfl
  · intro e w9 hR hF K hK; obtain ⟨b9, hb9, hk9⟩ := (show ∃ b, e 1 = .slice (some ⟨b, 0, none⟩) wordsA.length wordsA.length ∧ Blk w9 b 9 (wds wordsA).toArray from hF 1 (by kernel_rfl)); have hx9 : e 1 = .slice (some ⟨b9, 0, none⟩) wordsA.length wordsA.length := hb9; go_simp; exact hK _ _ _ (Chg.refl _ _) ⟨b9, rfl, hk9⟩ (by simp only [Act.put, List.setIfInBounds_toArray, List.set_cons_zero, List.set_cons_succ, hx9, hwl5])
  · intro e; simp only [Act.put, List.setIfInBounds_toArray, List.set_cons_zero, List.set_cons_succ]; rfl
  refine mix_letS (fun _ v _ => v = .string ⟨(wordAt wordsA 2).toArray⟩) ?_ (by exact Loc.const _ _) ?_ ?_ ?_ ?_ ?_
  rotate_left
  · rintro e u w1 w2 hs h; exact h
  · intro e; rfl
  · intro e w9 hR hF K hK; obtain ⟨b9, hb9, hk9⟩ := (show ∃ b, e 5 = .pointer (some ⟨b, 1, none⟩) ∧ Blk w9 b 9 (wds wordsA).toArray from hF 5 (by kernel_rfl)); have c9 := hk9.cell 1; simp only [List.getElem?_toArray, wordA_get 1 (by decide)] at c9; unfold strV at c9; have hx9 : e 5 = .pointer (some ⟨b9, 1, none⟩) := hb9; go_simp; exact hK _ _ _ (Chg.refl _ _) rfl (by simp only [Act.put, List.setIfInBounds_toArray, List.set_cons_zero, List.set_cons_succ, hx9])
  · intro e; simp only [Act.put, List.setIfInBounds_toArray, List.set_cons_zero, List.set_cons_succ]; rfl
  refine mix_nil fun e wR hR hF => hFin _ _ ?_
  simp only [List.drop_succ_cons, List.drop_zero]
  have h6 := (show e 6 = .string ⟨(wordAt wordsA 2).toArray⟩ from hF 6 (by decide))
  rw [h6]
  clear h6
  have HR := hide hR
  clear hR hF hFin
  go_wp2_with (first
    | (go_at_call 61; (with_reducible refine (HW.out _ HR.out).mono ?_); rintro e w2 ⟨rfl, hc, hr⟩; have Hr2 := hide hr; have hcR := hc; have Hc2 := hide (Chg.trans (Same.to (S := WS (w.heap.size + 1) w1) HR.out) hcR (fun _ hk h => h.tr HR.out hk)); have Hb2 := hide ((Hb1.out.same HR.out).chg hcR (WS.not (Hb1.out.same HR.out).ty (by decide) (by omega))); have c20 := Hb2.out.cell 0; have c21' := Hb2.out.cell 1; have c22 := Hb2.out.cell 2; have c221 := Hb2.out.cell 21; simp only [List.getElem?_toArray, l0, l1, l2, l21] at c20 c21' c22 c221; clear hc hr hcR)
    | (go_at_call 62; (with_reducible refine (HI.out _ _ w2 Hc2.out Hr2.out (by simp) Hid1.out).mono ?_); rintro e w3 ⟨rfl, hc, hr⟩; have Hr3 := hide hr; have Hc3 := hide (Chg.trans Hc2.out hc (fun _ hk h => h.tr Hc2.out hk)); have Hb3 := hide (Hb2.out.chg hc (WS.not Hb2.out.ty (by decide) (by omega))); have c30 := Hb3.out.cell 0; have c31 := Hb3.out.cell 1; have c32 := Hb3.out.cell 2; have c321 := Hb3.out.cell 21; simp only [List.getElem?_toArray, l0, l1, l2, l21] at c30 c31 c32 c321; clear hc hr)
    | (go_at_call 62; (with_reducible refine (HI.out _ _ w3 Hc3.out Hr3.out (by simp) Hn1.out).mono ?_); rintro e w4 ⟨rfl, hc, hr⟩; have Hr4 := hide hr; obtain ⟨nj, Aj, cj, hnj, hld, hrdj, hlj⟩ := hr.load; have Hnj := hide hnj; have Hrdj := hide hrdj; have Hlj := hide hlj; clear hnj hrdj hlj; have Hc4 := hide (Chg.trans Hc3.out hc (fun _ hk h => h.tr Hc3.out hk)); have Hb4 := hide (Hb3.out.chg hc (WS.not Hb3.out.ty (by decide) (by omega))); have c40 := Hb4.out.cell 0; have c41 := Hb4.out.cell 1; have c42 := Hb4.out.cell 2; have c421 := Hb4.out.cell 21; simp only [List.getElem?_toArray, l0, l1, l2, l21] at c40 c41 c42 c421; clear hc hr)
    | (go_at_call 64; (with_reducible refine (HE.out _ w4 Hr4.out (by simp) _ _ _ Hnj.out Hrdj.out Hlj.out).mono ?_); rintro e w9 ⟨rfl, hs9⟩; have Hs9 := hide hs9; clear hs9)
    | fail)
  go_ret
  exact ⟨rfl, Same.trans (Chg.fresh (S := fun k => w.heap.size ≤ k) (Chg.trans (Same.to Hs1.out) Hc4.out (fun k hk e => (by have := e.ge; omega))) (fun _ h => h)) Hs9.out⟩
set_option maxRecDepth 100000 in
set_option maxHeartbeats 8000000 in
theorem shown_4 {A : Option Addr} {c : Nat} (a : Ac) (w : World) (h : Rd w A (bs a.b)) (hg : goodA a = true) (hw : WfA a) (ha : Amb w) (hk : a.k = 4) :
    Calls Tryz.prog 45 #[acV a A c] w fun e w' => e = .returned (strV (showB a)) ∧ Same w w'  := by
  have hb0 := (Blk.new w 38 (acL a A c).toArray).alloc (.cells #[.slice none 0 0] 103)
  have hr1 := WrtAt.fresh (w.alloc (.cells (acL a A c).toArray 38))
  rw [World.size_alloc] at hr1
  have hs1 : Same w ((w.alloc (.cells (acL a A c).toArray 38)).alloc (.cells #[.slice none 0 0] 103)) := (((Chg.refl _ w).alloc _).alloc _)
  have hz1 : w.heap.size + 2 ≤ ((w.alloc (.cells (acL a A c).toArray 38)).alloc (.cells #[.slice none 0 0] 103)).heap.size := by simp
  have l0 : (acL a A c)[0]? = some (.int .i64 a.k) := rfl
  have l1 : (acL a A c)[1]? = some (.int .i64 a.id) := rfl
  have l2 : (acL a A c)[2]? = some (.int .i64 a.n) := rfl
  have l21 : (acL a A c)[21]? = some (.slice A a.b.length c) := rfl
  have Hacl := hide (show acL a A c = acW a.k a.id a.n (rqL a.r) (.slice A a.b.length c) from rfl)
  have HA := hide ha
  have Hjl := hide (showB_len hg hw)
  have Hwl := hide (showW_len hg)
  have Hid1 := hide hw.id
  have Hn1 := hide hw.n
  have Hr := hide hw.r
  have Hrd := hide h
  have Hsh := hide (show showB a = Lib.join (showW a) [32] from rfl)
  have Hsw := hide (show showW a = [wordAt wordsA 4, Lib.itoa a.n] from by unfold showW; rw [hk]; simp)
  rw [hk] at l0
  have HQ := hide (fun (w' : World) (hs : Same ((w.alloc (.cells (acL a A c).toArray 38)).alloc (.cells #[.slice none 0 0] 103)) w') => words_any w' (ha.same (Same.trans hs1 hs)).sp)
  have hwl5 : wordsA.length = 5 := rfl
  have hwk : IntKind.i64.wrap 3 = 3 := rfl
  have HW := hide (fun (w' : World) (hs : Same ((w.alloc (.cells (acL a A c).toArray 38)).alloc (.cells #[.slice none 0 0] 103)) w') => wword_any (wordAt wordsA 4) [] w' (hr1.same hs) (by decide))
  have HTab := hide (ha.wtab hs1 (g := w.heap.size + 1) (by omega))
  have HE : Hid (∀ (ws : List (List UInt8)) (w' : World), WrtAt w' (w.heap.size + 1) ws → ws = showW a → ∀ (Aj : Option Addr) (cj n : Nat), n = ws.length → Rd w' Aj (wds ws) → ws.length ≤ cj → Calls Tryz.prog 64 #[.slice Aj n cj, .string ⟨#[32]⟩] w' fun e w'' => e = .returned (strV (showB a)) ∧ Same w' w'') := hide fun ws w' hr hws Aj cj n hn hrd hle => by
    subst hws
    subst hn
    rw [Hsh.out]
    exact joinW _ (by unfold showW; simp) w' hrd (by have := Hwl.out; omega) hle (by rw [← Hsh.out]; have := Hjl.out; omega)
  clear h hg hw ha hk
  unfold acV
  have Hrl := hide (rqL_len a.r)
  generalize hLL : acL a A c = L at *
  clear hLL
  generalize showB a = sB at *
  obtain ⟨k, id, n, r, bb⟩ := a
  simp only at *
  rw [Hsw.out] at HE
  unfold WdsEnd at HQ
  unfold strV at HW
  go_enter Tryz.func45, Tryz.ntmps45
  go_wp2_with fail
  generalize (w.alloc (.cells L.toArray 38)).alloc (.cells #[.slice none 0 0] 103) = w1 at *
  have Hb1 := hide hb0
  have Hr1 := hide hr1
  have Hs1 := hide hs1
  have Hc1 := hide (Chg.refl (WS (w.heap.size + 1) w1) w1)
  have HI := hide (fun (n : Int) (us : List (List UInt8)) (w' : World) (hc : Chg (WS (w.heap.size + 1) w1) w1 w') (hr : WrtAt w' (w.heap.size + 1) us) (hu : us.length ≤ 2000) (i0 : inI' n) => wint_any n us w' hr (by omega) i0.1 i0.2 (HTab.out.ws hc).pw)
  clear hb0 hr1 hs1
  refine wp_region_mixS 7 (by kernel_rfl) (by kernel_rfl) fun Fin hFin => ?_
  simp only [List.take_succ_cons, List.take_zero]
  iterate 1 (
      (refine mix_lit ?_ ?_ (fun w => Chg.refl _ w) ?_ ?_ ?_ ?_
       rotate_left; rotate_left
       · intro e w1 hR hF K hK; (skip); go_simp; (refine hK _ _ (Chg.refl _ _) ?_; rfl)
       · intro e; simp only [Act.put, List.setIfInBounds_toArray, List.set_cons_zero, List.set_cons_succ]; rfl
       · exact Loc.const _ _))
  refine mix_letS (fun _ v w9 => ∃ b, v = .slice (some ⟨b, 0, none⟩) wordsA.length wordsA.length ∧ Blk w9 b 9 (wds wordsA).toArray) ?_ (by exact Loc.const _ _) ?_ ?_ ?_ ?_ ?_
  rotate_left
  · rintro e u w1 w2 hs ⟨b, rfl, h1⟩; exact ⟨b, rfl, h1.same hs⟩
  · intro e; rfl
  · intro e w9 hR hF K hK; go_simp; go_at_call 55; (refine (HQ.out _ hR).mono ?_); rintro _ w8 ⟨rfl, hw8⟩; subst hw8; exact hK _ _ _ ((Chg.refl _ _).alloc _) ⟨_, rfl, Blk.new _ _ _⟩ (by simp only [Act.put, List.setIfInBounds_toArray, List.set_cons_zero, List.set_cons_succ])
  · intro e; simp only [Act.put, List.setIfInBounds_toArray, List.set_cons_zero, List.set_cons_succ]; rfl
  iterate 3 (
      (refine mix_lit ?_ ?_ (fun w => Chg.refl _ w) ?_ ?_ ?_ ?_
       rotate_left; rotate_left
       · intro e w1 hR hF K hK; (have c90 := (Hb1.out.same hR).cell 0; simp only [List.getElem?_toArray, l0] at c90); go_simp; (refine hK _ _ (Chg.refl _ _) ?_; rfl)
       · intro e; simp only [Act.put, List.setIfInBounds_toArray, List.set_cons_zero, List.set_cons_succ]; rfl
       · exact Loc.const _ _))
  refine mix_letS (fun _ v w9 => ∃ b, v = .pointer (some ⟨b, 3, none⟩) ∧ Blk w9 b 9 (wds wordsA).toArray) ?_ (by exact Loc.const _ _) ?_ ?_ ?_ ?_ ?_
  rotate_left
  · rintro e u w1 w2 hs ⟨b, rfl, h1⟩; exact ⟨b, rfl, h1.same hs⟩
  · intro e; rfl
  · intro e w9 hR hF K hK; obtain ⟨b9, hb9, hk9⟩ := (show ∃ b, e 1 = .slice (some ⟨b, 0, none⟩) wordsA.length wordsA.length ∧ Blk w9 b 9 (wds wordsA).toArray from hF 1 (by kernel_rfl)); have hx9 : e 1 = .slice (some ⟨b9, 0, none⟩) wordsA.length wordsA.length := hb9; go_simp; exact hK _ _ _ (Chg.refl _ _) ⟨b9, rfl, hk9⟩ (by simp only [Act.put, List.setIfInBounds_toArray, List.set_cons_zero, List.set_cons_succ, hx9, hwl5])
  · intro e; simp only [Act.put, List.setIfInBounds_toArray, List.set_cons_zero, List.set_cons_succ]; rfl
  refine mix_letS (fun _ v _ => v = .string ⟨(wordAt wordsA 4).toArray⟩) ?_ (by exact Loc.const _ _) ?_ ?_ ?_ ?_ ?_
  rotate_left
  · rintro e u w1 w2 hs h; exact h
  · intro e; rfl
  · intro e w9 hR hF K hK; obtain ⟨b9, hb9, hk9⟩ := (show ∃ b, e 5 = .pointer (some ⟨b, 3, none⟩) ∧ Blk w9 b 9 (wds wordsA).toArray from hF 5 (by kernel_rfl)); have c9 := hk9.cell 3; simp only [List.getElem?_toArray, wordA_get 3 (by decide)] at c9; unfold strV at c9; have hx9 : e 5 = .pointer (some ⟨b9, 3, none⟩) := hb9; go_simp; exact hK _ _ _ (Chg.refl _ _) rfl (by simp only [Act.put, List.setIfInBounds_toArray, List.set_cons_zero, List.set_cons_succ, hx9])
  · intro e; simp only [Act.put, List.setIfInBounds_toArray, List.set_cons_zero, List.set_cons_succ]; rfl
  refine mix_nil fun e wR hR hF => hFin _ _ ?_
  simp only [List.drop_succ_cons, List.drop_zero]
  have h6 := (show e 6 = .string ⟨(wordAt wordsA 4).toArray⟩ from hF 6 (by decide))
  rw [h6]
  clear h6
  have HR := hide hR
  clear hR hF hFin
  go_wp2_with (first
    | (go_at_call 61; (with_reducible refine (HW.out _ HR.out).mono ?_); rintro e w2 ⟨rfl, hc, hr⟩; have Hr2 := hide hr; have hcR := hc; have Hc2 := hide (Chg.trans (Same.to (S := WS (w.heap.size + 1) w1) HR.out) hcR (fun _ hk h => h.tr HR.out hk)); have Hb2 := hide ((Hb1.out.same HR.out).chg hcR (WS.not (Hb1.out.same HR.out).ty (by decide) (by omega))); have c20 := Hb2.out.cell 0; have c21' := Hb2.out.cell 1; have c22 := Hb2.out.cell 2; have c221 := Hb2.out.cell 21; simp only [List.getElem?_toArray, l0, l1, l2, l21] at c20 c21' c22 c221; clear hc hr hcR)
    | (go_at_call 62; (with_reducible refine (HI.out _ _ w2 Hc2.out Hr2.out (by simp) Hn1.out).mono ?_); rintro e w3 ⟨rfl, hc, hr⟩; have Hr3 := hide hr; obtain ⟨nj, Aj, cj, hnj, hld, hrdj, hlj⟩ := hr.load; have Hnj := hide hnj; have Hrdj := hide hrdj; have Hlj := hide hlj; clear hnj hrdj hlj; have Hc3 := hide (Chg.trans Hc2.out hc (fun _ hk h => h.tr Hc2.out hk)); have Hb3 := hide (Hb2.out.chg hc (WS.not Hb2.out.ty (by decide) (by omega))); have c30 := Hb3.out.cell 0; have c31 := Hb3.out.cell 1; have c32 := Hb3.out.cell 2; have c321 := Hb3.out.cell 21; simp only [List.getElem?_toArray, l0, l1, l2, l21] at c30 c31 c32 c321; clear hc hr)
    | (go_at_call 64; (with_reducible refine (HE.out _ w3 Hr3.out (by simp) _ _ _ Hnj.out Hrdj.out Hlj.out).mono ?_); rintro e w9 ⟨rfl, hs9⟩; have Hs9 := hide hs9; clear hs9)
    | fail)
  go_ret
  exact ⟨rfl, Same.trans (Chg.fresh (S := fun k => w.heap.size ≤ k) (Chg.trans (Same.to Hs1.out) Hc3.out (fun k hk e => (by have := e.ge; omega))) (fun _ h => h)) Hs9.out⟩
set_option maxRecDepth 100000 in
set_option maxHeartbeats 8000000 in
theorem shown_5 {A : Option Addr} {c : Nat} (a : Ac) (w : World) (h : Rd w A (bs a.b)) (hg : goodA a = true) (hw : WfA a) (ha : Amb w) (hk : a.k = 5) :
    Calls Tryz.prog 45 #[acV a A c] w fun e w' => e = .returned (strV (showB a)) ∧ Same w w'  := by
  have hb0 := (Blk.new w 38 (acL a A c).toArray).alloc (.cells #[.slice none 0 0] 103)
  have hr1 := WrtAt.fresh (w.alloc (.cells (acL a A c).toArray 38))
  rw [World.size_alloc] at hr1
  have hs1 : Same w ((w.alloc (.cells (acL a A c).toArray 38)).alloc (.cells #[.slice none 0 0] 103)) := (((Chg.refl _ w).alloc _).alloc _)
  have hz1 : w.heap.size + 2 ≤ ((w.alloc (.cells (acL a A c).toArray 38)).alloc (.cells #[.slice none 0 0] 103)).heap.size := by simp
  have l0 : (acL a A c)[0]? = some (.int .i64 a.k) := rfl
  have l1 : (acL a A c)[1]? = some (.int .i64 a.id) := rfl
  have l2 : (acL a A c)[2]? = some (.int .i64 a.n) := rfl
  have l21 : (acL a A c)[21]? = some (.slice A a.b.length c) := rfl
  have Hacl := hide (show acL a A c = acW a.k a.id a.n (rqL a.r) (.slice A a.b.length c) from rfl)
  have HA := hide ha
  have Hjl := hide (showB_len hg hw)
  have Hwl := hide (showW_len hg)
  have Hid1 := hide hw.id
  have Hn1 := hide hw.n
  have Hr := hide hw.r
  have Hrd := hide h
  have Hsh := hide (show showB a = Lib.join (showW a) [32] from rfl)
  have Hsw := hide (show showW a = [wordAt wordsA 5, Lib.itoa a.id, hexB a.b] from by unfold showW; rw [hk]; simp)
  rw [hk] at l0
  have HQ := hide (fun (w' : World) (hs : Same ((w.alloc (.cells (acL a A c).toArray 38)).alloc (.cells #[.slice none 0 0] 103)) w') => words_any w' (ha.same (Same.trans hs1 hs)).sp)
  have hwl5 : wordsA.length = 5 := rfl
  have hwk : IntKind.i64.wrap 4 = 4 := rfl
  have HW := hide (fun (w' : World) (hs : Same ((w.alloc (.cells (acL a A c).toArray 38)).alloc (.cells #[.slice none 0 0] 103)) w') => wword_any (wordAt wordsA 5) [] w' (hr1.same hs) (by decide))
  have HTab := hide (ha.wtab hs1 (g := w.heap.size + 1) (by omega))
  have HX := hide (fun w' (hs : Same w w') => hex_any (c := c) a.b w' (h.same hs) (by have := goodA_cases hg; rw [hk] at this; omega))
  have HE : Hid (∀ (ws : List (List UInt8)) (w' : World), WrtAt w' (w.heap.size + 1) ws → ws = showW a → ∀ (Aj : Option Addr) (cj n : Nat), n = ws.length → Rd w' Aj (wds ws) → ws.length ≤ cj → Calls Tryz.prog 64 #[.slice Aj n cj, .string ⟨#[32]⟩] w' fun e w'' => e = .returned (strV (showB a)) ∧ Same w' w'') := hide fun ws w' hr hws Aj cj n hn hrd hle => by
    subst hws
    subst hn
    rw [Hsh.out]
    exact joinW _ (by unfold showW; simp) w' hrd (by have := Hwl.out; omega) hle (by rw [← Hsh.out]; have := Hjl.out; omega)
  clear h hg hw ha hk
  unfold acV
  have Hrl := hide (rqL_len a.r)
  generalize hLL : acL a A c = L at *
  clear hLL
  generalize showB a = sB at *
  obtain ⟨k, id, n, r, bb⟩ := a
  simp only at *
  rw [Hsw.out] at HE
  unfold WdsEnd at HQ
  unfold strV at HW
  go_enter Tryz.func45, Tryz.ntmps45
  go_wp2_with fail
  generalize (w.alloc (.cells L.toArray 38)).alloc (.cells #[.slice none 0 0] 103) = w1 at *
  have Hb1 := hide hb0
  have Hr1 := hide hr1
  have Hs1 := hide hs1
  have Hc1 := hide (Chg.refl (WS (w.heap.size + 1) w1) w1)
  have HI := hide (fun (n : Int) (us : List (List UInt8)) (w' : World) (hc : Chg (WS (w.heap.size + 1) w1) w1 w') (hr : WrtAt w' (w.heap.size + 1) us) (hu : us.length ≤ 2000) (i0 : inI' n) => wint_any n us w' hr (by omega) i0.1 i0.2 (HTab.out.ws hc).pw)
  clear hb0 hr1 hs1
  have HWx := hide (fun (w' : World) (hr : WrtAt w' (w.heap.size + 1) ([] ++ [wordAt wordsA 5] ++ [Lib.itoa id])) => wword_any (hexB bb) _ w' hr (by simp))
  unfold strV at HX HWx
  generalize hexB bb = hx at *
  generalize bb.length = bl at *
  refine wp_region_mixS 7 (by kernel_rfl) (by kernel_rfl) fun Fin hFin => ?_
  simp only [List.take_succ_cons, List.take_zero]
  iterate 1 (
      (refine mix_lit ?_ ?_ (fun w => Chg.refl _ w) ?_ ?_ ?_ ?_
       rotate_left; rotate_left
       · intro e w1 hR hF K hK; (skip); go_simp; (refine hK _ _ (Chg.refl _ _) ?_; rfl)
       · intro e; simp only [Act.put, List.setIfInBounds_toArray, List.set_cons_zero, List.set_cons_succ]; rfl
       · exact Loc.const _ _))
  refine mix_letS (fun _ v w9 => ∃ b, v = .slice (some ⟨b, 0, none⟩) wordsA.length wordsA.length ∧ Blk w9 b 9 (wds wordsA).toArray) ?_ (by exact Loc.const _ _) ?_ ?_ ?_ ?_ ?_
  rotate_left
  · rintro e u w1 w2 hs ⟨b, rfl, h1⟩; exact ⟨b, rfl, h1.same hs⟩
  · intro e; rfl
  · intro e w9 hR hF K hK; go_simp; go_at_call 55; (refine (HQ.out _ hR).mono ?_); rintro _ w8 ⟨rfl, hw8⟩; subst hw8; exact hK _ _ _ ((Chg.refl _ _).alloc _) ⟨_, rfl, Blk.new _ _ _⟩ (by simp only [Act.put, List.setIfInBounds_toArray, List.set_cons_zero, List.set_cons_succ])
  · intro e; simp only [Act.put, List.setIfInBounds_toArray, List.set_cons_zero, List.set_cons_succ]; rfl
  iterate 3 (
      (refine mix_lit ?_ ?_ (fun w => Chg.refl _ w) ?_ ?_ ?_ ?_
       rotate_left; rotate_left
       · intro e w1 hR hF K hK; (have c90 := (Hb1.out.same hR).cell 0; simp only [List.getElem?_toArray, l0] at c90); go_simp; (refine hK _ _ (Chg.refl _ _) ?_; rfl)
       · intro e; simp only [Act.put, List.setIfInBounds_toArray, List.set_cons_zero, List.set_cons_succ]; rfl
       · exact Loc.const _ _))
  refine mix_letS (fun _ v w9 => ∃ b, v = .pointer (some ⟨b, 4, none⟩) ∧ Blk w9 b 9 (wds wordsA).toArray) ?_ (by exact Loc.const _ _) ?_ ?_ ?_ ?_ ?_
  rotate_left
  · rintro e u w1 w2 hs ⟨b, rfl, h1⟩; exact ⟨b, rfl, h1.same hs⟩
  · intro e; rfl
  · intro e w9 hR hF K hK; obtain ⟨b9, hb9, hk9⟩ := (show ∃ b, e 1 = .slice (some ⟨b, 0, none⟩) wordsA.length wordsA.length ∧ Blk w9 b 9 (wds wordsA).toArray from hF 1 (by kernel_rfl)); have hx9 : e 1 = .slice (some ⟨b9, 0, none⟩) wordsA.length wordsA.length := hb9; go_simp; exact hK _ _ _ (Chg.refl _ _) ⟨b9, rfl, hk9⟩ (by simp only [Act.put, List.setIfInBounds_toArray, List.set_cons_zero, List.set_cons_succ, hx9, hwl5])
  · intro e; simp only [Act.put, List.setIfInBounds_toArray, List.set_cons_zero, List.set_cons_succ]; rfl
  refine mix_letS (fun _ v _ => v = .string ⟨(wordAt wordsA 5).toArray⟩) ?_ (by exact Loc.const _ _) ?_ ?_ ?_ ?_ ?_
  rotate_left
  · rintro e u w1 w2 hs h; exact h
  · intro e; rfl
  · intro e w9 hR hF K hK; obtain ⟨b9, hb9, hk9⟩ := (show ∃ b, e 5 = .pointer (some ⟨b, 4, none⟩) ∧ Blk w9 b 9 (wds wordsA).toArray from hF 5 (by kernel_rfl)); have c9 := hk9.cell 4; simp only [List.getElem?_toArray, wordA_get 4 (by decide)] at c9; unfold strV at c9; have hx9 : e 5 = .pointer (some ⟨b9, 4, none⟩) := hb9; go_simp; exact hK _ _ _ (Chg.refl _ _) rfl (by simp only [Act.put, List.setIfInBounds_toArray, List.set_cons_zero, List.set_cons_succ, hx9])
  · intro e; simp only [Act.put, List.setIfInBounds_toArray, List.set_cons_zero, List.set_cons_succ]; rfl
  refine mix_nil fun e wR hR hF => hFin _ _ ?_
  simp only [List.drop_succ_cons, List.drop_zero]
  have h6 := (show e 6 = .string ⟨(wordAt wordsA 5).toArray⟩ from hF 6 (by decide))
  rw [h6]
  clear h6
  have HR := hide hR
  clear hR hF hFin
  go_wp2_with (first
    | (go_at_call 61; (with_reducible refine (HW.out _ HR.out).mono ?_); rintro e w2 ⟨rfl, hc, hr⟩; have Hr2 := hide hr; have hcR := hc; have Hc2 := hide (Chg.trans (Same.to (S := WS (w.heap.size + 1) w1) HR.out) hcR (fun _ hk h => h.tr HR.out hk)); have Hb2 := hide ((Hb1.out.same HR.out).chg hcR (WS.not (Hb1.out.same HR.out).ty (by decide) (by omega))); have c20 := Hb2.out.cell 0; have c21' := Hb2.out.cell 1; have c22 := Hb2.out.cell 2; have c221 := Hb2.out.cell 21; simp only [List.getElem?_toArray, l0, l1, l2, l21] at c20 c21' c22 c221; clear hc hr hcR)
    | (go_at_call 62; (with_reducible refine (HI.out _ _ w2 Hc2.out Hr2.out (by simp) Hid1.out).mono ?_); rintro e w3 ⟨rfl, hc, hr⟩; have Hr3 := hide hr; have Hc3 := hide (Chg.trans Hc2.out hc (fun _ hk h => h.tr Hc2.out hk)); have Hb3 := hide (Hb2.out.chg hc (WS.not Hb2.out.ty (by decide) (by omega))); have c30 := Hb3.out.cell 0; have c31 := Hb3.out.cell 1; have c32 := Hb3.out.cell 2; have c321 := Hb3.out.cell 21; simp only [List.getElem?_toArray, l0, l1, l2, l21] at c30 c31 c32 c321; clear hc hr)
    | (go_at_call 34; (with_reducible refine (HX.out w3 (Chg.fresh (S := fun k => w.heap.size ≤ k) (Chg.trans (Same.to Hs1.out) Hc3.out (fun k hk e => (by have := e.ge; omega))) (fun _ h => h))).mono ?_); rintro e w4 ⟨rfl, hs⟩; have hc := Same.to (S := WS (w.heap.size + 1) w3) hs; have Hr4 := hide (Hr3.out.same hs); have Hc4 := hide (Chg.trans Hc3.out hc (fun _ hk h => h.tr Hc3.out hk)); have Hb4 := hide (Hb3.out.chg hc (WS.not Hb3.out.ty (by decide) (by omega))); have c40 := Hb4.out.cell 0; have c41 := Hb4.out.cell 1; have c42 := Hb4.out.cell 2; have c421 := Hb4.out.cell 21; simp only [List.getElem?_toArray, l0, l1, l2, l21] at c40 c41 c42 c421; clear hc hs)
    | (go_at_call 61; (with_reducible refine (HWx.out w4 Hr4.out).mono ?_); rintro e w5 ⟨rfl, hc, hr⟩; have Hr5 := hide hr; obtain ⟨nj, Aj, cj, hnj, hld, hrdj, hlj⟩ := hr.load; have Hnj := hide hnj; have Hrdj := hide hrdj; have Hlj := hide hlj; clear hnj hrdj hlj; have Hc5 := hide (Chg.trans Hc4.out hc (fun _ hk h => h.tr Hc4.out hk)); have Hb5 := hide (Hb4.out.chg hc (WS.not Hb4.out.ty (by decide) (by omega))); have c50 := Hb5.out.cell 0; have c51 := Hb5.out.cell 1; have c52 := Hb5.out.cell 2; have c521 := Hb5.out.cell 21; simp only [List.getElem?_toArray, l0, l1, l2, l21] at c50 c51 c52 c521; clear hc hr)
    | (go_at_call 64; (with_reducible refine (HE.out _ w5 Hr5.out (by simp) _ _ _ Hnj.out Hrdj.out Hlj.out).mono ?_); rintro e w9 ⟨rfl, hs9⟩; have Hs9 := hide hs9; clear hs9)
    | fail)
  go_ret
  exact ⟨rfl, Same.trans (Chg.fresh (S := fun k => w.heap.size ≤ k) (Chg.trans (Same.to Hs1.out) Hc5.out (fun k hk e => (by have := e.ge; omega))) (fun _ h => h)) Hs9.out⟩
set_option maxRecDepth 100000 in
set_option maxHeartbeats 8000000 in
theorem shown_1 {A : Option Addr} {c : Nat} (a : Ac) (w : World) (h : Rd w A (bs a.b)) (hg : goodA a = true) (hw : WfA a) (ha : Amb w) (hk : a.k = 1) :
    Calls Tryz.prog 45 #[acV a A c] w fun e w' => e = .returned (strV (showB a)) ∧ Same w w'  := by
  have hb0 := (Blk.new w 38 (acL a A c).toArray).alloc (.cells #[.slice none 0 0] 103)
  have hr1 := WrtAt.fresh (w.alloc (.cells (acL a A c).toArray 38))
  rw [World.size_alloc] at hr1
  have hs1 : Same w ((w.alloc (.cells (acL a A c).toArray 38)).alloc (.cells #[.slice none 0 0] 103)) := (((Chg.refl _ w).alloc _).alloc _)
  have hz1 : w.heap.size + 2 ≤ ((w.alloc (.cells (acL a A c).toArray 38)).alloc (.cells #[.slice none 0 0] 103)).heap.size := by simp
  have l0 : (acL a A c)[0]? = some (.int .i64 a.k) := rfl
  have l1 : (acL a A c)[1]? = some (.int .i64 a.id) := rfl
  have l2 : (acL a A c)[2]? = some (.int .i64 a.n) := rfl
  have l21 : (acL a A c)[21]? = some (.slice A a.b.length c) := rfl
  have Hacl := hide (show acL a A c = acW a.k a.id a.n (rqL a.r) (.slice A a.b.length c) from rfl)
  have HA := hide ha
  have Hjl := hide (showB_len hg hw)
  have Hwl := hide (showW_len hg)
  have Hid1 := hide hw.id
  have Hn1 := hide hw.n
  have Hr := hide hw.r
  have Hrd := hide h
  have Hsh := hide (show showB a = Lib.join (showW a) [32] from rfl)
  have Hsw := hide (show showW a = wordAt wordsA 1 :: Lib.itoa a.id :: (wordAt wordsR (kindR a.r) :: (numsR a.r).map Lib.itoa) from by unfold showW; rw [hk]; simp)
  rw [hk] at l0
  have HQ := hide (fun (w' : World) (hs : Same ((w.alloc (.cells (acL a A c).toArray 38)).alloc (.cells #[.slice none 0 0] 103)) w') => words_any w' (ha.same (Same.trans hs1 hs)).sp)
  have hwl5 : wordsA.length = 5 := rfl
  have hwk : IntKind.i64.wrap 0 = 0 := rfl
  have HW := hide (fun (w' : World) (hs : Same ((w.alloc (.cells (acL a A c).toArray 38)).alloc (.cells #[.slice none 0 0] 103)) w') => wword_any (wordAt wordsA 1) [] w' (hr1.same hs) (by decide))
  have HTab := hide (ha.wtab hs1 (g := w.heap.size + 1) (by omega))
  have hgr : goodR a.r = true := by rcases goodA_cases hg with ⟨_, h⟩ | ⟨h, _⟩ | h | ⟨h, _⟩ | ⟨h, _⟩; exact h; all_goals (rw [hk] at h; exact absurd h (by decide))
  have Hgr := hide hgr
  clear hgr
  have HE : Hid (∀ (ws : List (List UInt8)) (w' : World), WrtAt w' (w.heap.size + 1) ws → ws = showW a → ∀ (Aj : Option Addr) (cj n : Nat), n = ws.length → Rd w' Aj (wds ws) → ws.length ≤ cj → Calls Tryz.prog 64 #[.slice Aj n cj, .string ⟨#[32]⟩] w' fun e w'' => e = .returned (strV (showB a)) ∧ Same w' w'') := hide fun ws w' hr hws Aj cj n hn hrd hle => by
    subst hws
    subst hn
    rw [Hsh.out]
    exact joinW _ (by unfold showW; simp) w' hrd (by have := Hwl.out; omega) hle (by rw [← Hsh.out]; have := Hjl.out; omega)
  clear h hg hw ha hk
  unfold acV
  have Hrl := hide (rqL_len a.r)
  generalize hLL : acL a A c = L at *
  clear hLL
  generalize showB a = sB at *
  obtain ⟨k, id, n, r, bb⟩ := a
  simp only at *
  rw [Hsw.out] at HE
  unfold WdsEnd at HQ
  unfold strV at HW
  go_enter Tryz.func45, Tryz.ntmps45
  go_wp2_with fail
  generalize (w.alloc (.cells L.toArray 38)).alloc (.cells #[.slice none 0 0] 103) = w1 at *
  have Hb1 := hide hb0
  have Hr1 := hide hr1
  have Hs1 := hide hs1
  have Hc1 := hide (Chg.refl (WS (w.heap.size + 1) w1) w1)
  have HI := hide (fun (n : Int) (us : List (List UInt8)) (w' : World) (hc : Chg (WS (w.heap.size + 1) w1) w1 w') (hr : WrtAt w' (w.heap.size + 1) us) (hu : us.length ≤ 2000) (i0 : inI' n) => wint_any n us w' hr (by omega) i0.1 i0.2 (HTab.out.ws hc).pw)
  clear hb0 hr1 hs1
  have HRq := hide (fun (us : List (List UInt8)) (w' : World) (hc : Chg (WS (w.heap.size + 1) w1) w1 w') (hr : WrtAt w' (w.heap.size + 1) us) (hu : us.length ≤ 1000) => wreq_any r us w' hr hu Hgr.out Hr.out (HTab.out.ws hc))
  unfold rqV at HRq
  generalize rqL r = R at *
  refine wp_region_mixS 7 (by kernel_rfl) (by kernel_rfl) fun Fin hFin => ?_
  simp only [List.take_succ_cons, List.take_zero]
  iterate 1 (
      (refine mix_lit ?_ ?_ (fun w => Chg.refl _ w) ?_ ?_ ?_ ?_
       rotate_left; rotate_left
       · intro e w1 hR hF K hK; (skip); go_simp; (refine hK _ _ (Chg.refl _ _) ?_; rfl)
       · intro e; simp only [Act.put, List.setIfInBounds_toArray, List.set_cons_zero, List.set_cons_succ]; rfl
       · exact Loc.const _ _))
  refine mix_letS (fun _ v w9 => ∃ b, v = .slice (some ⟨b, 0, none⟩) wordsA.length wordsA.length ∧ Blk w9 b 9 (wds wordsA).toArray) ?_ (by exact Loc.const _ _) ?_ ?_ ?_ ?_ ?_
  rotate_left
  · rintro e u w1 w2 hs ⟨b, rfl, h1⟩; exact ⟨b, rfl, h1.same hs⟩
  · intro e; rfl
  · intro e w9 hR hF K hK; go_simp; go_at_call 55; (refine (HQ.out _ hR).mono ?_); rintro _ w8 ⟨rfl, hw8⟩; subst hw8; exact hK _ _ _ ((Chg.refl _ _).alloc _) ⟨_, rfl, Blk.new _ _ _⟩ (by simp only [Act.put, List.setIfInBounds_toArray, List.set_cons_zero, List.set_cons_succ])
  · intro e; simp only [Act.put, List.setIfInBounds_toArray, List.set_cons_zero, List.set_cons_succ]; rfl
  iterate 3 (
      (refine mix_lit ?_ ?_ (fun w => Chg.refl _ w) ?_ ?_ ?_ ?_
       rotate_left; rotate_left
       · intro e w1 hR hF K hK; (have c90 := (Hb1.out.same hR).cell 0; simp only [List.getElem?_toArray, l0] at c90); go_simp; (refine hK _ _ (Chg.refl _ _) ?_; rfl)
       · intro e; simp only [Act.put, List.setIfInBounds_toArray, List.set_cons_zero, List.set_cons_succ]; rfl
       · exact Loc.const _ _))
  refine mix_letS (fun _ v w9 => ∃ b, v = .pointer (some ⟨b, 0, none⟩) ∧ Blk w9 b 9 (wds wordsA).toArray) ?_ (by exact Loc.const _ _) ?_ ?_ ?_ ?_ ?_
  rotate_left
  · rintro e u w1 w2 hs ⟨b, rfl, h1⟩; exact ⟨b, rfl, h1.same hs⟩
  · intro e; rfl
  · intro e w9 hR hF K hK; obtain ⟨b9, hb9, hk9⟩ := (show ∃ b, e 1 = .slice (some ⟨b, 0, none⟩) wordsA.length wordsA.length ∧ Blk w9 b 9 (wds wordsA).toArray from hF 1 (by kernel_rfl)); have hx9 : e 1 = .slice (some ⟨b9, 0, none⟩) wordsA.length wordsA.length := hb9; go_simp; exact hK _ _ _ (Chg.refl _ _) ⟨b9, rfl, hk9⟩ (by simp only [Act.put, List.setIfInBounds_toArray, List.set_cons_zero, List.set_cons_succ, hx9, hwl5])
  · intro e; simp only [Act.put, List.setIfInBounds_toArray, List.set_cons_zero, List.set_cons_succ]; rfl
  refine mix_letS (fun _ v _ => v = .string ⟨(wordAt wordsA 1).toArray⟩) ?_ (by exact Loc.const _ _) ?_ ?_ ?_ ?_ ?_
  rotate_left
  · rintro e u w1 w2 hs h; exact h
  · intro e; rfl
  · intro e w9 hR hF K hK; obtain ⟨b9, hb9, hk9⟩ := (show ∃ b, e 5 = .pointer (some ⟨b, 0, none⟩) ∧ Blk w9 b 9 (wds wordsA).toArray from hF 5 (by kernel_rfl)); have c9 := hk9.cell 0; simp only [List.getElem?_toArray, wordA_get 0 (by decide)] at c9; unfold strV at c9; have hx9 : e 5 = .pointer (some ⟨b9, 0, none⟩) := hb9; go_simp; exact hK _ _ _ (Chg.refl _ _) rfl (by simp only [Act.put, List.setIfInBounds_toArray, List.set_cons_zero, List.set_cons_succ, hx9])
  · intro e; simp only [Act.put, List.setIfInBounds_toArray, List.set_cons_zero, List.set_cons_succ]; rfl
  refine mix_nil fun e wR hR hF => hFin _ _ ?_
  simp only [List.drop_succ_cons, List.drop_zero]
  have h6 := (show e 6 = .string ⟨(wordAt wordsA 1).toArray⟩ from hF 6 (by decide))
  rw [h6]
  clear h6
  have HR := hide hR
  clear hR hF hFin
  go_wp2_with (first
    | (go_at_call 61; (with_reducible refine (HW.out _ HR.out).mono ?_); rintro e w2 ⟨rfl, hc, hr⟩; have Hr2 := hide hr; have hcR := hc; have Hc2 := hide (Chg.trans (Same.to (S := WS (w.heap.size + 1) w1) HR.out) hcR (fun _ hk h => h.tr HR.out hk)); have Hb2 := hide ((Hb1.out.same HR.out).chg hcR (WS.not (Hb1.out.same HR.out).ty (by decide) (by omega))); have c20 := Hb2.out.cell 0; have c21' := Hb2.out.cell 1; have c22 := Hb2.out.cell 2; have c221 := Hb2.out.cell 21; simp only [List.getElem?_toArray, l0, l1, l2, l21] at c20 c21' c22 c221; clear hc hr hcR)
    | (go_at_call 62; (with_reducible refine (HI.out _ _ w2 Hc2.out Hr2.out (by simp) Hid1.out).mono ?_); rintro e w3 ⟨rfl, hc, hr⟩; have Hr3 := hide hr; have Hc3 := hide (Chg.trans Hc2.out hc (fun _ hk h => h.tr Hc2.out hk)); have Hb3 := hide (Hb2.out.chg hc (WS.not Hb2.out.ty (by decide) (by omega))); have c30 := Hb3.out.cell 0; have c31 := Hb3.out.cell 1; have c32 := Hb3.out.cell 2; have c321 := Hb3.out.cell 21; simp only [List.getElem?_toArray, l0, l1, l2, l21] at c30 c31 c32 c321; clear hc hr)
    | (refine wpList_ld (by rfl) 35 _ rfl w.heap.size 3 rfl R _ (acW_range (by have h := Hb3.out; rw [Hacl.out] at h; exact h)) Tryz.underlying35 rfl (by rw [Hrl.out]; exact infoRqE) ?_)
    | (go_at_call 63; (with_reducible refine (HRq.out _ w3 Hc3.out Hr3.out (by simp)).mono ?_); rintro e w4 ⟨rfl, hc, hr⟩; have Hr4 := hide hr; obtain ⟨nj, Aj, cj, hnj, hld, hrdj, hlj⟩ := hr.load; have Hnj := hide hnj; have Hrdj := hide hrdj; have Hlj := hide hlj; clear hnj hrdj hlj; have Hc4 := hide (Chg.trans Hc3.out hc (fun _ hk h => h.tr Hc3.out hk)); have Hb4 := hide (Hb3.out.chg hc (WS.not Hb3.out.ty (by decide) (by omega))); have c40 := Hb4.out.cell 0; have c41 := Hb4.out.cell 1; have c42 := Hb4.out.cell 2; have c421 := Hb4.out.cell 21; simp only [List.getElem?_toArray, l0, l1, l2, l21] at c40 c41 c42 c421; clear hc hr)
    | (go_at_call 64; (with_reducible refine (HE.out _ w4 Hr4.out (by simp) _ _ _ Hnj.out Hrdj.out Hlj.out).mono ?_); rintro e w9 ⟨rfl, hs9⟩; have Hs9 := hide hs9; clear hs9)
    | fail)
  go_ret
  exact ⟨rfl, Same.trans (Chg.fresh (S := fun k => w.heap.size ≤ k) (Chg.trans (Same.to Hs1.out) Hc4.out (fun k hk e => (by have := e.ge; omega))) (fun _ h => h)) Hs9.out⟩
theorem shown_any {A : Option Addr} {c : Nat} (a : Ac) (w : World) (h : Rd w A (bs a.b)) (hg : goodA a = true) (hw : WfA a) (ha : Amb w) :
    Calls Tryz.prog 45 #[acV a A c] w fun e w' => e = .returned (strV (showB a)) ∧ Same w w' := by
  rcases goodA_cases hg with ⟨hk, _⟩ | ⟨hk, _⟩ | hk | ⟨hk, _⟩ | ⟨hk, _⟩
  · exact shown_1 a w h hg hw ha hk
  · exact shown_2 a w h hg hw ha hk
  · exact shown_3 a w h hg hw ha hk
  · exact shown_4 a w h hg hw ha hk
  · exact shown_5 a w h hg hw ha hk
/-- what show tells -/
def ShowEnd (a : Ac) (w : World) (e : Ending) (w' : World) : Prop :=
  (e = .returned (.tuple #[strV (if goodA a = true then showB a else []), .int .i64 (if goodA a = true then 0 else 8)])) ∧ Same w w'
set_option maxRecDepth 100000 in
set_option maxHeartbeats 4000000 in
theorem show_any {A : Option Addr} {c : Nat} (a : Ac) (w : World) (h : Rd w A (bs a.b)) (hl : a.b.length ≤ maxLen) (hw : WfA a) (ha : Amb w) :
    Calls Tryz.prog 30 #[acV a A c] w (ShowEnd a w) := by
  have HG := hide (fun w' => sgood_any a A c w' hl)
  have Hs := hide ((Chg.refl (fun _ => False) w).alloc (.cells (acL a A c).toArray 38))
  have Hb := hide (Blk.new w 38 (acL a A c).toArray)
  have Hra := hide (blk_range Hb.out)
  have Hll := hide (acL_len a A c)
  have HS := hide (fun (hg : goodA a = true) w' (hs : Same w w') => shown_any (c := c) a w' (h.same hs) hg hw (ha.same hs))
  unfold ShowEnd
  clear h hl hw ha
  unfold acV at HG HS ⊢
  generalize showB a = sB at *
  cases hga : goodA a with
  | false =>
    rw [hga] at HG
    clear HS
    generalize acL a A c = L at *
    go_enter Tryz.func30, Tryz.ntmps30
    go_wp2_with (first
      | (refine wpList_ld (by rfl) 38 _ rfl w.heap.size 0 rfl L _ Hra.out Tryz.underlying38 rfl (by rw [Hll.out]; exact infoAct) ?_)
      | (go_at_call 33; (with_reducible refine (HG.out _).mono ?_); rintro e w1 ⟨rfl, hs1⟩; have Hs1 := hide (Same.trans Hs.out hs1); clear hs1)
      | fail)
    go_ret2
    exact ⟨rfl, Hs1.out⟩
  | true =>
    rw [hga] at HG
    have HS2 := hide (HS.out hga)
    clear HS
    generalize acL a A c = L at *
    unfold strV at HS2
    go_enter Tryz.func30, Tryz.ntmps30
    go_wp2_with (first
      | (refine wpList_ld (by rfl) 38 _ rfl w.heap.size 0 rfl L _ Hra.out Tryz.underlying38 rfl (by rw [Hll.out]; exact infoAct) ?_)
      | (go_at_call 33; (with_reducible refine (HG.out _).mono ?_); rintro e w1 ⟨rfl, hs1⟩; have Hs1 := hide (Same.trans Hs.out hs1); have Hra1 := hide (blk_range (Hb.out.same hs1)); clear hs1)
      | (refine wpList_ld (by rfl) 38 _ rfl w.heap.size 0 rfl L _ Hra1.out Tryz.underlying38 rfl (by rw [Hll.out]; exact infoAct) ?_)
      | (go_at_call 45; (with_reducible refine (HS2.out _ Hs1.out).mono ?_); rintro e w2 ⟨rfl, hs2⟩; have Hs2 := hide (Same.trans Hs1.out hs2); clear hs2)
      | fail)
    go_ret2
    exact ⟨rfl, Hs2.out⟩
set_option maxRecDepth 100000 in
set_option maxHeartbeats 4000000 in
theorem Show_any {A : Option Addr} {c : Nat} (a : Ac) (w : World) (h : Rd w A (bs a.b)) (hl : a.b.length ≤ maxLen) (hw : WfA a) (ha : Amb w) :
    Calls Tryz.prog 18 #[acV a A c] w (ShowEnd a w) := by
  have Hs := hide ((Chg.refl (fun _ => False) w).alloc (.cells (acL a A c).toArray 38))
  have Hb := hide (Blk.new w 38 (acL a A c).toArray)
  have Hra := hide (blk_range Hb.out)
  have Hll := hide (acL_len a A c)
  have HS := hide (fun w' (hs : Same w w') => show_any (c := c) a w' (h.same hs) hl hw (ha.same hs))
  unfold ShowEnd at HS ⊢
  clear h hl hw ha
  unfold acV at HS ⊢
  generalize (if goodA a = true then showB a else []) = sB at *
  generalize (if goodA a = true then (0 : Int) else 8) = er at *
  generalize acL a A c = L at *
  unfold strV at HS ⊢
  go_enter Tryz.func18, Tryz.ntmps18
  go_wp2_with (first
    | (refine wpList_ld (by rfl) 38 _ rfl w.heap.size 0 rfl L _ Hra.out Tryz.underlying38 rfl (by rw [Hll.out]; exact infoAct) ?_)
    | (go_at_call 30; (with_reducible refine (HS.out _ Hs.out).mono ?_); rintro e w1 ⟨rfl, hs1⟩; have Hs1 := hide (Same.trans Hs.out hs1); clear hs1)
    | fail)
  go_ret2
  exact ⟨rfl, Hs1.out⟩
end Go.Proofs.YtlodanjpkjfjiaaGreatDoor
