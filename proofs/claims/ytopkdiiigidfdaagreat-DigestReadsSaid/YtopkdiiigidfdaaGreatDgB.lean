/-
  digest.rising at points. Condition: at most 1048576 of each.
-/
import Derived.Test.YtopkdiiigidfdaaGreatDgA
namespace Go.Proofs.YtopkdiiigidfdaaGreat
open Go.RowKit Go.Al
set_option linter.unusedVariables false

set_option maxRecDepth 100000 in
set_option maxHeartbeats 8000000 in
theorem risP_any {A : Option Addr} {n c : Nat} (l : List P3) (w : World) (h : Row3 w A n c l) (hn : n ≤ 1048576) :
    Calls Tryz.prog 78 #[.slice A n c, .func (.func 79) #[] #[], .func (.func 80) #[] #[]] w fun e w' => e = .returned (.bool (risB goodPB l)) ∧ Same w w' := by
  have HR := hide h
  have Hn := hide h.2.1
  clear h
  go_enter Tryz.func78, Tryz.ntmps78
  go_wp2_with fail
  go_loopg [11] n (fun kk v wr => ∃ i : Nat, i ≤ n ∧ kk = n - i ∧ v = .int .i64 i ∧ Same w wr ∧ RisAt goodPB l i)
  case atStart => exact ⟨0, Nat.zero_le _, rfl, rfl, Chg.refl _ _, fun j _ h => by omega, fun j _ h => by omega⟩
  case round =>
    obtain ⟨i, hi, hkk, rfl, hsm, hris⟩ := hrel
    have Hk := hide hkk
    have Hsm := hide hsm
    have Hris := hide hris
    clear hkk hsm hris
    by_cases hlt : i < n
    · have hil : i < l.length := by rw [Hn.out]; exact hlt
      obtain ⟨b, off, rfl, hbl, hc0, hc1, hc2⟩ := (HR.out.same Hsm.out).at_ hil
      obtain ⟨x, hx⟩ : ∃ x, l[i] = x := ⟨_, rfl⟩
      have HG := hide (fun w' => kgood_any x w')
      have HI := hide (fun w' => pid_any x w')
      rw [hx] at hc0 hc1 hc2
      have hwi : IntKind.i64.wrap ((i : Int) + 1) = (i : Int) + 1 := IntWalk.i64_in _ (by omega)
      obtain ⟨gv, hgv⟩ : ∃ v, goodPB x = v := ⟨_, rfl⟩
      rw [hgv] at HG
      have Hx := hide hx
      have Hgv := hide hgv
      clear hx hgv
      have Hsa := hide (Hsm.out.alloc (.cells #[.int .i64 x.1, .int .i64 x.2.1, .int .i64 x.2.2] 23))
      have HB := hide (Blk.new wr 23 #[.int .i64 x.1, .int .i64 x.2.1, .int .i64 x.2.2])
      cases gv
      · have Hbad := hide (ris_bad (g := goodPB) hil (by rw [Hx.out]; exact Hgv.out))
        unfold agg3 at HG
        go_wp2_with fail
        refine wp_region_mixS 21 (by kernel_rfl) (by kernel_rfl) fun Fin hFin => ?_
        simp only [List.take_succ_cons, List.take_zero]
        iterate 21 (
            (refine mix_lit ?_ ?_ (fun w => Chg.refl _ w) ?_ ?_ ?_ ?_
             rotate_left; rotate_left
             · intro e w1 hR hF K hK; (have hv := (HB.out.same hR).cell); go_simp; (first | (refine hK _ _ (Chg.refl _ _) ?_; rfl) | (go_at_call 79; (with_reducible refine (HG.out w1).mono ?_); rintro _ w2 ⟨rfl, hs⟩; refine hK _ _ hs ?_; rfl) | (go_at_call 80; (with_reducible refine (HI.out w1).mono ?_); rintro _ w2 ⟨rfl, hs⟩; refine hK _ _ hs ?_; rfl) | (go_at_call 80; (with_reducible refine (HJ.out w1).mono ?_); rintro _ w2 ⟨rfl, hs⟩; refine hK _ _ hs ?_; rfl))
             · intro e; simp only [Act.put, List.setIfInBounds_toArray, List.set_cons_zero, List.set_cons_succ]; rfl
             · exact Loc.const _ _))
        refine mix_nil fun e w1 hR hF => hFin _ _ ?_
        simp only [List.drop_succ_cons, List.drop_zero]
        have HS4 := hide (Same.trans Hsa.out hR)
        clear hF hFin hR
        go_wp2_with fail
        go_ret
        exact ⟨by rw [Hbad.out]; rfl, HS4.out⟩
      · rcases Nat.eq_zero_or_pos i with h0 | h0
        · have Hnx := hide (ris_next Hris.out hil (by rw [Hx.out]; exact Hgv.out) (fun m hm => by omega))
          have Hp : NotPos i := ⟨by omega⟩
          clear h0
          unfold agg3 at HG
          go_wp2_with fail
          refine wp_region_mixS 21 (by kernel_rfl) (by kernel_rfl) fun Fin hFin => ?_
          simp only [List.take_succ_cons, List.take_zero]
          iterate 21 (
              (refine mix_lit ?_ ?_ (fun w => Chg.refl _ w) ?_ ?_ ?_ ?_
               rotate_left; rotate_left
               · intro e w1 hR hF K hK; (have hv := (HB.out.same hR).cell; have hp := Hp.out); go_simp; (first | (refine hK _ _ (Chg.refl _ _) ?_; rfl) | (go_at_call 79; (with_reducible refine (HG.out w1).mono ?_); rintro _ w2 ⟨rfl, hs⟩; refine hK _ _ hs ?_; rfl) | (go_at_call 80; (with_reducible refine (HI.out w1).mono ?_); rintro _ w2 ⟨rfl, hs⟩; refine hK _ _ hs ?_; rfl) | (go_at_call 80; (with_reducible refine (HJ.out w1).mono ?_); rintro _ w2 ⟨rfl, hs⟩; refine hK _ _ hs ?_; rfl))
               · intro e; simp only [Act.put, List.setIfInBounds_toArray, List.set_cons_zero, List.set_cons_succ]; rfl
               · exact Loc.const _ _))
          refine mix_nil fun e w1 hR hF => hFin _ _ ?_
          simp only [List.drop_succ_cons, List.drop_zero]
          have HS4 := hide (Same.trans Hsa.out hR)
          clear hF hFin hR
          go_wp2_with fail
          go_roundg (n - (i + 1))
          case measure => have := Hk.out; omega
          case rel => exact ⟨i + 1, by omega, rfl, by first | rfl | go_num, HS4.out, Hnx.out⟩
        · obtain ⟨m, hm⟩ : ∃ m, i = m + 1 := ⟨i - 1, by omega⟩
          have hml : m < l.length := by omega
          obtain ⟨b', off', hA', hbl', hd0, hd1, hd2⟩ := (HR.out.same Hsm.out).at_ hml
          obtain ⟨e1, e2⟩ : b = b' ∧ off = off' := by cases hA'; exact ⟨rfl, rfl⟩
          subst e1
          subst e2
          clear hA'
          obtain ⟨y, hy⟩ : ∃ y, l[m] = y := ⟨_, rfl⟩
          have HJ := hide (fun w' => pid_any y w')
          rw [hy] at hd0 hd1 hd2
          have Hy := hide hy
          clear hy
          have hwm : IntKind.i64.wrap ((i : Int) - 1) = (m : Int) := by rw [show (i : Int) - 1 = (m : Int) by omega]; exact IntWalk.i64_in _ (by omega)
          have hmn : (m : Int) < (n : Int) := by omega
          have hm0 : ¬ (m : Int) < 0 := by omega
          have hp : (0 : Int) < (i : Int) := by omega
          have Hm := hide hm
          have HD : Hid (∀ w', Same wr w' → w'.cell? ⟨b, off + m * 3, none⟩ = some (.int .i64 y.1) ∧ w'.cell? ⟨b, off + m * 3 + 1, none⟩ = some (.int .i64 y.2.1) ∧ w'.cell? ⟨b, off + m * 3 + 2, none⟩ = some (.int .i64 y.2.2)) := hide fun w' h => ⟨(h.cell (p := ⟨b, off + m * 3, none⟩) hbl' (fun f => f)).trans hd0, (h.cell (p := ⟨b, off + m * 3 + 1, none⟩) hbl' (fun f => f)).trans hd1, (h.cell (p := ⟨b, off + m * 3 + 2, none⟩) hbl' (fun f => f)).trans hd2⟩
          have Hwr := hide ((Chg.refl (fun _ => False) wr).alloc (.cells #[.int .i64 x.1, .int .i64 x.2.1, .int .i64 x.2.2] 23))
          clear hd0 hd1 hd2 hm
          by_cases ho : y.1 < x.1
          · have Hnx := hide (ris_next Hris.out hil (by rw [Hx.out]; exact Hgv.out) (fun m' hm' => by have e : m' = m := (by have := Hm.out; omega); subst e; rw [Hy.out, Hx.out]; exact ho))
            have Hge : NotLe x.1 y.1 := ⟨by omega⟩
            clear ho
            unfold agg3 at HG HI HJ
            go_wp2_with fail
            refine wp_region_mixS 21 (by kernel_rfl) (by kernel_rfl) fun Fin hFin => ?_
            simp only [List.take_succ_cons, List.take_zero]
            iterate 21 (
                (refine mix_lit ?_ ?_ (fun w => Chg.refl _ w) ?_ ?_ ?_ ?_
                 rotate_left; rotate_left
                 · intro e w1 hR hF K hK; (have hv := (HB.out.same hR).cell; obtain ⟨hd0, hd1, hd2⟩ := HD.out w1 (Same.trans Hwr.out hR); have hge := Hge.out); go_simp; (first | (refine hK _ _ (Chg.refl _ _) ?_; rfl) | (go_at_call 79; (with_reducible refine (HG.out w1).mono ?_); rintro _ w2 ⟨rfl, hs⟩; refine hK _ _ hs ?_; rfl) | (go_at_call 80; (with_reducible refine (HI.out w1).mono ?_); rintro _ w2 ⟨rfl, hs⟩; refine hK _ _ hs ?_; rfl) | (go_at_call 80; (with_reducible refine (HJ.out w1).mono ?_); rintro _ w2 ⟨rfl, hs⟩; refine hK _ _ hs ?_; rfl))
                 · intro e; simp only [Act.put, List.setIfInBounds_toArray, List.set_cons_zero, List.set_cons_succ]; rfl
                 · exact Loc.const _ _))
            refine mix_nil fun e w1 hR hF => hFin _ _ ?_
            simp only [List.drop_succ_cons, List.drop_zero]
            have HS4 := hide (Same.trans Hsa.out hR)
            clear hF hFin hR
            go_wp2_with fail
            go_roundg (n - (i + 1))
            case measure => have := Hk.out; omega
            case rel => exact ⟨i + 1, by omega, rfl, by first | rfl | go_num, HS4.out, Hnx.out⟩
          · have Hbad := hide (ris_turn (g := goodPB) Hm.out hil (by rw [Hx.out, Hy.out]; exact ho))
            have hge : x.1 ≤ y.1 := by omega
            clear ho
            unfold agg3 at HG HI HJ
            go_wp2_with fail
            refine wp_region_mixS 21 (by kernel_rfl) (by kernel_rfl) fun Fin hFin => ?_
            simp only [List.take_succ_cons, List.take_zero]
            iterate 21 (
                (refine mix_lit ?_ ?_ (fun w => Chg.refl _ w) ?_ ?_ ?_ ?_
                 rotate_left; rotate_left
                 · intro e w1 hR hF K hK; (have hv := (HB.out.same hR).cell; obtain ⟨hd0, hd1, hd2⟩ := HD.out w1 (Same.trans Hwr.out hR)); go_simp; (first | (refine hK _ _ (Chg.refl _ _) ?_; rfl) | (go_at_call 79; (with_reducible refine (HG.out w1).mono ?_); rintro _ w2 ⟨rfl, hs⟩; refine hK _ _ hs ?_; rfl) | (go_at_call 80; (with_reducible refine (HI.out w1).mono ?_); rintro _ w2 ⟨rfl, hs⟩; refine hK _ _ hs ?_; rfl) | (go_at_call 80; (with_reducible refine (HJ.out w1).mono ?_); rintro _ w2 ⟨rfl, hs⟩; refine hK _ _ hs ?_; rfl))
                 · intro e; simp only [Act.put, List.setIfInBounds_toArray, List.set_cons_zero, List.set_cons_succ]; rfl
                 · exact Loc.const _ _))
            refine mix_nil fun e w1 hR hF => hFin _ _ ?_
            simp only [List.drop_succ_cons, List.drop_zero]
            have HS4 := hide (Same.trans Hsa.out hR)
            clear hF hFin hR
            go_wp2_with fail
            go_ret
            exact ⟨by rw [Hbad.out]; rfl, HS4.out⟩
    · have hin : i = n := by omega
      subst hin
      go_wp2_with fail
      go_ret
      exact ⟨by rw [ris_true (g := goodPB) Hris.out (Nat.le_of_eq Hn.out)]; rfl, Hsm.out⟩
end Go.Proofs.YtopkdiiigidfdaaGreat
