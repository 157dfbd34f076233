/-
  The document's Well. Condition: at most 1048576 of each.
-/
import Derived.Test.YtopkdiiigidfdaaGreatDgD
import Derived.Test.YtopkdiiigidfdaaGreatMx
namespace Go.Proofs.YtopkdiiigidfdaaGreat
open Go.RowKit Go.Al
set_option linter.unusedVariables false

set_option maxRecDepth 100000 in
set_option maxHeartbeats 16000000 in
theorem rwell_any {A1 A2 : Option Addr} {n1 c1 n2 c2 : Nat} (p s : List P3) (w : World) (h1 : Row3 w A1 n1 c1 p) (h2 : Row3 w A2 n2 c2 s) (hb1 : n1 ≤ 1048576) (hb2 : n2 ≤ 1048576) :
    Calls Tryz.prog 21 #[.slice A1 n1 c1, .slice A2 n2 c2] w fun e w' => e = .returned (.bool (wellB p s)) ∧ Same w w' := by
  have HR1 := hide h1
  have HR2 := hide h2
  have Hn1 := hide h1.2.1
  have Hn2 := hide h2.2.1
  have HV : Hid (wellB p s = (risB goodPB p && risB fairB s)) := hide rfl
  clear h1 h2
  go_enter Tryz.func21, Tryz.ntmps21
  go_wp2_with fail
  go_loopg [5] n1 (fun kk v wr => ∃ i : Nat, i ≤ n1 ∧ kk = n1 - i ∧ v = .int .i64 i ∧ Same w wr ∧ RisAt goodPB p i)
  case atStart => exact ⟨0, Nat.zero_le _, rfl, rfl, Chg.refl _ _, fun j _ h => by omega, fun j _ h => by omega⟩
  case round =>
    obtain ⟨i, hi, hkk, rfl, hsm, hris⟩ := hrel
    have Hk := hide hkk
    have Hsm := hide hsm
    have Hris := hide hris
    clear hkk hsm hris
    by_cases hlt : i < n1
    · have hil : i < p.length := by rw [Hn1.out]; exact hlt
      obtain ⟨b, off, rfl, hbl, hc0, hc1, hc2⟩ := (HR1.out.same Hsm.out).at_ hil
      obtain ⟨x, hx⟩ : ∃ x, p[i] = x := ⟨_, rfl⟩
      have HG := hide (fun w' => rgood3_any x w')
      rw [hx] at hc0 hc1 hc2
      have HC : Hid (∀ w', Same wr w' → w'.cell? ⟨b, off + i * 3, none⟩ = some (.int .i64 x.1) ∧ w'.cell? ⟨b, off + i * 3 + 1, none⟩ = some (.int .i64 x.2.1) ∧ w'.cell? ⟨b, off + i * 3 + 2, none⟩ = some (.int .i64 x.2.2)) := hide fun w' h => ⟨(h.cell (p := ⟨b, off + i * 3, none⟩) hbl (fun f => f)).trans hc0, (h.cell (p := ⟨b, off + i * 3 + 1, none⟩) hbl (fun f => f)).trans hc1, (h.cell (p := ⟨b, off + i * 3 + 2, none⟩) hbl (fun f => f)).trans hc2⟩
      have hwi : IntKind.i64.wrap ((i : Int) + 1) = (i : Int) + 1 := IntWalk.i64_in _ (by omega)
      obtain ⟨gv, hgv⟩ : ∃ v, goodPB x = v := ⟨_, rfl⟩
      rw [hgv] at HG
      have Hx := hide hx
      have Hgv := hide hgv
      have hin : (i : Int) < (n1 : Int) := by omega
      have hi0 : ¬ (i : Int) < 0 := by omega
      clear hx hgv hc0 hc1 hc2
      unfold agg3 at HG
      cases gv
      · have Hbad := hide (ris_bad (g := goodPB) hil (by rw [Hx.out]; exact Hgv.out))
        go_wp2_with fail
        refine wp_region_mixS 24 (by kernel_rfl) (by kernel_rfl) fun Fin hFin => ?_
        simp only [List.take_succ_cons, List.take_zero]
        iterate 24 (
            (refine mix_lit ?_ ?_ (fun w => Chg.refl _ w) ?_ ?_ ?_ ?_
             rotate_left; rotate_left
             · intro e w1 hR hF K hK; (have hc := HC.out w1 hR; obtain ⟨hc0, hc1, hc2⟩ := hc); go_simp; (first | (refine hK _ _ (Chg.refl _ _) ?_; rfl) | (go_at_call 49; (with_reducible refine (HG.out w1).mono ?_); rintro _ w2 ⟨rfl, hs⟩; refine hK _ _ hs ?_; rfl))
             · intro e; simp only [Act.put, List.setIfInBounds_toArray, List.set_cons_zero, List.set_cons_succ]; rfl
             · exact Loc.const _ _))
        refine mix_nil fun e w1 hR hF => hFin _ _ ?_
        simp only [List.drop_succ_cons, List.drop_zero]
        have HS4 := hide (Same.trans Hsm.out hR)
        clear hF hFin hR
        go_wp2_with fail
        go_ret
        exact ⟨by rw [HV.out, Hbad.out]; rfl, HS4.out⟩
      · rcases Nat.eq_zero_or_pos i with h0 | h0
        · have Hnx := hide (ris_next Hris.out hil (by rw [Hx.out]; exact Hgv.out) (fun m hm => by omega))
          have Hp : NotPos i := ⟨by omega⟩
          clear h0
          go_wp2_with fail
          refine wp_region_mixS 24 (by kernel_rfl) (by kernel_rfl) fun Fin hFin => ?_
          simp only [List.take_succ_cons, List.take_zero]
          iterate 24 (
              (refine mix_lit ?_ ?_ (fun w => Chg.refl _ w) ?_ ?_ ?_ ?_
               rotate_left; rotate_left
               · intro e w1 hR hF K hK; (have hc := HC.out w1 hR; have hp := Hp.out; obtain ⟨hc0, hc1, hc2⟩ := hc); go_simp; (first | (refine hK _ _ (Chg.refl _ _) ?_; rfl) | (go_at_call 49; (with_reducible refine (HG.out w1).mono ?_); rintro _ w2 ⟨rfl, hs⟩; refine hK _ _ hs ?_; rfl))
               · intro e; simp only [Act.put, List.setIfInBounds_toArray, List.set_cons_zero, List.set_cons_succ]; rfl
               · exact Loc.const _ _))
          refine mix_nil fun e w1 hR hF => hFin _ _ ?_
          simp only [List.drop_succ_cons, List.drop_zero]
          have HS4 := hide (Same.trans Hsm.out hR)
          clear hF hFin hR
          go_wp2_with fail
          go_roundg (n1 - (i + 1))
          case measure => have := Hk.out; omega
          case rel => exact ⟨i + 1, by omega, rfl, by first | rfl | go_num, HS4.out, Hnx.out⟩
        · obtain ⟨m, hm⟩ : ∃ m, i = m + 1 := ⟨i - 1, by omega⟩
          have hml : m < p.length := by omega
          obtain ⟨b', off', hA', hbl', hd0, hd1, hd2⟩ := (HR1.out.same Hsm.out).at_ hml
          obtain ⟨e1, e2⟩ : b = b' ∧ off = off' := by cases hA'; exact ⟨rfl, rfl⟩
          subst e1
          subst e2
          clear hA' hd1 hd2
          obtain ⟨y, hy⟩ : ∃ y, p[m] = y := ⟨_, rfl⟩
          rw [hy] at hd0
          have Hy := hide hy
          clear hy
          have hwm : IntKind.i64.wrap ((i : Int) - 1) = (m : Int) := by rw [show (i : Int) - 1 = (m : Int) by omega]; exact IntWalk.i64_in _ (by omega)
          have hmn : (m : Int) < (n1 : Int) := by omega
          have hm0 : ¬ (m : Int) < 0 := by omega
          have hp : (0 : Int) < (i : Int) := by omega
          have Hm := hide hm
          have HD : Hid (∀ w', Same wr w' → w'.cell? ⟨b, off + m * 3, none⟩ = some (.int .i64 y.1)) := hide fun w' h => (h.cell (p := ⟨b, off + m * 3, none⟩) hbl' (fun f => f)).trans hd0
          clear hd0 hm
          by_cases ho : y.1 < x.1
          · have Hnx := hide (ris_next Hris.out hil (by rw [Hx.out]; exact Hgv.out) (fun m' hm' => by have e : m' = m := (by have := Hm.out; omega); subst e; rw [Hy.out, Hx.out]; exact ho))
            have Hge : NotLe x.1 y.1 := ⟨by omega⟩
            clear ho
            go_wp2_with fail
            refine wp_region_mixS 24 (by kernel_rfl) (by kernel_rfl) fun Fin hFin => ?_
            simp only [List.take_succ_cons, List.take_zero]
            iterate 24 (
                (refine mix_lit ?_ ?_ (fun w => Chg.refl _ w) ?_ ?_ ?_ ?_
                 rotate_left; rotate_left
                 · intro e w1 hR hF K hK; (have hc := HC.out w1 hR; have hd0 := HD.out w1 hR; have hge := Hge.out; obtain ⟨hc0, hc1, hc2⟩ := hc); go_simp; (first | (refine hK _ _ (Chg.refl _ _) ?_; rfl) | (go_at_call 49; (with_reducible refine (HG.out w1).mono ?_); rintro _ w2 ⟨rfl, hs⟩; refine hK _ _ hs ?_; rfl))
                 · intro e; simp only [Act.put, List.setIfInBounds_toArray, List.set_cons_zero, List.set_cons_succ]; rfl
                 · exact Loc.const _ _))
            refine mix_nil fun e w1 hR hF => hFin _ _ ?_
            simp only [List.drop_succ_cons, List.drop_zero]
            have HS4 := hide (Same.trans Hsm.out hR)
            clear hF hFin hR
            go_wp2_with fail
            go_roundg (n1 - (i + 1))
            case measure => have := Hk.out; omega
            case rel => exact ⟨i + 1, by omega, rfl, by first | rfl | go_num, HS4.out, Hnx.out⟩
          · have Hbad := hide (ris_turn (g := goodPB) Hm.out hil (by rw [Hx.out, Hy.out]; exact ho))
            have hge : x.1 ≤ y.1 := by omega
            clear ho
            go_wp2_with fail
            refine wp_region_mixS 24 (by kernel_rfl) (by kernel_rfl) fun Fin hFin => ?_
            simp only [List.take_succ_cons, List.take_zero]
            iterate 24 (
                (refine mix_lit ?_ ?_ (fun w => Chg.refl _ w) ?_ ?_ ?_ ?_
                 rotate_left; rotate_left
                 · intro e w1 hR hF K hK; (have hc := HC.out w1 hR; have hd0 := HD.out w1 hR; obtain ⟨hc0, hc1, hc2⟩ := hc); go_simp; (first | (refine hK _ _ (Chg.refl _ _) ?_; rfl) | (go_at_call 49; (with_reducible refine (HG.out w1).mono ?_); rintro _ w2 ⟨rfl, hs⟩; refine hK _ _ hs ?_; rfl))
                 · intro e; simp only [Act.put, List.setIfInBounds_toArray, List.set_cons_zero, List.set_cons_succ]; rfl
                 · exact Loc.const _ _))
            refine mix_nil fun e w1 hR hF => hFin _ _ ?_
            simp only [List.drop_succ_cons, List.drop_zero]
            have HS4 := hide (Same.trans Hsm.out hR)
            clear hF hFin hR
            go_wp2_with fail
            go_ret
            exact ⟨by rw [HV.out, Hbad.out]; rfl, HS4.out⟩
    · have hin : i = n1 := by omega
      subst hin
      have Hok := hide (ris_true (g := goodPB) Hris.out (Nat.le_of_eq Hn1.out))
      have Hok1 := hide Hok.out
      have Hsm1 := hide Hsm.out
      clear Hok Hris
      go_wp2_with fail
      go_loopg [6] n2 (fun kk v wr => ∃ i : Nat, i ≤ n2 ∧ kk = n2 - i ∧ v = .int .i64 i ∧ Same w wr ∧ RisAt fairB s i)
      case atStart => exact ⟨0, Nat.zero_le _, rfl, rfl, Hsm1.out, fun j _ h => by omega, fun j _ h => by omega⟩
      case round =>
        obtain ⟨i, hi, hkk, rfl, hsm, hris⟩ := hrel
        have Hk := hide hkk
        have Hsm := hide hsm
        have Hris := hide hris
        clear hkk hsm hris
        by_cases hlt : i < n2
        · have hil : i < s.length := by rw [Hn2.out]; exact hlt
          obtain ⟨b, off, rfl, hbl, hc0, hc1, hc2⟩ := (HR2.out.same Hsm.out).at_ hil
          obtain ⟨x, hx⟩ : ∃ x, s[i] = x := ⟨_, rfl⟩
          have HG := hide (fun w' => rfair3_any x w')
          rw [hx] at hc0 hc1 hc2
          have HC : Hid (∀ w', Same wr w' → w'.cell? ⟨b, off + i * 3, none⟩ = some (.int .i64 x.1) ∧ w'.cell? ⟨b, off + i * 3 + 1, none⟩ = some (.int .i64 x.2.1) ∧ w'.cell? ⟨b, off + i * 3 + 2, none⟩ = some (.int .i64 x.2.2)) := hide fun w' h => ⟨(h.cell (p := ⟨b, off + i * 3, none⟩) hbl (fun f => f)).trans hc0, (h.cell (p := ⟨b, off + i * 3 + 1, none⟩) hbl (fun f => f)).trans hc1, (h.cell (p := ⟨b, off + i * 3 + 2, none⟩) hbl (fun f => f)).trans hc2⟩
          have hwi : IntKind.i64.wrap ((i : Int) + 1) = (i : Int) + 1 := IntWalk.i64_in _ (by omega)
          obtain ⟨gv, hgv⟩ : ∃ v, fairB x = v := ⟨_, rfl⟩
          rw [hgv] at HG
          have Hx := hide hx
          have Hgv := hide hgv
          have hin : (i : Int) < (n2 : Int) := by omega
          have hi0 : ¬ (i : Int) < 0 := by omega
          clear hx hgv hc0 hc1 hc2
          unfold agg3 at HG
          cases gv
          · have Hbad := hide (ris_bad (g := fairB) hil (by rw [Hx.out]; exact Hgv.out))
            go_wp2_with fail
            refine wp_region_mixS 24 (by kernel_rfl) (by kernel_rfl) fun Fin hFin => ?_
            simp only [List.take_succ_cons, List.take_zero]
            iterate 24 (
                (refine mix_lit ?_ ?_ (fun w => Chg.refl _ w) ?_ ?_ ?_ ?_
                 rotate_left; rotate_left
                 · intro e w1 hR hF K hK; (have hc := HC.out w1 hR; obtain ⟨hc0, hc1, hc2⟩ := hc); go_simp; (first | (refine hK _ _ (Chg.refl _ _) ?_; rfl) | (go_at_call 50; (with_reducible refine (HG.out w1).mono ?_); rintro _ w2 ⟨rfl, hs⟩; refine hK _ _ hs ?_; rfl))
                 · intro e; simp only [Act.put, List.setIfInBounds_toArray, List.set_cons_zero, List.set_cons_succ]; rfl
                 · exact Loc.const _ _))
            refine mix_nil fun e w1 hR hF => hFin _ _ ?_
            simp only [List.drop_succ_cons, List.drop_zero]
            have HS4 := hide (Same.trans Hsm.out hR)
            clear hF hFin hR
            go_wp2_with fail
            go_ret
            exact ⟨by rw [HV.out, Hok1.out, Hbad.out]; rfl, HS4.out⟩
          · rcases Nat.eq_zero_or_pos i with h0 | h0
            · have Hnx := hide (ris_next Hris.out hil (by rw [Hx.out]; exact Hgv.out) (fun m hm => by omega))
              have Hp : NotPos i := ⟨by omega⟩
              clear h0
              go_wp2_with fail
              refine wp_region_mixS 24 (by kernel_rfl) (by kernel_rfl) fun Fin hFin => ?_
              simp only [List.take_succ_cons, List.take_zero]
              iterate 24 (
                  (refine mix_lit ?_ ?_ (fun w => Chg.refl _ w) ?_ ?_ ?_ ?_
                   rotate_left; rotate_left
                   · intro e w1 hR hF K hK; (have hc := HC.out w1 hR; have hp := Hp.out; obtain ⟨hc0, hc1, hc2⟩ := hc); go_simp; (first | (refine hK _ _ (Chg.refl _ _) ?_; rfl) | (go_at_call 50; (with_reducible refine (HG.out w1).mono ?_); rintro _ w2 ⟨rfl, hs⟩; refine hK _ _ hs ?_; rfl))
                   · intro e; simp only [Act.put, List.setIfInBounds_toArray, List.set_cons_zero, List.set_cons_succ]; rfl
                   · exact Loc.const _ _))
              refine mix_nil fun e w1 hR hF => hFin _ _ ?_
              simp only [List.drop_succ_cons, List.drop_zero]
              have HS4 := hide (Same.trans Hsm.out hR)
              clear hF hFin hR
              go_wp2_with fail
              go_roundg (n2 - (i + 1))
              case measure => have := Hk.out; omega
              case rel => exact ⟨i + 1, by omega, rfl, by first | rfl | go_num, HS4.out, Hnx.out⟩
            · obtain ⟨m, hm⟩ : ∃ m, i = m + 1 := ⟨i - 1, by omega⟩
              have hml : m < s.length := by omega
              obtain ⟨b', off', hA', hbl', hd0, hd1, hd2⟩ := (HR2.out.same Hsm.out).at_ hml
              obtain ⟨e1, e2⟩ : b = b' ∧ off = off' := by cases hA'; exact ⟨rfl, rfl⟩
              subst e1
              subst e2
              clear hA' hd1 hd2
              obtain ⟨y, hy⟩ : ∃ y, s[m] = y := ⟨_, rfl⟩
              rw [hy] at hd0
              have Hy := hide hy
              clear hy
              have hwm : IntKind.i64.wrap ((i : Int) - 1) = (m : Int) := by rw [show (i : Int) - 1 = (m : Int) by omega]; exact IntWalk.i64_in _ (by omega)
              have hmn : (m : Int) < (n2 : Int) := by omega
              have hm0 : ¬ (m : Int) < 0 := by omega
              have hp : (0 : Int) < (i : Int) := by omega
              have Hm := hide hm
              have HD : Hid (∀ w', Same wr w' → w'.cell? ⟨b, off + m * 3, none⟩ = some (.int .i64 y.1)) := hide fun w' h => (h.cell (p := ⟨b, off + m * 3, none⟩) hbl' (fun f => f)).trans hd0
              clear hd0 hm
              by_cases ho : y.1 < x.1
              · have Hnx := hide (ris_next Hris.out hil (by rw [Hx.out]; exact Hgv.out) (fun m' hm' => by have e : m' = m := (by have := Hm.out; omega); subst e; rw [Hy.out, Hx.out]; exact ho))
                have Hge : NotLe x.1 y.1 := ⟨by omega⟩
                clear ho
                go_wp2_with fail
                refine wp_region_mixS 24 (by kernel_rfl) (by kernel_rfl) fun Fin hFin => ?_
                simp only [List.take_succ_cons, List.take_zero]
                iterate 24 (
                    (refine mix_lit ?_ ?_ (fun w => Chg.refl _ w) ?_ ?_ ?_ ?_
                     rotate_left; rotate_left
                     · intro e w1 hR hF K hK; (have hc := HC.out w1 hR; have hd0 := HD.out w1 hR; have hge := Hge.out; obtain ⟨hc0, hc1, hc2⟩ := hc); go_simp; (first | (refine hK _ _ (Chg.refl _ _) ?_; rfl) | (go_at_call 50; (with_reducible refine (HG.out w1).mono ?_); rintro _ w2 ⟨rfl, hs⟩; refine hK _ _ hs ?_; rfl))
                     · intro e; simp only [Act.put, List.setIfInBounds_toArray, List.set_cons_zero, List.set_cons_succ]; rfl
                     · exact Loc.const _ _))
                refine mix_nil fun e w1 hR hF => hFin _ _ ?_
                simp only [List.drop_succ_cons, List.drop_zero]
                have HS4 := hide (Same.trans Hsm.out hR)
                clear hF hFin hR
                go_wp2_with fail
                go_roundg (n2 - (i + 1))
                case measure => have := Hk.out; omega
                case rel => exact ⟨i + 1, by omega, rfl, by first | rfl | go_num, HS4.out, Hnx.out⟩
              · have Hbad := hide (ris_turn (g := fairB) Hm.out hil (by rw [Hx.out, Hy.out]; exact ho))
                have hge : x.1 ≤ y.1 := by omega
                clear ho
                go_wp2_with fail
                refine wp_region_mixS 24 (by kernel_rfl) (by kernel_rfl) fun Fin hFin => ?_
                simp only [List.take_succ_cons, List.take_zero]
                iterate 24 (
                    (refine mix_lit ?_ ?_ (fun w => Chg.refl _ w) ?_ ?_ ?_ ?_
                     rotate_left; rotate_left
                     · intro e w1 hR hF K hK; (have hc := HC.out w1 hR; have hd0 := HD.out w1 hR; obtain ⟨hc0, hc1, hc2⟩ := hc); go_simp; (first | (refine hK _ _ (Chg.refl _ _) ?_; rfl) | (go_at_call 50; (with_reducible refine (HG.out w1).mono ?_); rintro _ w2 ⟨rfl, hs⟩; refine hK _ _ hs ?_; rfl))
                     · intro e; simp only [Act.put, List.setIfInBounds_toArray, List.set_cons_zero, List.set_cons_succ]; rfl
                     · exact Loc.const _ _))
                refine mix_nil fun e w1 hR hF => hFin _ _ ?_
                simp only [List.drop_succ_cons, List.drop_zero]
                have HS4 := hide (Same.trans Hsm.out hR)
                clear hF hFin hR
                go_wp2_with fail
                go_ret
                exact ⟨by rw [HV.out, Hok1.out, Hbad.out]; rfl, HS4.out⟩
        · have hin : i = n2 := by omega
          subst hin
          have Hok := hide (ris_true (g := fairB) Hris.out (Nat.le_of_eq Hn2.out))
          go_wp2_with fail
          go_ret
          exact ⟨by rw [HV.out, Hok1.out, Hok.out]; rfl, Hsm.out⟩
end Go.Proofs.YtopkdiiigidfdaaGreat
