/-
  The document's own Plain, kind by kind: kinds 5 to 7. Conditions: at most 1048576 of each, each list rising by its ids.
-/
import Derived.Test.YtlimpepdelpogaaGreatDoorRfD
namespace Go.Proofs.YtlimpepdelpogaaGreatDoor
open Go.RowKit Go.Al
set_option linter.unusedVariables false
set_option maxHeartbeats 16000000
set_option maxRecDepth 100000
theorem plainRf_k5 {A1 A2 : Option Addr} {c1 c2 : Nat} {p s : List P3} (q : Qy) (w : World) (hc : checkE q = 0) (hkk : q.k = 5) (h1 : Row3 w A1 p.length c1 p) (h2 : Row3 w A2 s.length c2 s) (hp : p.length ≤ 1048576) (hs : s.length ≤ 1048576) (sp : Srt p) (ss : Srt s) :
    Calls Tryz.prog 37 #[qV q, .slice A1 p.length c1, .slice A2 s.length c2] w (PlainREnd w (idsOf q p s).length (lstOf q p s)) := by
  have hpb : pointsB q = false := by unfold pointsB; rw [hkk]; rfl
  have hid : idsOf q p s = gather (metB q) s s.length := by unfold idsOf; rw [hpb, gather_all]; rfl
  have hl0 : countsB q = false → lstOf q p s = idsOf q p s := fun h => by unfold lstOf; rw [h]; rfl
  have hl1 : countsB q = true → lstOf q p s = [] := fun h => by unfold lstOf; rw [h]; rfl
  obtain ⟨l, hl⟩ : ∃ l, lstOf q p s = l := ⟨_, rfl⟩
  rw [hl] at hl0 hl1 ⊢
  rw [hid] at hl0 ⊢
  clear hid hl
  have HC := hide (checkRf_any q)
  have HCn := hide (countsRf_any q)
  rw [hc] at HC
  have hs1 := ((Chg.refl (fun _ => False) w).alloc (.cells (qL q).toArray 35)).alloc (.cells #[.int .i64 0, .slice none 0 0] 41)
  have hb1 := Blk.new (w.alloc (.cells (qL q).toArray 35)) 41 #[.int .i64 0, .slice none 0 0]
  have hq1 := (Blk.new w 35 (qL q).toArray).alloc (.cells #[.int .i64 0, .slice none 0 0] 41)
  simp only [World.size_alloc] at hb1
  have Hz1 := hide (show ((w.alloc (.cells (qL q).toArray 35)).alloc (.cells #[.int .i64 0, .slice none 0 0] 41)).heap.size = w.heap.size + 2 by simp)
  have Hs1 := hide hs1
  have Hb1 := hide hb1
  have Hq1 := hide hq1
  clear hs1 hb1 hq1 hc hpb
  obtain ⟨k, a, b, c, d, e, f, g, x, h⟩ := q
  unfold qV at HC HCn ⊢
  simp only [qL] at HC HCn Hs1 Hb1 Hq1 Hz1 hkk ⊢
  obtain ⟨cb, hcb⟩ : ∃ cb, countsB ⟨k, a, b, c, d, e, f, g, x, h⟩ = cb := ⟨_, rfl⟩
  rw [hcb] at HCn hl0 hl1
  clear hcb
  have HL0 := hide hl0
  have HL1 := hide hl1
  have HR1 := hide (h1.same Hs1.out)
  have HR2 := hide (h2.same Hs1.out)
  obtain ⟨n1, hn1⟩ : ∃ n1, p.length = n1 := ⟨_, rfl⟩
  obtain ⟨n2, hn2⟩ : ∃ n2, s.length = n2 := ⟨_, rfl⟩
  rw [hn1] at hp HR1 ⊢
  rw [hn2] at hs HR2 HL0 ⊢
  have Hp := hide hn1
  have Hs := hide hn2
  have HSp := hide sp
  have HSs := hide ss
  clear hl0 hl1 h1 h2 hn1 hn2 sp ss
  subst hkk
  go_enter Tryz.func37, Tryz.ntmps37
  go_wp2_with (go_at_call 35; have hF := HC.out; refine (hF _).mono ?_; rintro e1 w2 ⟨rfl, hs9⟩; have HSw := hide (Hs1.out.same hs9); have Hz2 := hide (Nat.le_trans (Nat.le_of_eq Hz1.out.symm) hs9.size); have HA := hide (Hb1.out.same hs9); have HQ := hide (Hq1.out.same hs9); have HRa := hide (HR1.out.same hs9); have HRb := hide (HR2.out.same hs9); have hkq := (Hq1.out.same hs9).cell; clear hs9 hF HR1 HR2)
  go_loopg [7, 8] n1 (fun kk out vi wr => ∃ (i : Nat), i ≤ n1 ∧ kk = n1 - i ∧ vi = .int .i64 i ∧ out = .slice (some ⟨w2.heap.size, 0, none⟩) 0 0 ∧ wr.ownsRow w2.heap.size 3 1 (.slice (some ⟨w2.heap.size, 0, none⟩) 0 0) 0 [] ∧ Same w2 wr)
  case atStart => exact ⟨0, Nat.zero_le _, rfl, rfl, rfl, own_lit w2 w2.heap.size _ 1 #[] 0 (Nat.le_refl _) (by decide) rfl, (Chg.refl _ _).alloc _⟩
  case round =>
    obtain ⟨i, hi, hkk, rfl, rfl, hown, hsm⟩ := hrel
    have Hk := hide hkk
    have Hsm := hide hsm
    have Hown := hide hown
    clear hkk hsm hown
    by_cases hlt : i < n1
    · have HQP : Hid (∀ w1, Same wr w1 → ∀ j : Nat, w1.cell? ⟨w.heap.size, j, none⟩ = (#[.int .i64 5, .int .i64 a, .int .i64 b, .int .i64 c, .int .i64 d, .int .i64 e, .int .i64 f, .int .i64 g, .int .i64 x, .int .i64 h])[j]?) := hide fun w1 hs j => ((HQ.out.same Hsm.out).same hs).cell j
      go_wp2_with fail
      refine wp_region_mixS 43 (by kernel_rfl) (by kernel_rfl) fun Fin hFin => ?_
      simp only [List.take_succ_cons, List.take_zero]
      iterate 43 (
          (refine mix_lit ?_ ?_ (Chg.refl _) ?_ ?_ ?_ ?_; rotate_left 2
           · intro e w1 hR hF K hK; (have hqp := HQP.out _ hR); go_simp; (refine hK _ _ (Chg.refl _ _) ?_; rfl)
           · intro e; simp only [puts]; rfl
           · exact Loc.const _ _))
      refine mix_nil fun e9 w3 hR hF => hFin _ _ ?_
      simp only [List.drop_succ_cons, List.drop_zero]
      have HRq := hide hR
      have hqq := HQP.out _ hR
      clear hF hR
      go_wp2_with fail
      go_roundg (n1 - (i + 1))
      case measure => have := Hk.out; omega
      case rel => exact ⟨i + 1, by omega, rfl, by go_num, rfl, own_chg Hown.out HRq.out (fun _ _ h => h), Same.trans Hsm.out HRq.out⟩
    · have hie : n1 = i := by omega
      subst hie
      clear hi hlt
      have HownO := hide Hown.out
      have HWS := hide Hsm.out
      clear Hown Hsm
      obtain ⟨wo, rfl⟩ : ∃ wo : World, wo = wr := ⟨_, rfl⟩
      have hkqo := (HQ.out.same HWS.out).cell
      go_wp2_with fail
      go_loopg [7, 10] n2 (fun kk out vi wr => ∃ (i : Nat) (A0 : Option Addr) (c0 : Nat), i ≤ n2 ∧ kk = n2 - i ∧ vi = .int .i64 i ∧ out = .slice A0 (gather (metB ⟨5, a, b, c, d, e, f, g, x, h⟩) s i).length c0 ∧ wr.ownsRow w2.heap.size 3 1 (.slice A0 (gather (metB ⟨5, a, b, c, d, e, f, g, x, h⟩) s i).length c0) (gather (metB ⟨5, a, b, c, d, e, f, g, x, h⟩) s i).length (is (gather (metB ⟨5, a, b, c, d, e, f, g, x, h⟩) s i)) ∧ Same w2 wr)
      case atStart => exact ⟨0, _, _, Nat.zero_le _, rfl, rfl, rfl, HownO.out, HWS.out⟩
      case round =>
        obtain ⟨i, A0, c0, hi, hkk, rfl, rfl, hown, hsm⟩ := hrel
        have Hk := hide hkk
        have Hsm := hide hsm
        have Hown := hide hown
        clear hkk hsm hown
        by_cases hlt : i < n2
        · have hil : i < s.length := by rw [Hs.out]; exact hlt
          obtain ⟨b1, o1, rfl, hbl, hc0, hc1, hc2⟩ := (HRb.out.same Hsm.out).at_ hil
          obtain ⟨y1, y2, y3, hy⟩ : ∃ y1 y2 y3, s[i] = (y1, y2, y3) := ⟨_, _, _, rfl⟩
          have Hyes := hide (fun hf => gather_yes (f := metB ⟨5, a, b, c, d, e, f, g, x, h⟩) hil hf)
          have Hno := hide (fun hf => gather_no (f := metB ⟨5, a, b, c, d, e, f, g, x, h⟩) hil hf)
          have Hlen := hide (gather_len (metB ⟨5, a, b, c, d, e, f, g, x, h⟩) s i)
          rw [hy] at hc0 hc1 hc2 Hyes Hno
          simp only at hc0 hc1 hc2
          have HyL := hide hy
          clear hy
          obtain ⟨ids, hids⟩ : ∃ ids, gather (metB ⟨5, a, b, c, d, e, f, g, x, h⟩) s i = ids := ⟨_, rfl⟩
          rw [hids] at Hown Hyes Hno Hlen ⊢
          clear hids
          have HQP : Hid (∀ w1, Same wr w1 → ∀ j : Nat, w1.cell? ⟨w.heap.size, j, none⟩ = (#[.int .i64 5, .int .i64 a, .int .i64 b, .int .i64 c, .int .i64 d, .int .i64 e, .int .i64 f, .int .i64 g, .int .i64 x, .int .i64 h])[j]?) := hide fun w1 hs j => ((HQ.out.same Hsm.out).same hs).cell j
          have HP0 : Hid (∀ w1, Same wr w1 → w1.cell? ⟨b1, o1 + i * 3, none⟩ = some (.int .i64 y1)) := hide fun w1 hs => (hs.cell (p := ⟨b1, o1 + i * 3, none⟩) (World.block_lt_of_cell? _ _ hc0) (fun h => h)).trans hc0
          have HP1 : Hid (∀ w1, Same wr w1 → w1.cell? ⟨b1, o1 + i * 3 + 1, none⟩ = some (.int .i64 y2)) := hide fun w1 hs => (hs.cell (p := ⟨b1, o1 + i * 3 + 1, none⟩) (World.block_lt_of_cell? _ _ hc1) (fun h => h)).trans hc1
          have HP2 : Hid (∀ w1, Same wr w1 → w1.cell? ⟨b1, o1 + i * 3 + 2, none⟩ = some (.int .i64 y3)) := hide fun w1 hs => (hs.cell (p := ⟨b1, o1 + i * 3 + 2, none⟩) (World.block_lt_of_cell? _ _ hc2) (fun h => h)).trans hc2
          have qi1 : (i : Int) < (n2 : Int) := by omega
          have qi0 : (0 : Int) ≤ (i : Int) := by omega
          have qd : decide (i < n2) = true := by simpa using hlt
          obtain ⟨vv, hv⟩ : ∃ v, metB ⟨5, a, b, c, d, e, f, g, x, h⟩ (y1, y2, y3) = v := ⟨_, rfl⟩
          cases vv
          all_goals
            have Hv := hide hv
            have HHit := hide (fun w => by have := overRf_any (y1, y2, y3) (0, x, x) w; rw [show overB (y1, y2, y3) (0, x, x) = metB ⟨5, a, b, c, d, e, f, g, x, h⟩ (y1, y2, y3) from by rw [over_one]; rfl, hv] at this; exact this)
            unfold agg3 at HHit
            simp only at HHit
            clear hv
            have bnd : (ids.length + 1) * 8 ≤ 140737488355328 ∧ ids.length + 1 ≤ 140737488355328 := by have := Hlen.out; have := Hs.out; omega
            have Bnd := hide bnd
            clear bnd
            go_wp2_with fail
            refine wp_region_mixS 14 (by kernel_rfl) (by kernel_rfl) fun Fin hFin => ?_
            simp only [List.take_succ_cons, List.take_zero]
            iterate 14 (
                (refine mix_lit ?_ ?_ (Chg.refl _) ?_ ?_ ?_ ?_; rotate_left 2
                 · intro e w1 hR hF K hK; (have hqp := HQP.out _ hR; have hp0 := HP0.out _ hR; have hp1 := HP1.out _ hR; have hp2 := HP2.out _ hR); go_simp; (first | (refine hK _ _ (Chg.refl _ _) ?_; rfl) | (go_at_call 67; (with_reducible refine (HHit.out _).mono ?_); rintro _ w2 ⟨rfl, hs⟩; refine hK _ _ hs ?_; rfl))
                 · intro e; simp only [puts]; rfl
                 · exact Loc.const _ _))
            refine mix_nil fun e9 w3 hR hF => hFin _ _ ?_
            simp only [List.drop_succ_cons, List.drop_zero]
            have HRq := hide hR
            have hq0 := HP0.out _ hR
            have hqq := HQP.out _ hR
            clear hF hR
            go_wp2_with (at_builtin; refine wpList_appS (by rfl) (.tmp 100) (.tmp 106) _ (by rfl) slI (by rfl) (base := w2.heap.size) (by exact own_chg Hown.out (HRq.out.alloc _) (fun _ _ h => h)) (by rfl) (by rfl) (by exact rd_new w3 _ _) (one_is [y1]) Bnd.out.1 Bnd.out.2 (by have := (Hsm.out.trans HRq.out).size; simp; omega) ?_; intro A' c' w7 hown hc hb; have Hown7 := hide hown; have Hc7 := hide hc; clear hown hc hb)
            go_roundg (n2 - (i + 1))
            case measure => have := Hk.out; omega
            case rel => first | exact relNo i hlt Hno.out Hv.out Hown.out Hsm.out HRq.out _ (by go_num) | exact relYes i hlt Hyes.out Hv.out Hown.out Hown7.out Hsm.out HRq.out Hc7.out _ (by go_num)
        · have hie : n2 = i := by omega
          subst hie
          clear hi hlt
          obtain ⟨ids, hids⟩ : ∃ ids, gather (metB ⟨5, a, b, c, d, e, f, g, x, h⟩) s n2 = ids := ⟨_, rfl⟩
          have HlenT := hide (gather_len (metB ⟨5, a, b, c, d, e, f, g, x, h⟩) s n2)
          have Hsrt := hide (gather_sorted (f := metB ⟨5, a, b, c, d, e, f, g, x, h⟩) HSs.out n2)
          rw [hids] at HL0 Hown HlenT Hsrt ⊢
          have Hids := hide hids
          clear hids
          have HT := hide Hsm.out
          have HownT := hide Hown.out
          have HLs := hide (show ids.length ≤ 1048576 by have := HlenT.out; have := Hs.out; omega)
          have hkq9 := (HQ.out.same HT.out).cell
          have hkaT := (HA.out.same HT.out).cell
          have hkfT := (HA.out.same HT.out).frozen
          have HRis : Hid (∀ w', Same wr w' → Calls Tryz.prog 68 #[.slice A0 ids.length c0] w' (RisEnd w' ids)) := hide fun w' hs => by
            have := rising_any (c := c0) ids w' (own_rd (own_chg HownT.out hs (fun _ _ h => h))) HLs.out
            rw [risI_sorted Hsrt.out] at this
            exact this
          rcases cb with _ | _
          · have HLa := hide (HL0.out rfl)
            clear HL0 HL1
            go_wp2_with (first
              | (go_at_call 64; have hF := HCn.out; refine (hF _).mono ?_; rintro e w8 ⟨rfl, hs⟩; have Hs8 := hide hs; have hka8 := ((HA.out.same HT.out).same hs).cell; have hkf8 := ((HA.out.same HT.out).same hs).frozen; clear hs hF)
              | (go_at_call 68; have hF := HRis.out _ Hs8.out; refine hF.mono ?_; rintro e w9 ⟨A9, c9, rfl, hr9, hl9, hm9, hs9, hf9⟩; have HR9 := hide (And.intro hr9 (And.intro hl9 (And.intro hm9 hf9))); have Hs9 := hide hs9; have hka9 := (((HA.out.same HT.out).same Hs8.out).same hs9).cell; have hkf9 := (((HA.out.same HT.out).same Hs8.out).same hs9).frozen; clear hr9 hl9 hm9 hs9 hf9 hF))
            have hs9 : Same wr w9 := Same.trans Hs8.out Hs9.out
            have hb3 := (((HA.out.same HT.out).same hs9).set_ 0 (.int .i64 ids.length)).set_ 1 (.slice A9 ids.length c9)
            have hz : w.heap.size + 2 ≤ w8.heap.size := Nat.le_trans Hz2.out (Nat.le_trans HT.out.size Hs8.out.size)
            refine bodyPost_ret (results_cell_row rfl _ _ _ _ _ _ _ rfl hb3 Tryz.underlying41 rfl (by kernel_rfl)) rfl ⟨A9, c9, by rw [Hids.out, HLa.out]; simp, ?_, by rw [HLa.out]; exact HR9.out.2.1, HR9.out.2.2.1, ?_, fun b hb => (by have h7 : w8.heap.size ≤ b := HR9.out.2.2.2 b hb; omega)⟩
            · rw [HLa.out]
              exact (HR9.out.1.setCell (p := ⟨w.heap.size + 1, 0, none⟩) (fun e => by have h7 : w8.heap.size ≤ w.heap.size + 1 := HR9.out.2.2.2 _ e; omega) _).setCell (p := ⟨w.heap.size + 1, 1, none⟩) (fun e => by have h7 : w8.heap.size ≤ w.heap.size + 1 := HR9.out.2.2.2 _ e; omega) _
            · exact (((HSw.out.same HT.out).same hs9).setCell (p := ⟨w.heap.size + 1, 0, none⟩) (.inr (by simp)) _).setCell (p := ⟨w.heap.size + 1, 1, none⟩) (.inr (by simp)) _
          · have HLb := hide (HL1.out rfl)
            clear HL0 HL1
            go_wp2_with (go_at_call 64; have hF := HCn.out; refine (hF _).mono ?_; rintro e w8 ⟨rfl, hs⟩; have Hs8 := hide hs; have hka8 := ((HA.out.same HT.out).same hs).cell; have hkf8 := ((HA.out.same HT.out).same hs).frozen; clear hs hF)
            have hb3 := (((HA.out.same HT.out).same Hs8.out).set_ 0 (.int .i64 ids.length)).set_ 1 (.slice none 0 0)
            refine bodyPost_ret (results_cell_row rfl _ _ _ _ _ _ _ rfl hb3 Tryz.underlying41 rfl (by kernel_rfl)) rfl ⟨none, 0, by rw [Hids.out, HLb.out]; simp, by rw [HLb.out]; exact Rd.nil _ _, by rw [HLb.out]; exact Nat.le_refl _, Nat.zero_le _, ?_, fun b hb => (by simp [blkOf] at hb)⟩
            exact (((HSw.out.same HT.out).same Hs8.out).setCell (p := ⟨w.heap.size + 1, 0, none⟩) (.inr (by simp)) _).setCell (p := ⟨w.heap.size + 1, 1, none⟩) (.inr (by simp)) _
theorem plainRf_k6 {A1 A2 : Option Addr} {c1 c2 : Nat} {p s : List P3} (q : Qy) (w : World) (hc : checkE q = 0) (hkk : q.k = 6) (h1 : Row3 w A1 p.length c1 p) (h2 : Row3 w A2 s.length c2 s) (hp : p.length ≤ 1048576) (hs : s.length ≤ 1048576) (sp : Srt p) (ss : Srt s) :
    Calls Tryz.prog 37 #[qV q, .slice A1 p.length c1, .slice A2 s.length c2] w (PlainREnd w (idsOf q p s).length (lstOf q p s)) := by
  have hpb : pointsB q = false := by unfold pointsB; rw [hkk]; rfl
  have hid : idsOf q p s = gather (metB q) s s.length := by unfold idsOf; rw [hpb, gather_all]; rfl
  have hl0 : countsB q = false → lstOf q p s = idsOf q p s := fun h => by unfold lstOf; rw [h]; rfl
  have hl1 : countsB q = true → lstOf q p s = [] := fun h => by unfold lstOf; rw [h]; rfl
  obtain ⟨l, hl⟩ : ∃ l, lstOf q p s = l := ⟨_, rfl⟩
  rw [hl] at hl0 hl1 ⊢
  rw [hid] at hl0 ⊢
  clear hid hl
  have HC := hide (checkRf_any q)
  have HCn := hide (countsRf_any q)
  rw [hc] at HC
  have hs1 := ((Chg.refl (fun _ => False) w).alloc (.cells (qL q).toArray 35)).alloc (.cells #[.int .i64 0, .slice none 0 0] 41)
  have hb1 := Blk.new (w.alloc (.cells (qL q).toArray 35)) 41 #[.int .i64 0, .slice none 0 0]
  have hq1 := (Blk.new w 35 (qL q).toArray).alloc (.cells #[.int .i64 0, .slice none 0 0] 41)
  simp only [World.size_alloc] at hb1
  have Hz1 := hide (show ((w.alloc (.cells (qL q).toArray 35)).alloc (.cells #[.int .i64 0, .slice none 0 0] 41)).heap.size = w.heap.size + 2 by simp)
  have Hs1 := hide hs1
  have Hb1 := hide hb1
  have Hq1 := hide hq1
  clear hs1 hb1 hq1 hc hpb
  obtain ⟨k, a, b, c, d, e, f, g, x, h⟩ := q
  unfold qV at HC HCn ⊢
  simp only [qL] at HC HCn Hs1 Hb1 Hq1 Hz1 hkk ⊢
  obtain ⟨cb, hcb⟩ : ∃ cb, countsB ⟨k, a, b, c, d, e, f, g, x, h⟩ = cb := ⟨_, rfl⟩
  rw [hcb] at HCn hl0 hl1
  clear hcb
  have HL0 := hide hl0
  have HL1 := hide hl1
  have HR1 := hide (h1.same Hs1.out)
  have HR2 := hide (h2.same Hs1.out)
  obtain ⟨n1, hn1⟩ : ∃ n1, p.length = n1 := ⟨_, rfl⟩
  obtain ⟨n2, hn2⟩ : ∃ n2, s.length = n2 := ⟨_, rfl⟩
  rw [hn1] at hp HR1 ⊢
  rw [hn2] at hs HR2 HL0 ⊢
  have Hp := hide hn1
  have Hs := hide hn2
  have HSp := hide sp
  have HSs := hide ss
  clear hl0 hl1 h1 h2 hn1 hn2 sp ss
  subst hkk
  go_enter Tryz.func37, Tryz.ntmps37
  go_wp2_with (go_at_call 35; have hF := HC.out; refine (hF _).mono ?_; rintro e1 w2 ⟨rfl, hs9⟩; have HSw := hide (Hs1.out.same hs9); have Hz2 := hide (Nat.le_trans (Nat.le_of_eq Hz1.out.symm) hs9.size); have HA := hide (Hb1.out.same hs9); have HQ := hide (Hq1.out.same hs9); have HRa := hide (HR1.out.same hs9); have HRb := hide (HR2.out.same hs9); have hkq := (Hq1.out.same hs9).cell; clear hs9 hF HR1 HR2)
  go_loopg [7, 8] n1 (fun kk out vi wr => ∃ (i : Nat), i ≤ n1 ∧ kk = n1 - i ∧ vi = .int .i64 i ∧ out = .slice (some ⟨w2.heap.size, 0, none⟩) 0 0 ∧ wr.ownsRow w2.heap.size 3 1 (.slice (some ⟨w2.heap.size, 0, none⟩) 0 0) 0 [] ∧ Same w2 wr)
  case atStart => exact ⟨0, Nat.zero_le _, rfl, rfl, rfl, own_lit w2 w2.heap.size _ 1 #[] 0 (Nat.le_refl _) (by decide) rfl, (Chg.refl _ _).alloc _⟩
  case round =>
    obtain ⟨i, hi, hkk, rfl, rfl, hown, hsm⟩ := hrel
    have Hk := hide hkk
    have Hsm := hide hsm
    have Hown := hide hown
    clear hkk hsm hown
    by_cases hlt : i < n1
    · have HQP : Hid (∀ w1, Same wr w1 → ∀ j : Nat, w1.cell? ⟨w.heap.size, j, none⟩ = (#[.int .i64 6, .int .i64 a, .int .i64 b, .int .i64 c, .int .i64 d, .int .i64 e, .int .i64 f, .int .i64 g, .int .i64 x, .int .i64 h])[j]?) := hide fun w1 hs j => ((HQ.out.same Hsm.out).same hs).cell j
      go_wp2_with fail
      refine wp_region_mixS 43 (by kernel_rfl) (by kernel_rfl) fun Fin hFin => ?_
      simp only [List.take_succ_cons, List.take_zero]
      iterate 43 (
          (refine mix_lit ?_ ?_ (Chg.refl _) ?_ ?_ ?_ ?_; rotate_left 2
           · intro e w1 hR hF K hK; (have hqp := HQP.out _ hR); go_simp; (refine hK _ _ (Chg.refl _ _) ?_; rfl)
           · intro e; simp only [puts]; rfl
           · exact Loc.const _ _))
      refine mix_nil fun e9 w3 hR hF => hFin _ _ ?_
      simp only [List.drop_succ_cons, List.drop_zero]
      have HRq := hide hR
      have hqq := HQP.out _ hR
      clear hF hR
      go_wp2_with fail
      go_roundg (n1 - (i + 1))
      case measure => have := Hk.out; omega
      case rel => exact ⟨i + 1, by omega, rfl, by go_num, rfl, own_chg Hown.out HRq.out (fun _ _ h => h), Same.trans Hsm.out HRq.out⟩
    · have hie : n1 = i := by omega
      subst hie
      clear hi hlt
      have HownO := hide Hown.out
      have HWS := hide Hsm.out
      clear Hown Hsm
      obtain ⟨wo, rfl⟩ : ∃ wo : World, wo = wr := ⟨_, rfl⟩
      have hkqo := (HQ.out.same HWS.out).cell
      go_wp2_with fail
      go_loopg [7, 10] n2 (fun kk out vi wr => ∃ (i : Nat) (A0 : Option Addr) (c0 : Nat), i ≤ n2 ∧ kk = n2 - i ∧ vi = .int .i64 i ∧ out = .slice A0 (gather (metB ⟨6, a, b, c, d, e, f, g, x, h⟩) s i).length c0 ∧ wr.ownsRow w2.heap.size 3 1 (.slice A0 (gather (metB ⟨6, a, b, c, d, e, f, g, x, h⟩) s i).length c0) (gather (metB ⟨6, a, b, c, d, e, f, g, x, h⟩) s i).length (is (gather (metB ⟨6, a, b, c, d, e, f, g, x, h⟩) s i)) ∧ Same w2 wr)
      case atStart => exact ⟨0, _, _, Nat.zero_le _, rfl, rfl, rfl, HownO.out, HWS.out⟩
      case round =>
        obtain ⟨i, A0, c0, hi, hkk, rfl, rfl, hown, hsm⟩ := hrel
        have Hk := hide hkk
        have Hsm := hide hsm
        have Hown := hide hown
        clear hkk hsm hown
        by_cases hlt : i < n2
        · have hil : i < s.length := by rw [Hs.out]; exact hlt
          obtain ⟨b1, o1, rfl, hbl, hc0, hc1, hc2⟩ := (HRb.out.same Hsm.out).at_ hil
          obtain ⟨y1, y2, y3, hy⟩ : ∃ y1 y2 y3, s[i] = (y1, y2, y3) := ⟨_, _, _, rfl⟩
          have Hyes := hide (fun hf => gather_yes (f := metB ⟨6, a, b, c, d, e, f, g, x, h⟩) hil hf)
          have Hno := hide (fun hf => gather_no (f := metB ⟨6, a, b, c, d, e, f, g, x, h⟩) hil hf)
          have Hlen := hide (gather_len (metB ⟨6, a, b, c, d, e, f, g, x, h⟩) s i)
          rw [hy] at hc0 hc1 hc2 Hyes Hno
          simp only at hc0 hc1 hc2
          have HyL := hide hy
          clear hy
          obtain ⟨ids, hids⟩ : ∃ ids, gather (metB ⟨6, a, b, c, d, e, f, g, x, h⟩) s i = ids := ⟨_, rfl⟩
          rw [hids] at Hown Hyes Hno Hlen ⊢
          clear hids
          have HQP : Hid (∀ w1, Same wr w1 → ∀ j : Nat, w1.cell? ⟨w.heap.size, j, none⟩ = (#[.int .i64 6, .int .i64 a, .int .i64 b, .int .i64 c, .int .i64 d, .int .i64 e, .int .i64 f, .int .i64 g, .int .i64 x, .int .i64 h])[j]?) := hide fun w1 hs j => ((HQ.out.same Hsm.out).same hs).cell j
          have HP0 : Hid (∀ w1, Same wr w1 → w1.cell? ⟨b1, o1 + i * 3, none⟩ = some (.int .i64 y1)) := hide fun w1 hs => (hs.cell (p := ⟨b1, o1 + i * 3, none⟩) (World.block_lt_of_cell? _ _ hc0) (fun h => h)).trans hc0
          have HP1 : Hid (∀ w1, Same wr w1 → w1.cell? ⟨b1, o1 + i * 3 + 1, none⟩ = some (.int .i64 y2)) := hide fun w1 hs => (hs.cell (p := ⟨b1, o1 + i * 3 + 1, none⟩) (World.block_lt_of_cell? _ _ hc1) (fun h => h)).trans hc1
          have HP2 : Hid (∀ w1, Same wr w1 → w1.cell? ⟨b1, o1 + i * 3 + 2, none⟩ = some (.int .i64 y3)) := hide fun w1 hs => (hs.cell (p := ⟨b1, o1 + i * 3 + 2, none⟩) (World.block_lt_of_cell? _ _ hc2) (fun h => h)).trans hc2
          have qi1 : (i : Int) < (n2 : Int) := by omega
          have qi0 : (0 : Int) ≤ (i : Int) := by omega
          have qd : decide (i < n2) = true := by simpa using hlt
          obtain ⟨vv, hv⟩ : ∃ v, metB ⟨6, a, b, c, d, e, f, g, x, h⟩ (y1, y2, y3) = v := ⟨_, rfl⟩
          cases vv
          all_goals
            have Hv := hide hv
            have HHit := hide (fun w => by have := overRf_any (y1, y2, y3) (0, x, h) w; rw [show overB (y1, y2, y3) (0, x, h) = metB ⟨6, a, b, c, d, e, f, g, x, h⟩ (y1, y2, y3) from rfl, hv] at this; exact this)
            unfold agg3 at HHit
            simp only at HHit
            clear hv
            have bnd : (ids.length + 1) * 8 ≤ 140737488355328 ∧ ids.length + 1 ≤ 140737488355328 := by have := Hlen.out; have := Hs.out; omega
            have Bnd := hide bnd
            clear bnd
            go_wp2_with fail
            refine wp_region_mixS 14 (by kernel_rfl) (by kernel_rfl) fun Fin hFin => ?_
            simp only [List.take_succ_cons, List.take_zero]
            iterate 14 (
                (refine mix_lit ?_ ?_ (Chg.refl _) ?_ ?_ ?_ ?_; rotate_left 2
                 · intro e w1 hR hF K hK; (have hqp := HQP.out _ hR; have hp0 := HP0.out _ hR; have hp1 := HP1.out _ hR; have hp2 := HP2.out _ hR); go_simp; (first | (refine hK _ _ (Chg.refl _ _) ?_; rfl) | (go_at_call 67; (with_reducible refine (HHit.out _).mono ?_); rintro _ w2 ⟨rfl, hs⟩; refine hK _ _ hs ?_; rfl))
                 · intro e; simp only [puts]; rfl
                 · exact Loc.const _ _))
            refine mix_nil fun e9 w3 hR hF => hFin _ _ ?_
            simp only [List.drop_succ_cons, List.drop_zero]
            have HRq := hide hR
            have hq0 := HP0.out _ hR
            have hqq := HQP.out _ hR
            clear hF hR
            go_wp2_with (at_builtin; refine wpList_appS (by rfl) (.tmp 100) (.tmp 106) _ (by rfl) slI (by rfl) (base := w2.heap.size) (by exact own_chg Hown.out (HRq.out.alloc _) (fun _ _ h => h)) (by rfl) (by rfl) (by exact rd_new w3 _ _) (one_is [y1]) Bnd.out.1 Bnd.out.2 (by have := (Hsm.out.trans HRq.out).size; simp; omega) ?_; intro A' c' w7 hown hc hb; have Hown7 := hide hown; have Hc7 := hide hc; clear hown hc hb)
            go_roundg (n2 - (i + 1))
            case measure => have := Hk.out; omega
            case rel => first | exact relNo i hlt Hno.out Hv.out Hown.out Hsm.out HRq.out _ (by go_num) | exact relYes i hlt Hyes.out Hv.out Hown.out Hown7.out Hsm.out HRq.out Hc7.out _ (by go_num)
        · have hie : n2 = i := by omega
          subst hie
          clear hi hlt
          obtain ⟨ids, hids⟩ : ∃ ids, gather (metB ⟨6, a, b, c, d, e, f, g, x, h⟩) s n2 = ids := ⟨_, rfl⟩
          have HlenT := hide (gather_len (metB ⟨6, a, b, c, d, e, f, g, x, h⟩) s n2)
          have Hsrt := hide (gather_sorted (f := metB ⟨6, a, b, c, d, e, f, g, x, h⟩) HSs.out n2)
          rw [hids] at HL0 Hown HlenT Hsrt ⊢
          have Hids := hide hids
          clear hids
          have HT := hide Hsm.out
          have HownT := hide Hown.out
          have HLs := hide (show ids.length ≤ 1048576 by have := HlenT.out; have := Hs.out; omega)
          have hkq9 := (HQ.out.same HT.out).cell
          have hkaT := (HA.out.same HT.out).cell
          have hkfT := (HA.out.same HT.out).frozen
          have HRis : Hid (∀ w', Same wr w' → Calls Tryz.prog 68 #[.slice A0 ids.length c0] w' (RisEnd w' ids)) := hide fun w' hs => by
            have := rising_any (c := c0) ids w' (own_rd (own_chg HownT.out hs (fun _ _ h => h))) HLs.out
            rw [risI_sorted Hsrt.out] at this
            exact this
          rcases cb with _ | _
          · have HLa := hide (HL0.out rfl)
            clear HL0 HL1
            go_wp2_with (first
              | (go_at_call 64; have hF := HCn.out; refine (hF _).mono ?_; rintro e w8 ⟨rfl, hs⟩; have Hs8 := hide hs; have hka8 := ((HA.out.same HT.out).same hs).cell; have hkf8 := ((HA.out.same HT.out).same hs).frozen; clear hs hF)
              | (go_at_call 68; have hF := HRis.out _ Hs8.out; refine hF.mono ?_; rintro e w9 ⟨A9, c9, rfl, hr9, hl9, hm9, hs9, hf9⟩; have HR9 := hide (And.intro hr9 (And.intro hl9 (And.intro hm9 hf9))); have Hs9 := hide hs9; have hka9 := (((HA.out.same HT.out).same Hs8.out).same hs9).cell; have hkf9 := (((HA.out.same HT.out).same Hs8.out).same hs9).frozen; clear hr9 hl9 hm9 hs9 hf9 hF))
            have hs9 : Same wr w9 := Same.trans Hs8.out Hs9.out
            have hb3 := (((HA.out.same HT.out).same hs9).set_ 0 (.int .i64 ids.length)).set_ 1 (.slice A9 ids.length c9)
            have hz : w.heap.size + 2 ≤ w8.heap.size := Nat.le_trans Hz2.out (Nat.le_trans HT.out.size Hs8.out.size)
            refine bodyPost_ret (results_cell_row rfl _ _ _ _ _ _ _ rfl hb3 Tryz.underlying41 rfl (by kernel_rfl)) rfl ⟨A9, c9, by rw [Hids.out, HLa.out]; simp, ?_, by rw [HLa.out]; exact HR9.out.2.1, HR9.out.2.2.1, ?_, fun b hb => (by have h7 : w8.heap.size ≤ b := HR9.out.2.2.2 b hb; omega)⟩
            · rw [HLa.out]
              exact (HR9.out.1.setCell (p := ⟨w.heap.size + 1, 0, none⟩) (fun e => by have h7 : w8.heap.size ≤ w.heap.size + 1 := HR9.out.2.2.2 _ e; omega) _).setCell (p := ⟨w.heap.size + 1, 1, none⟩) (fun e => by have h7 : w8.heap.size ≤ w.heap.size + 1 := HR9.out.2.2.2 _ e; omega) _
            · exact (((HSw.out.same HT.out).same hs9).setCell (p := ⟨w.heap.size + 1, 0, none⟩) (.inr (by simp)) _).setCell (p := ⟨w.heap.size + 1, 1, none⟩) (.inr (by simp)) _
          · have HLb := hide (HL1.out rfl)
            clear HL0 HL1
            go_wp2_with (go_at_call 64; have hF := HCn.out; refine (hF _).mono ?_; rintro e w8 ⟨rfl, hs⟩; have Hs8 := hide hs; have hka8 := ((HA.out.same HT.out).same hs).cell; have hkf8 := ((HA.out.same HT.out).same hs).frozen; clear hs hF)
            have hb3 := (((HA.out.same HT.out).same Hs8.out).set_ 0 (.int .i64 ids.length)).set_ 1 (.slice none 0 0)
            refine bodyPost_ret (results_cell_row rfl _ _ _ _ _ _ _ rfl hb3 Tryz.underlying41 rfl (by kernel_rfl)) rfl ⟨none, 0, by rw [Hids.out, HLb.out]; simp, by rw [HLb.out]; exact Rd.nil _ _, by rw [HLb.out]; exact Nat.le_refl _, Nat.zero_le _, ?_, fun b hb => (by simp [blkOf] at hb)⟩
            exact (((HSw.out.same HT.out).same Hs8.out).setCell (p := ⟨w.heap.size + 1, 0, none⟩) (.inr (by simp)) _).setCell (p := ⟨w.heap.size + 1, 1, none⟩) (.inr (by simp)) _
theorem plainRf_k7 {A1 A2 : Option Addr} {c1 c2 : Nat} {p s : List P3} (q : Qy) (w : World) (hc : checkE q = 0) (hkk : q.k = 7) (h1 : Row3 w A1 p.length c1 p) (h2 : Row3 w A2 s.length c2 s) (hp : p.length ≤ 1048576) (hs : s.length ≤ 1048576) (sp : Srt p) (ss : Srt s) :
    Calls Tryz.prog 37 #[qV q, .slice A1 p.length c1, .slice A2 s.length c2] w (PlainREnd w (idsOf q p s).length (lstOf q p s)) := by
  have hpb : pointsB q = false := by unfold pointsB; rw [hkk]; rfl
  have hid : idsOf q p s = gather (metB q) s s.length := by unfold idsOf; rw [hpb, gather_all]; rfl
  have hl0 : countsB q = false → lstOf q p s = idsOf q p s := fun h => by unfold lstOf; rw [h]; rfl
  have hl1 : countsB q = true → lstOf q p s = [] := fun h => by unfold lstOf; rw [h]; rfl
  obtain ⟨l, hl⟩ : ∃ l, lstOf q p s = l := ⟨_, rfl⟩
  rw [hl] at hl0 hl1 ⊢
  rw [hid] at hl0 ⊢
  clear hid hl
  have HC := hide (checkRf_any q)
  have HCn := hide (countsRf_any q)
  rw [hc] at HC
  have hs1 := ((Chg.refl (fun _ => False) w).alloc (.cells (qL q).toArray 35)).alloc (.cells #[.int .i64 0, .slice none 0 0] 41)
  have hb1 := Blk.new (w.alloc (.cells (qL q).toArray 35)) 41 #[.int .i64 0, .slice none 0 0]
  have hq1 := (Blk.new w 35 (qL q).toArray).alloc (.cells #[.int .i64 0, .slice none 0 0] 41)
  simp only [World.size_alloc] at hb1
  have Hz1 := hide (show ((w.alloc (.cells (qL q).toArray 35)).alloc (.cells #[.int .i64 0, .slice none 0 0] 41)).heap.size = w.heap.size + 2 by simp)
  have Hs1 := hide hs1
  have Hb1 := hide hb1
  have Hq1 := hide hq1
  clear hs1 hb1 hq1 hc hpb
  obtain ⟨k, a, b, c, d, e, f, g, x, h⟩ := q
  unfold qV at HC HCn ⊢
  simp only [qL] at HC HCn Hs1 Hb1 Hq1 Hz1 hkk ⊢
  obtain ⟨cb, hcb⟩ : ∃ cb, countsB ⟨k, a, b, c, d, e, f, g, x, h⟩ = cb := ⟨_, rfl⟩
  rw [hcb] at HCn hl0 hl1
  clear hcb
  have HL0 := hide hl0
  have HL1 := hide hl1
  have HR1 := hide (h1.same Hs1.out)
  have HR2 := hide (h2.same Hs1.out)
  obtain ⟨n1, hn1⟩ : ∃ n1, p.length = n1 := ⟨_, rfl⟩
  obtain ⟨n2, hn2⟩ : ∃ n2, s.length = n2 := ⟨_, rfl⟩
  rw [hn1] at hp HR1 ⊢
  rw [hn2] at hs HR2 HL0 ⊢
  have Hp := hide hn1
  have Hs := hide hn2
  have HSp := hide sp
  have HSs := hide ss
  clear hl0 hl1 h1 h2 hn1 hn2 sp ss
  subst hkk
  go_enter Tryz.func37, Tryz.ntmps37
  go_wp2_with (go_at_call 35; have hF := HC.out; refine (hF _).mono ?_; rintro e1 w2 ⟨rfl, hs9⟩; have HSw := hide (Hs1.out.same hs9); have Hz2 := hide (Nat.le_trans (Nat.le_of_eq Hz1.out.symm) hs9.size); have HA := hide (Hb1.out.same hs9); have HQ := hide (Hq1.out.same hs9); have HRa := hide (HR1.out.same hs9); have HRb := hide (HR2.out.same hs9); have hkq := (Hq1.out.same hs9).cell; clear hs9 hF HR1 HR2)
  go_loopg [7, 8] n1 (fun kk out vi wr => ∃ (i : Nat), i ≤ n1 ∧ kk = n1 - i ∧ vi = .int .i64 i ∧ out = .slice (some ⟨w2.heap.size, 0, none⟩) 0 0 ∧ wr.ownsRow w2.heap.size 3 1 (.slice (some ⟨w2.heap.size, 0, none⟩) 0 0) 0 [] ∧ Same w2 wr)
  case atStart => exact ⟨0, Nat.zero_le _, rfl, rfl, rfl, own_lit w2 w2.heap.size _ 1 #[] 0 (Nat.le_refl _) (by decide) rfl, (Chg.refl _ _).alloc _⟩
  case round =>
    obtain ⟨i, hi, hkk, rfl, rfl, hown, hsm⟩ := hrel
    have Hk := hide hkk
    have Hsm := hide hsm
    have Hown := hide hown
    clear hkk hsm hown
    by_cases hlt : i < n1
    · have HQP : Hid (∀ w1, Same wr w1 → ∀ j : Nat, w1.cell? ⟨w.heap.size, j, none⟩ = (#[.int .i64 7, .int .i64 a, .int .i64 b, .int .i64 c, .int .i64 d, .int .i64 e, .int .i64 f, .int .i64 g, .int .i64 x, .int .i64 h])[j]?) := hide fun w1 hs j => ((HQ.out.same Hsm.out).same hs).cell j
      go_wp2_with fail
      refine wp_region_mixS 43 (by kernel_rfl) (by kernel_rfl) fun Fin hFin => ?_
      simp only [List.take_succ_cons, List.take_zero]
      iterate 43 (
          (refine mix_lit ?_ ?_ (Chg.refl _) ?_ ?_ ?_ ?_; rotate_left 2
           · intro e w1 hR hF K hK; (have hqp := HQP.out _ hR); go_simp; (refine hK _ _ (Chg.refl _ _) ?_; rfl)
           · intro e; simp only [puts]; rfl
           · exact Loc.const _ _))
      refine mix_nil fun e9 w3 hR hF => hFin _ _ ?_
      simp only [List.drop_succ_cons, List.drop_zero]
      have HRq := hide hR
      have hqq := HQP.out _ hR
      clear hF hR
      go_wp2_with fail
      go_roundg (n1 - (i + 1))
      case measure => have := Hk.out; omega
      case rel => exact ⟨i + 1, by omega, rfl, by go_num, rfl, own_chg Hown.out HRq.out (fun _ _ h => h), Same.trans Hsm.out HRq.out⟩
    · have hie : n1 = i := by omega
      subst hie
      clear hi hlt
      have HownO := hide Hown.out
      have HWS := hide Hsm.out
      clear Hown Hsm
      obtain ⟨wo, rfl⟩ : ∃ wo : World, wo = wr := ⟨_, rfl⟩
      have hkqo := (HQ.out.same HWS.out).cell
      go_wp2_with fail
      go_loopg [7, 10] n2 (fun kk out vi wr => ∃ (i : Nat) (A0 : Option Addr) (c0 : Nat), i ≤ n2 ∧ kk = n2 - i ∧ vi = .int .i64 i ∧ out = .slice A0 (gather (metB ⟨7, a, b, c, d, e, f, g, x, h⟩) s i).length c0 ∧ wr.ownsRow w2.heap.size 3 1 (.slice A0 (gather (metB ⟨7, a, b, c, d, e, f, g, x, h⟩) s i).length c0) (gather (metB ⟨7, a, b, c, d, e, f, g, x, h⟩) s i).length (is (gather (metB ⟨7, a, b, c, d, e, f, g, x, h⟩) s i)) ∧ Same w2 wr)
      case atStart => exact ⟨0, _, _, Nat.zero_le _, rfl, rfl, rfl, HownO.out, HWS.out⟩
      case round =>
        obtain ⟨i, A0, c0, hi, hkk, rfl, rfl, hown, hsm⟩ := hrel
        have Hk := hide hkk
        have Hsm := hide hsm
        have Hown := hide hown
        clear hkk hsm hown
        by_cases hlt : i < n2
        · have hil : i < s.length := by rw [Hs.out]; exact hlt
          obtain ⟨b1, o1, rfl, hbl, hc0, hc1, hc2⟩ := (HRb.out.same Hsm.out).at_ hil
          obtain ⟨y1, y2, y3, hy⟩ : ∃ y1 y2 y3, s[i] = (y1, y2, y3) := ⟨_, _, _, rfl⟩
          have Hyes := hide (fun hf => gather_yes (f := metB ⟨7, a, b, c, d, e, f, g, x, h⟩) hil hf)
          have Hno := hide (fun hf => gather_no (f := metB ⟨7, a, b, c, d, e, f, g, x, h⟩) hil hf)
          have Hlen := hide (gather_len (metB ⟨7, a, b, c, d, e, f, g, x, h⟩) s i)
          rw [hy] at hc0 hc1 hc2 Hyes Hno
          simp only at hc0 hc1 hc2
          have HyL := hide hy
          clear hy
          obtain ⟨ids, hids⟩ : ∃ ids, gather (metB ⟨7, a, b, c, d, e, f, g, x, h⟩) s i = ids := ⟨_, rfl⟩
          rw [hids] at Hown Hyes Hno Hlen ⊢
          clear hids
          have HQP : Hid (∀ w1, Same wr w1 → ∀ j : Nat, w1.cell? ⟨w.heap.size, j, none⟩ = (#[.int .i64 7, .int .i64 a, .int .i64 b, .int .i64 c, .int .i64 d, .int .i64 e, .int .i64 f, .int .i64 g, .int .i64 x, .int .i64 h])[j]?) := hide fun w1 hs j => ((HQ.out.same Hsm.out).same hs).cell j
          have HP0 : Hid (∀ w1, Same wr w1 → w1.cell? ⟨b1, o1 + i * 3, none⟩ = some (.int .i64 y1)) := hide fun w1 hs => (hs.cell (p := ⟨b1, o1 + i * 3, none⟩) (World.block_lt_of_cell? _ _ hc0) (fun h => h)).trans hc0
          have HP1 : Hid (∀ w1, Same wr w1 → w1.cell? ⟨b1, o1 + i * 3 + 1, none⟩ = some (.int .i64 y2)) := hide fun w1 hs => (hs.cell (p := ⟨b1, o1 + i * 3 + 1, none⟩) (World.block_lt_of_cell? _ _ hc1) (fun h => h)).trans hc1
          have HP2 : Hid (∀ w1, Same wr w1 → w1.cell? ⟨b1, o1 + i * 3 + 2, none⟩ = some (.int .i64 y3)) := hide fun w1 hs => (hs.cell (p := ⟨b1, o1 + i * 3 + 2, none⟩) (World.block_lt_of_cell? _ _ hc2) (fun h => h)).trans hc2
          have qi1 : (i : Int) < (n2 : Int) := by omega
          have qi0 : (0 : Int) ≤ (i : Int) := by omega
          have qd : decide (i < n2) = true := by simpa using hlt
          obtain ⟨vv, hv⟩ : ∃ v, metB ⟨7, a, b, c, d, e, f, g, x, h⟩ (y1, y2, y3) = v := ⟨_, rfl⟩
          cases vv
          all_goals
            have Hv := hide hv
            have HHit := hide (fun w => by have := overRf_any (y1, y2, y3) (0, x, h) w; rw [show overB (y1, y2, y3) (0, x, h) = metB ⟨7, a, b, c, d, e, f, g, x, h⟩ (y1, y2, y3) from rfl, hv] at this; exact this)
            unfold agg3 at HHit
            simp only at HHit
            clear hv
            have bnd : (ids.length + 1) * 8 ≤ 140737488355328 ∧ ids.length + 1 ≤ 140737488355328 := by have := Hlen.out; have := Hs.out; omega
            have Bnd := hide bnd
            clear bnd
            go_wp2_with fail
            refine wp_region_mixS 14 (by kernel_rfl) (by kernel_rfl) fun Fin hFin => ?_
            simp only [List.take_succ_cons, List.take_zero]
            iterate 14 (
                (refine mix_lit ?_ ?_ (Chg.refl _) ?_ ?_ ?_ ?_; rotate_left 2
                 · intro e w1 hR hF K hK; (have hqp := HQP.out _ hR; have hp0 := HP0.out _ hR; have hp1 := HP1.out _ hR; have hp2 := HP2.out _ hR); go_simp; (first | (refine hK _ _ (Chg.refl _ _) ?_; rfl) | (go_at_call 67; (with_reducible refine (HHit.out _).mono ?_); rintro _ w2 ⟨rfl, hs⟩; refine hK _ _ hs ?_; rfl))
                 · intro e; simp only [puts]; rfl
                 · exact Loc.const _ _))
            refine mix_nil fun e9 w3 hR hF => hFin _ _ ?_
            simp only [List.drop_succ_cons, List.drop_zero]
            have HRq := hide hR
            have hq0 := HP0.out _ hR
            have hqq := HQP.out _ hR
            clear hF hR
            go_wp2_with (at_builtin; refine wpList_appS (by rfl) (.tmp 100) (.tmp 106) _ (by rfl) slI (by rfl) (base := w2.heap.size) (by exact own_chg Hown.out (HRq.out.alloc _) (fun _ _ h => h)) (by rfl) (by rfl) (by exact rd_new w3 _ _) (one_is [y1]) Bnd.out.1 Bnd.out.2 (by have := (Hsm.out.trans HRq.out).size; simp; omega) ?_; intro A' c' w7 hown hc hb; have Hown7 := hide hown; have Hc7 := hide hc; clear hown hc hb)
            go_roundg (n2 - (i + 1))
            case measure => have := Hk.out; omega
            case rel => first | exact relNo i hlt Hno.out Hv.out Hown.out Hsm.out HRq.out _ (by go_num) | exact relYes i hlt Hyes.out Hv.out Hown.out Hown7.out Hsm.out HRq.out Hc7.out _ (by go_num)
        · have hie : n2 = i := by omega
          subst hie
          clear hi hlt
          obtain ⟨ids, hids⟩ : ∃ ids, gather (metB ⟨7, a, b, c, d, e, f, g, x, h⟩) s n2 = ids := ⟨_, rfl⟩
          have HlenT := hide (gather_len (metB ⟨7, a, b, c, d, e, f, g, x, h⟩) s n2)
          have Hsrt := hide (gather_sorted (f := metB ⟨7, a, b, c, d, e, f, g, x, h⟩) HSs.out n2)
          rw [hids] at HL0 Hown HlenT Hsrt ⊢
          have Hids := hide hids
          clear hids
          have HT := hide Hsm.out
          have HownT := hide Hown.out
          have HLs := hide (show ids.length ≤ 1048576 by have := HlenT.out; have := Hs.out; omega)
          have hkq9 := (HQ.out.same HT.out).cell
          have hkaT := (HA.out.same HT.out).cell
          have hkfT := (HA.out.same HT.out).frozen
          have HRis : Hid (∀ w', Same wr w' → Calls Tryz.prog 68 #[.slice A0 ids.length c0] w' (RisEnd w' ids)) := hide fun w' hs => by
            have := rising_any (c := c0) ids w' (own_rd (own_chg HownT.out hs (fun _ _ h => h))) HLs.out
            rw [risI_sorted Hsrt.out] at this
            exact this
          rcases cb with _ | _
          · have HLa := hide (HL0.out rfl)
            clear HL0 HL1
            go_wp2_with (first
              | (go_at_call 64; have hF := HCn.out; refine (hF _).mono ?_; rintro e w8 ⟨rfl, hs⟩; have Hs8 := hide hs; have hka8 := ((HA.out.same HT.out).same hs).cell; have hkf8 := ((HA.out.same HT.out).same hs).frozen; clear hs hF)
              | (go_at_call 68; have hF := HRis.out _ Hs8.out; refine hF.mono ?_; rintro e w9 ⟨A9, c9, rfl, hr9, hl9, hm9, hs9, hf9⟩; have HR9 := hide (And.intro hr9 (And.intro hl9 (And.intro hm9 hf9))); have Hs9 := hide hs9; have hka9 := (((HA.out.same HT.out).same Hs8.out).same hs9).cell; have hkf9 := (((HA.out.same HT.out).same Hs8.out).same hs9).frozen; clear hr9 hl9 hm9 hs9 hf9 hF))
            have hs9 : Same wr w9 := Same.trans Hs8.out Hs9.out
            have hb3 := (((HA.out.same HT.out).same hs9).set_ 0 (.int .i64 ids.length)).set_ 1 (.slice A9 ids.length c9)
            have hz : w.heap.size + 2 ≤ w8.heap.size := Nat.le_trans Hz2.out (Nat.le_trans HT.out.size Hs8.out.size)
            refine bodyPost_ret (results_cell_row rfl _ _ _ _ _ _ _ rfl hb3 Tryz.underlying41 rfl (by kernel_rfl)) rfl ⟨A9, c9, by rw [Hids.out, HLa.out]; simp, ?_, by rw [HLa.out]; exact HR9.out.2.1, HR9.out.2.2.1, ?_, fun b hb => (by have h7 : w8.heap.size ≤ b := HR9.out.2.2.2 b hb; omega)⟩
            · rw [HLa.out]
              exact (HR9.out.1.setCell (p := ⟨w.heap.size + 1, 0, none⟩) (fun e => by have h7 : w8.heap.size ≤ w.heap.size + 1 := HR9.out.2.2.2 _ e; omega) _).setCell (p := ⟨w.heap.size + 1, 1, none⟩) (fun e => by have h7 : w8.heap.size ≤ w.heap.size + 1 := HR9.out.2.2.2 _ e; omega) _
            · exact (((HSw.out.same HT.out).same hs9).setCell (p := ⟨w.heap.size + 1, 0, none⟩) (.inr (by simp)) _).setCell (p := ⟨w.heap.size + 1, 1, none⟩) (.inr (by simp)) _
          · have HLb := hide (HL1.out rfl)
            clear HL0 HL1
            go_wp2_with (go_at_call 64; have hF := HCn.out; refine (hF _).mono ?_; rintro e w8 ⟨rfl, hs⟩; have Hs8 := hide hs; have hka8 := ((HA.out.same HT.out).same hs).cell; have hkf8 := ((HA.out.same HT.out).same hs).frozen; clear hs hF)
            have hb3 := (((HA.out.same HT.out).same Hs8.out).set_ 0 (.int .i64 ids.length)).set_ 1 (.slice none 0 0)
            refine bodyPost_ret (results_cell_row rfl _ _ _ _ _ _ _ rfl hb3 Tryz.underlying41 rfl (by kernel_rfl)) rfl ⟨none, 0, by rw [Hids.out, HLb.out]; simp, by rw [HLb.out]; exact Rd.nil _ _, by rw [HLb.out]; exact Nat.le_refl _, Nat.zero_le _, ?_, fun b hb => (by simp [blkOf] at hb)⟩
            exact (((HSw.out.same HT.out).same Hs8.out).setCell (p := ⟨w.heap.size + 1, 0, none⟩) (.inr (by simp)) _).setCell (p := ⟨w.heap.size + 1, 1, none⟩) (.inr (by simp)) _
end Go.Proofs.YtlimpepdelpogaaGreatDoor
