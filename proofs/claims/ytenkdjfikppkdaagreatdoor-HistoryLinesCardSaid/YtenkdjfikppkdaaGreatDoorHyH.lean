/-
  The document's own line of an event. Condition: an event's numbers are ints.
-/
import Derived.Test.YtenkdjfikppkdaaGreatDoorStC
namespace Go.Proofs.YtenkdjfikppkdaaGreatDoor
open Go.RowKit Go.Al
set_option linter.unusedVariables false

theorem join4 (a b c d : List UInt8) : Lib.join [a, 115 :: b, c, 35 :: d] [32] = a ++ [32, 115] ++ b ++ [32] ++ c ++ [32, 35] ++ d := by simp [Lib.join]
theorem join6 (a b c d f : List UInt8) : Lib.join [a, 115 :: b, c, 35 :: d, [99, 111, 100, 101], f] [32] = a ++ [32, 115] ++ b ++ [32] ++ c ++ [32, 35] ++ d ++ [32, 99, 111, 100, 101, 32] ++ f := by simp [Lib.join]
theorem join7 (a b c d f g : List UInt8) : Lib.join [a, 115 :: b, c, 35 :: d, [99, 111, 100, 101], f, g] [32] = a ++ [32, 115] ++ b ++ [32] ++ c ++ [32, 35] ++ d ++ [32, 99, 111, 100, 101, 32] ++ f ++ [32] ++ g := by simp [Lib.join]
set_option maxRecDepth 100000 in
set_option maxHeartbeats 8000000 in
theorem lineRf_0 (e : Ev) (w : World) (hw : WfEv e) (hkk : e.k < 1) (hta0 : e.t.asked = true) :
    Calls Tryz.prog 8 #[evV e] w fun f w' => f = .returned (strV (lineB e)) ∧ Same w w' := by
  have HI1 := hide (int_is e.st hw.st.1 hw.st.2)
  have HI2 := hide (int_is e.ss hw.ss.1 hw.ss.2)
  have HI3 := hide (int_is e.op hw.op.1 hw.op.2)
  have HI4 := hide (int_is e.t.e hw.te.1 hw.te.2)
  have HI5 := hide (int_is e.t.n hw.tn.1 hw.tn.2)
  have n1 := itoa_len e.st hw.st.1 hw.st.2
  have n2 := itoa_len e.ss hw.ss.1 hw.ss.2
  have n3 := itoa_len e.op hw.op.1 hw.op.2
  have n4 := itoa_len e.t.e hw.te.1 hw.te.2
  have n5 := itoa_len e.t.n hw.tn.1 hw.tn.2
  have hb1 := Blk.new w 46 (evL e).toArray
  have hs1 := (Chg.refl (fun _ => False) w).alloc (.cells (evL e).toArray 46)
  have c0 : (evL e)[0]? = some (.int .i64 e.k) := rfl
  have c1 : (evL e)[1]? = some (.int .i64 e.st) := rfl
  have c2 : (evL e)[2]? = some (.int .i64 e.ss) := rfl
  have c3 : (evL e)[3]? = some (.int .i64 e.op) := rfl
  have c4 : (evL e)[22]? = some (.int .i64 e.t.e) := rfl
  have c5 : (evL e)[23]? = some (.bool e.t.asked) := rfl
  have c6 : (evL e)[25]? = some (.int .i64 e.t.n) := rfl
  have Hb1 := hide hb1
  have Hs1 := hide hs1
  have hkw := hb1.cell
  unfold evV lineB partsB
  unfold strV at HI1 HI2 HI3 HI4 HI5
  clear hb1 hs1 hw
  generalize Lib.itoa e.st = S1 at *
  generalize Lib.itoa e.ss = S2 at *
  generalize Lib.itoa e.op = S3 at *
  generalize Lib.itoa e.t.e = S4 at *
  generalize Lib.itoa e.t.n = S5 at *
  obtain ⟨k, hk⟩ : ∃ k, e.k = k := ⟨_, rfl⟩
  obtain ⟨st, hst⟩ : ∃ k, e.st = k := ⟨_, rfl⟩
  obtain ⟨ss, hss⟩ : ∃ k, e.ss = k := ⟨_, rfl⟩
  obtain ⟨op, hop⟩ : ∃ k, e.op = k := ⟨_, rfl⟩
  obtain ⟨te, hte⟩ : ∃ k, e.t.e = k := ⟨_, rfl⟩
  obtain ⟨tn, htn⟩ : ∃ k, e.t.n = k := ⟨_, rfl⟩
  obtain ⟨ta, hta⟩ : ∃ k, e.t.asked = k := ⟨_, rfl⟩
  rw [hk] at c0 hkk ⊢
  rw [hst] at c1 HI1
  rw [hss] at c2 HI2
  rw [hop] at c3 HI3
  rw [hte] at c4 HI4
  rw [hta] at c5 hta0 ⊢
  rw [htn] at c6 HI5
  clear hk hst hss hop hte htn hta
  generalize evL e = L at *
  have b1 : (k != 1) = true := bne_iff_ne.2 (by omega)
  have b4 : (k != 4) = true := bne_iff_ne.2 (by omega)
  subst hta0
  rw [show wordB k = [63] from by unfold wordB; rw [if_pos hkk]]
  rw [if_neg (by omega)]
  rw [if_pos rfl]
  have q89246 : ¬ 9223372036854775807 < S1.length + 2 := by omega
  have q23595 : ¬ 9223372036854775807 < S1.length + 2 + S2.length := by omega
  have q56519 : ¬ 9223372036854775807 < S1.length + 2 + S2.length + 1 := by omega
  have q3954 : ¬ 9223372036854775807 < S1.length + 2 + S2.length + 1 + 1 := by omega
  have q22466 : ¬ 9223372036854775807 < S1.length + 2 + S2.length + 1 + 1 + 2 := by omega
  have q56544 : ¬ 9223372036854775807 < S1.length + 2 + S2.length + 1 + 1 + 2 + S3.length := by omega
  have q14845 : ¬ 9223372036854775807 < S1.length + 2 + S2.length + 1 + 1 + 2 + S3.length + 6 := by omega
  have q38851 : ¬ 9223372036854775807 < S1.length + 2 + S2.length + 1 + 1 + 2 + S3.length + 6 + S4.length := by omega
  have q99687 : ¬ 9223372036854775807 < S1.length + 2 + S2.length + 1 + 1 + 2 + S3.length + 6 + S4.length + 1 := by omega
  have q73507 : ¬ 9223372036854775807 < S1.length + 2 + S2.length + 1 + 1 + 2 + S3.length + 6 + S4.length + 1 + S5.length := by omega
  go_enter Tryz.func8, Tryz.ntmps8
  go_wp2_with fail
  refine wp_region_mixS 17 (by kernel_rfl) (by kernel_rfl) fun Fin hFin => ?_
  simp only [List.take_succ_cons, List.take_zero]
  iterate 17 (
      (refine mix_lit ?_ ?_ (fun w => Chg.refl _ w) ?_ ?_ ?_ ?_
       rotate_left; rotate_left
       · intro e w1 hR hF K hK; (have hcb := ((Hb1.out.alloc _).same hR).cell); go_simp; (first | (refine hK _ _ (Chg.refl _ _) ?_; rfl) | (go_at_call 23; (with_reducible refine (HI1.out _).mono ?_); rintro _ w2 ⟨rfl, rfl⟩; refine hK _ _ (Chg.refl _ _) ?_; rfl) | (go_at_call 23; (with_reducible refine (HI2.out _).mono ?_); rintro _ w2 ⟨rfl, rfl⟩; refine hK _ _ (Chg.refl _ _) ?_; rfl) | (go_at_call 23; (with_reducible refine (HI3.out _).mono ?_); rintro _ w2 ⟨rfl, rfl⟩; refine hK _ _ (Chg.refl _ _) ?_; rfl))
       · intro e; simp only [Act.put, List.setIfInBounds_toArray, List.set_cons_zero, List.set_cons_succ]; rfl
       · exact Loc.const _ _))
  refine mix_nil fun e w1 hR hF => hFin _ _ ?_
  simp only [List.drop_succ_cons, List.drop_zero]
  have hkb := ((Hb1.out.alloc _).same hR).cell
  have HR := hide hR
  clear hR hF hFin
  go_wp2_with (first | (go_at_call 23; (with_reducible refine (HI4.out _).mono ?_); rintro _ w2 ⟨rfl, rfl⟩) | (go_at_call 23; (with_reducible refine (HI5.out _).mono ?_); rintro _ w2 ⟨rfl, rfl⟩) | fail)
  go_ret
  refine ⟨ret_eq (show Value.string _ = strV _ from ?_), Same.trans (Hs1.out.alloc _) HR.out⟩
  rw [join7]
  unfold strV
  simp only [← bapp]
set_option maxRecDepth 100000 in
set_option maxHeartbeats 8000000 in
theorem lineRf_1 (e : Ev) (w : World) (hw : WfEv e) (hkk : e.k < 1) (hta0 : e.t.asked = false) :
    Calls Tryz.prog 8 #[evV e] w fun f w' => f = .returned (strV (lineB e)) ∧ Same w w' := by
  have HI1 := hide (int_is e.st hw.st.1 hw.st.2)
  have HI2 := hide (int_is e.ss hw.ss.1 hw.ss.2)
  have HI3 := hide (int_is e.op hw.op.1 hw.op.2)
  have HI4 := hide (int_is e.t.e hw.te.1 hw.te.2)
  have HI5 := hide (int_is e.t.n hw.tn.1 hw.tn.2)
  have n1 := itoa_len e.st hw.st.1 hw.st.2
  have n2 := itoa_len e.ss hw.ss.1 hw.ss.2
  have n3 := itoa_len e.op hw.op.1 hw.op.2
  have n4 := itoa_len e.t.e hw.te.1 hw.te.2
  have n5 := itoa_len e.t.n hw.tn.1 hw.tn.2
  have hb1 := Blk.new w 46 (evL e).toArray
  have hs1 := (Chg.refl (fun _ => False) w).alloc (.cells (evL e).toArray 46)
  have c0 : (evL e)[0]? = some (.int .i64 e.k) := rfl
  have c1 : (evL e)[1]? = some (.int .i64 e.st) := rfl
  have c2 : (evL e)[2]? = some (.int .i64 e.ss) := rfl
  have c3 : (evL e)[3]? = some (.int .i64 e.op) := rfl
  have c4 : (evL e)[22]? = some (.int .i64 e.t.e) := rfl
  have c5 : (evL e)[23]? = some (.bool e.t.asked) := rfl
  have c6 : (evL e)[25]? = some (.int .i64 e.t.n) := rfl
  have Hb1 := hide hb1
  have Hs1 := hide hs1
  have hkw := hb1.cell
  unfold evV lineB partsB
  unfold strV at HI1 HI2 HI3 HI4 HI5
  clear hb1 hs1 hw
  generalize Lib.itoa e.st = S1 at *
  generalize Lib.itoa e.ss = S2 at *
  generalize Lib.itoa e.op = S3 at *
  generalize Lib.itoa e.t.e = S4 at *
  generalize Lib.itoa e.t.n = S5 at *
  obtain ⟨k, hk⟩ : ∃ k, e.k = k := ⟨_, rfl⟩
  obtain ⟨st, hst⟩ : ∃ k, e.st = k := ⟨_, rfl⟩
  obtain ⟨ss, hss⟩ : ∃ k, e.ss = k := ⟨_, rfl⟩
  obtain ⟨op, hop⟩ : ∃ k, e.op = k := ⟨_, rfl⟩
  obtain ⟨te, hte⟩ : ∃ k, e.t.e = k := ⟨_, rfl⟩
  obtain ⟨tn, htn⟩ : ∃ k, e.t.n = k := ⟨_, rfl⟩
  obtain ⟨ta, hta⟩ : ∃ k, e.t.asked = k := ⟨_, rfl⟩
  rw [hk] at c0 hkk ⊢
  rw [hst] at c1 HI1
  rw [hss] at c2 HI2
  rw [hop] at c3 HI3
  rw [hte] at c4 HI4
  rw [hta] at c5 hta0 ⊢
  rw [htn] at c6 HI5
  clear hk hst hss hop hte htn hta
  generalize evL e = L at *
  have b1 : (k != 1) = true := bne_iff_ne.2 (by omega)
  have b4 : (k != 4) = true := bne_iff_ne.2 (by omega)
  subst hta0
  rw [show wordB k = [63] from by unfold wordB; rw [if_pos hkk]]
  rw [if_neg (by omega)]
  rw [if_neg (by decide)]
  have q89246 : ¬ 9223372036854775807 < S1.length + 2 := by omega
  have q23595 : ¬ 9223372036854775807 < S1.length + 2 + S2.length := by omega
  have q56519 : ¬ 9223372036854775807 < S1.length + 2 + S2.length + 1 := by omega
  have q3954 : ¬ 9223372036854775807 < S1.length + 2 + S2.length + 1 + 1 := by omega
  have q22466 : ¬ 9223372036854775807 < S1.length + 2 + S2.length + 1 + 1 + 2 := by omega
  have q56544 : ¬ 9223372036854775807 < S1.length + 2 + S2.length + 1 + 1 + 2 + S3.length := by omega
  have q14845 : ¬ 9223372036854775807 < S1.length + 2 + S2.length + 1 + 1 + 2 + S3.length + 6 := by omega
  have q38851 : ¬ 9223372036854775807 < S1.length + 2 + S2.length + 1 + 1 + 2 + S3.length + 6 + S4.length := by omega
  go_enter Tryz.func8, Tryz.ntmps8
  go_wp2_with fail
  refine wp_region_mixS 17 (by kernel_rfl) (by kernel_rfl) fun Fin hFin => ?_
  simp only [List.take_succ_cons, List.take_zero]
  iterate 17 (
      (refine mix_lit ?_ ?_ (fun w => Chg.refl _ w) ?_ ?_ ?_ ?_
       rotate_left; rotate_left
       · intro e w1 hR hF K hK; (have hcb := ((Hb1.out.alloc _).same hR).cell); go_simp; (first | (refine hK _ _ (Chg.refl _ _) ?_; rfl) | (go_at_call 23; (with_reducible refine (HI1.out _).mono ?_); rintro _ w2 ⟨rfl, rfl⟩; refine hK _ _ (Chg.refl _ _) ?_; rfl) | (go_at_call 23; (with_reducible refine (HI2.out _).mono ?_); rintro _ w2 ⟨rfl, rfl⟩; refine hK _ _ (Chg.refl _ _) ?_; rfl) | (go_at_call 23; (with_reducible refine (HI3.out _).mono ?_); rintro _ w2 ⟨rfl, rfl⟩; refine hK _ _ (Chg.refl _ _) ?_; rfl))
       · intro e; simp only [Act.put, List.setIfInBounds_toArray, List.set_cons_zero, List.set_cons_succ]; rfl
       · exact Loc.const _ _))
  refine mix_nil fun e w1 hR hF => hFin _ _ ?_
  simp only [List.drop_succ_cons, List.drop_zero]
  have hkb := ((Hb1.out.alloc _).same hR).cell
  have HR := hide hR
  clear hR hF hFin
  go_wp2_with (first | (go_at_call 23; (with_reducible refine (HI4.out _).mono ?_); rintro _ w2 ⟨rfl, rfl⟩) | (go_at_call 23; (with_reducible refine (HI5.out _).mono ?_); rintro _ w2 ⟨rfl, rfl⟩) | fail)
  go_ret
  refine ⟨ret_eq (show Value.string _ = strV _ from ?_), Same.trans (Hs1.out.alloc _) HR.out⟩
  rw [join6]
  unfold strV
  simp only [← bapp]
set_option maxRecDepth 100000 in
set_option maxHeartbeats 8000000 in
theorem lineRf_2 (e : Ev) (w : World) (hw : WfEv e) (hkk : 5 < e.k) (hta0 : e.t.asked = true) :
    Calls Tryz.prog 8 #[evV e] w fun f w' => f = .returned (strV (lineB e)) ∧ Same w w' := by
  have HI1 := hide (int_is e.st hw.st.1 hw.st.2)
  have HI2 := hide (int_is e.ss hw.ss.1 hw.ss.2)
  have HI3 := hide (int_is e.op hw.op.1 hw.op.2)
  have HI4 := hide (int_is e.t.e hw.te.1 hw.te.2)
  have HI5 := hide (int_is e.t.n hw.tn.1 hw.tn.2)
  have n1 := itoa_len e.st hw.st.1 hw.st.2
  have n2 := itoa_len e.ss hw.ss.1 hw.ss.2
  have n3 := itoa_len e.op hw.op.1 hw.op.2
  have n4 := itoa_len e.t.e hw.te.1 hw.te.2
  have n5 := itoa_len e.t.n hw.tn.1 hw.tn.2
  have hb1 := Blk.new w 46 (evL e).toArray
  have hs1 := (Chg.refl (fun _ => False) w).alloc (.cells (evL e).toArray 46)
  have c0 : (evL e)[0]? = some (.int .i64 e.k) := rfl
  have c1 : (evL e)[1]? = some (.int .i64 e.st) := rfl
  have c2 : (evL e)[2]? = some (.int .i64 e.ss) := rfl
  have c3 : (evL e)[3]? = some (.int .i64 e.op) := rfl
  have c4 : (evL e)[22]? = some (.int .i64 e.t.e) := rfl
  have c5 : (evL e)[23]? = some (.bool e.t.asked) := rfl
  have c6 : (evL e)[25]? = some (.int .i64 e.t.n) := rfl
  have Hb1 := hide hb1
  have Hs1 := hide hs1
  have hkw := hb1.cell
  unfold evV lineB partsB
  unfold strV at HI1 HI2 HI3 HI4 HI5
  clear hb1 hs1 hw
  generalize Lib.itoa e.st = S1 at *
  generalize Lib.itoa e.ss = S2 at *
  generalize Lib.itoa e.op = S3 at *
  generalize Lib.itoa e.t.e = S4 at *
  generalize Lib.itoa e.t.n = S5 at *
  obtain ⟨k, hk⟩ : ∃ k, e.k = k := ⟨_, rfl⟩
  obtain ⟨st, hst⟩ : ∃ k, e.st = k := ⟨_, rfl⟩
  obtain ⟨ss, hss⟩ : ∃ k, e.ss = k := ⟨_, rfl⟩
  obtain ⟨op, hop⟩ : ∃ k, e.op = k := ⟨_, rfl⟩
  obtain ⟨te, hte⟩ : ∃ k, e.t.e = k := ⟨_, rfl⟩
  obtain ⟨tn, htn⟩ : ∃ k, e.t.n = k := ⟨_, rfl⟩
  obtain ⟨ta, hta⟩ : ∃ k, e.t.asked = k := ⟨_, rfl⟩
  rw [hk] at c0 hkk ⊢
  rw [hst] at c1 HI1
  rw [hss] at c2 HI2
  rw [hop] at c3 HI3
  rw [hte] at c4 HI4
  rw [hta] at c5 hta0 ⊢
  rw [htn] at c6 HI5
  clear hk hst hss hop hte htn hta
  generalize evL e = L at *
  have b1 : (k != 1) = true := bne_iff_ne.2 (by omega)
  have b4 : (k != 4) = true := bne_iff_ne.2 (by omega)
  subst hta0
  rw [show wordB k = [63] from by unfold wordB; rw [if_neg (by omega), if_pos hkk]]
  rw [if_neg (by omega)]
  rw [if_pos rfl]
  have q89246 : ¬ 9223372036854775807 < S1.length + 2 := by omega
  have q23595 : ¬ 9223372036854775807 < S1.length + 2 + S2.length := by omega
  have q56519 : ¬ 9223372036854775807 < S1.length + 2 + S2.length + 1 := by omega
  have q3954 : ¬ 9223372036854775807 < S1.length + 2 + S2.length + 1 + 1 := by omega
  have q22466 : ¬ 9223372036854775807 < S1.length + 2 + S2.length + 1 + 1 + 2 := by omega
  have q56544 : ¬ 9223372036854775807 < S1.length + 2 + S2.length + 1 + 1 + 2 + S3.length := by omega
  have q14845 : ¬ 9223372036854775807 < S1.length + 2 + S2.length + 1 + 1 + 2 + S3.length + 6 := by omega
  have q38851 : ¬ 9223372036854775807 < S1.length + 2 + S2.length + 1 + 1 + 2 + S3.length + 6 + S4.length := by omega
  have q99687 : ¬ 9223372036854775807 < S1.length + 2 + S2.length + 1 + 1 + 2 + S3.length + 6 + S4.length + 1 := by omega
  have q73507 : ¬ 9223372036854775807 < S1.length + 2 + S2.length + 1 + 1 + 2 + S3.length + 6 + S4.length + 1 + S5.length := by omega
  go_enter Tryz.func8, Tryz.ntmps8
  go_wp2_with fail
  refine wp_region_mixS 17 (by kernel_rfl) (by kernel_rfl) fun Fin hFin => ?_
  simp only [List.take_succ_cons, List.take_zero]
  iterate 17 (
      (refine mix_lit ?_ ?_ (fun w => Chg.refl _ w) ?_ ?_ ?_ ?_
       rotate_left; rotate_left
       · intro e w1 hR hF K hK; (have hcb := ((Hb1.out.alloc _).same hR).cell); go_simp; (first | (refine hK _ _ (Chg.refl _ _) ?_; rfl) | (go_at_call 23; (with_reducible refine (HI1.out _).mono ?_); rintro _ w2 ⟨rfl, rfl⟩; refine hK _ _ (Chg.refl _ _) ?_; rfl) | (go_at_call 23; (with_reducible refine (HI2.out _).mono ?_); rintro _ w2 ⟨rfl, rfl⟩; refine hK _ _ (Chg.refl _ _) ?_; rfl) | (go_at_call 23; (with_reducible refine (HI3.out _).mono ?_); rintro _ w2 ⟨rfl, rfl⟩; refine hK _ _ (Chg.refl _ _) ?_; rfl))
       · intro e; simp only [Act.put, List.setIfInBounds_toArray, List.set_cons_zero, List.set_cons_succ]; rfl
       · exact Loc.const _ _))
  refine mix_nil fun e w1 hR hF => hFin _ _ ?_
  simp only [List.drop_succ_cons, List.drop_zero]
  have hkb := ((Hb1.out.alloc _).same hR).cell
  have HR := hide hR
  clear hR hF hFin
  go_wp2_with (first | (go_at_call 23; (with_reducible refine (HI4.out _).mono ?_); rintro _ w2 ⟨rfl, rfl⟩) | (go_at_call 23; (with_reducible refine (HI5.out _).mono ?_); rintro _ w2 ⟨rfl, rfl⟩) | fail)
  go_ret
  refine ⟨ret_eq (show Value.string _ = strV _ from ?_), Same.trans (Hs1.out.alloc _) HR.out⟩
  rw [join7]
  unfold strV
  simp only [← bapp]
set_option maxRecDepth 100000 in
set_option maxHeartbeats 8000000 in
theorem lineRf_3 (e : Ev) (w : World) (hw : WfEv e) (hkk : 5 < e.k) (hta0 : e.t.asked = false) :
    Calls Tryz.prog 8 #[evV e] w fun f w' => f = .returned (strV (lineB e)) ∧ Same w w' := by
  have HI1 := hide (int_is e.st hw.st.1 hw.st.2)
  have HI2 := hide (int_is e.ss hw.ss.1 hw.ss.2)
  have HI3 := hide (int_is e.op hw.op.1 hw.op.2)
  have HI4 := hide (int_is e.t.e hw.te.1 hw.te.2)
  have HI5 := hide (int_is e.t.n hw.tn.1 hw.tn.2)
  have n1 := itoa_len e.st hw.st.1 hw.st.2
  have n2 := itoa_len e.ss hw.ss.1 hw.ss.2
  have n3 := itoa_len e.op hw.op.1 hw.op.2
  have n4 := itoa_len e.t.e hw.te.1 hw.te.2
  have n5 := itoa_len e.t.n hw.tn.1 hw.tn.2
  have hb1 := Blk.new w 46 (evL e).toArray
  have hs1 := (Chg.refl (fun _ => False) w).alloc (.cells (evL e).toArray 46)
  have c0 : (evL e)[0]? = some (.int .i64 e.k) := rfl
  have c1 : (evL e)[1]? = some (.int .i64 e.st) := rfl
  have c2 : (evL e)[2]? = some (.int .i64 e.ss) := rfl
  have c3 : (evL e)[3]? = some (.int .i64 e.op) := rfl
  have c4 : (evL e)[22]? = some (.int .i64 e.t.e) := rfl
  have c5 : (evL e)[23]? = some (.bool e.t.asked) := rfl
  have c6 : (evL e)[25]? = some (.int .i64 e.t.n) := rfl
  have Hb1 := hide hb1
  have Hs1 := hide hs1
  have hkw := hb1.cell
  unfold evV lineB partsB
  unfold strV at HI1 HI2 HI3 HI4 HI5
  clear hb1 hs1 hw
  generalize Lib.itoa e.st = S1 at *
  generalize Lib.itoa e.ss = S2 at *
  generalize Lib.itoa e.op = S3 at *
  generalize Lib.itoa e.t.e = S4 at *
  generalize Lib.itoa e.t.n = S5 at *
  obtain ⟨k, hk⟩ : ∃ k, e.k = k := ⟨_, rfl⟩
  obtain ⟨st, hst⟩ : ∃ k, e.st = k := ⟨_, rfl⟩
  obtain ⟨ss, hss⟩ : ∃ k, e.ss = k := ⟨_, rfl⟩
  obtain ⟨op, hop⟩ : ∃ k, e.op = k := ⟨_, rfl⟩
  obtain ⟨te, hte⟩ : ∃ k, e.t.e = k := ⟨_, rfl⟩
  obtain ⟨tn, htn⟩ : ∃ k, e.t.n = k := ⟨_, rfl⟩
  obtain ⟨ta, hta⟩ : ∃ k, e.t.asked = k := ⟨_, rfl⟩
  rw [hk] at c0 hkk ⊢
  rw [hst] at c1 HI1
  rw [hss] at c2 HI2
  rw [hop] at c3 HI3
  rw [hte] at c4 HI4
  rw [hta] at c5 hta0 ⊢
  rw [htn] at c6 HI5
  clear hk hst hss hop hte htn hta
  generalize evL e = L at *
  have b1 : (k != 1) = true := bne_iff_ne.2 (by omega)
  have b4 : (k != 4) = true := bne_iff_ne.2 (by omega)
  subst hta0
  rw [show wordB k = [63] from by unfold wordB; rw [if_neg (by omega), if_pos hkk]]
  rw [if_neg (by omega)]
  rw [if_neg (by decide)]
  have q89246 : ¬ 9223372036854775807 < S1.length + 2 := by omega
  have q23595 : ¬ 9223372036854775807 < S1.length + 2 + S2.length := by omega
  have q56519 : ¬ 9223372036854775807 < S1.length + 2 + S2.length + 1 := by omega
  have q3954 : ¬ 9223372036854775807 < S1.length + 2 + S2.length + 1 + 1 := by omega
  have q22466 : ¬ 9223372036854775807 < S1.length + 2 + S2.length + 1 + 1 + 2 := by omega
  have q56544 : ¬ 9223372036854775807 < S1.length + 2 + S2.length + 1 + 1 + 2 + S3.length := by omega
  have q14845 : ¬ 9223372036854775807 < S1.length + 2 + S2.length + 1 + 1 + 2 + S3.length + 6 := by omega
  have q38851 : ¬ 9223372036854775807 < S1.length + 2 + S2.length + 1 + 1 + 2 + S3.length + 6 + S4.length := by omega
  go_enter Tryz.func8, Tryz.ntmps8
  go_wp2_with fail
  refine wp_region_mixS 17 (by kernel_rfl) (by kernel_rfl) fun Fin hFin => ?_
  simp only [List.take_succ_cons, List.take_zero]
  iterate 17 (
      (refine mix_lit ?_ ?_ (fun w => Chg.refl _ w) ?_ ?_ ?_ ?_
       rotate_left; rotate_left
       · intro e w1 hR hF K hK; (have hcb := ((Hb1.out.alloc _).same hR).cell); go_simp; (first | (refine hK _ _ (Chg.refl _ _) ?_; rfl) | (go_at_call 23; (with_reducible refine (HI1.out _).mono ?_); rintro _ w2 ⟨rfl, rfl⟩; refine hK _ _ (Chg.refl _ _) ?_; rfl) | (go_at_call 23; (with_reducible refine (HI2.out _).mono ?_); rintro _ w2 ⟨rfl, rfl⟩; refine hK _ _ (Chg.refl _ _) ?_; rfl) | (go_at_call 23; (with_reducible refine (HI3.out _).mono ?_); rintro _ w2 ⟨rfl, rfl⟩; refine hK _ _ (Chg.refl _ _) ?_; rfl))
       · intro e; simp only [Act.put, List.setIfInBounds_toArray, List.set_cons_zero, List.set_cons_succ]; rfl
       · exact Loc.const _ _))
  refine mix_nil fun e w1 hR hF => hFin _ _ ?_
  simp only [List.drop_succ_cons, List.drop_zero]
  have hkb := ((Hb1.out.alloc _).same hR).cell
  have HR := hide hR
  clear hR hF hFin
  go_wp2_with (first | (go_at_call 23; (with_reducible refine (HI4.out _).mono ?_); rintro _ w2 ⟨rfl, rfl⟩) | (go_at_call 23; (with_reducible refine (HI5.out _).mono ?_); rintro _ w2 ⟨rfl, rfl⟩) | fail)
  go_ret
  refine ⟨ret_eq (show Value.string _ = strV _ from ?_), Same.trans (Hs1.out.alloc _) HR.out⟩
  rw [join6]
  unfold strV
  simp only [← bapp]
set_option maxRecDepth 100000 in
set_option maxHeartbeats 8000000 in
theorem lineRf_4 (e : Ev) (w : World) (hw : WfEv e) (hkk : e.k = 2) (hta0 : e.t.asked = true) :
    Calls Tryz.prog 8 #[evV e] w fun f w' => f = .returned (strV (lineB e)) ∧ Same w w' := by
  have HI1 := hide (int_is e.st hw.st.1 hw.st.2)
  have HI2 := hide (int_is e.ss hw.ss.1 hw.ss.2)
  have HI3 := hide (int_is e.op hw.op.1 hw.op.2)
  have HI4 := hide (int_is e.t.e hw.te.1 hw.te.2)
  have HI5 := hide (int_is e.t.n hw.tn.1 hw.tn.2)
  have n1 := itoa_len e.st hw.st.1 hw.st.2
  have n2 := itoa_len e.ss hw.ss.1 hw.ss.2
  have n3 := itoa_len e.op hw.op.1 hw.op.2
  have n4 := itoa_len e.t.e hw.te.1 hw.te.2
  have n5 := itoa_len e.t.n hw.tn.1 hw.tn.2
  have hb1 := Blk.new w 46 (evL e).toArray
  have hs1 := (Chg.refl (fun _ => False) w).alloc (.cells (evL e).toArray 46)
  have c0 : (evL e)[0]? = some (.int .i64 e.k) := rfl
  have c1 : (evL e)[1]? = some (.int .i64 e.st) := rfl
  have c2 : (evL e)[2]? = some (.int .i64 e.ss) := rfl
  have c3 : (evL e)[3]? = some (.int .i64 e.op) := rfl
  have c4 : (evL e)[22]? = some (.int .i64 e.t.e) := rfl
  have c5 : (evL e)[23]? = some (.bool e.t.asked) := rfl
  have c6 : (evL e)[25]? = some (.int .i64 e.t.n) := rfl
  have Hb1 := hide hb1
  have Hs1 := hide hs1
  have hkw := hb1.cell
  unfold evV lineB partsB
  unfold strV at HI1 HI2 HI3 HI4 HI5
  clear hb1 hs1 hw
  generalize Lib.itoa e.st = S1 at *
  generalize Lib.itoa e.ss = S2 at *
  generalize Lib.itoa e.op = S3 at *
  generalize Lib.itoa e.t.e = S4 at *
  generalize Lib.itoa e.t.n = S5 at *
  obtain ⟨k, hk⟩ : ∃ k, e.k = k := ⟨_, rfl⟩
  obtain ⟨st, hst⟩ : ∃ k, e.st = k := ⟨_, rfl⟩
  obtain ⟨ss, hss⟩ : ∃ k, e.ss = k := ⟨_, rfl⟩
  obtain ⟨op, hop⟩ : ∃ k, e.op = k := ⟨_, rfl⟩
  obtain ⟨te, hte⟩ : ∃ k, e.t.e = k := ⟨_, rfl⟩
  obtain ⟨tn, htn⟩ : ∃ k, e.t.n = k := ⟨_, rfl⟩
  obtain ⟨ta, hta⟩ : ∃ k, e.t.asked = k := ⟨_, rfl⟩
  rw [hk] at c0 hkk ⊢
  rw [hst] at c1 HI1
  rw [hss] at c2 HI2
  rw [hop] at c3 HI3
  rw [hte] at c4 HI4
  rw [hta] at c5 hta0 ⊢
  rw [htn] at c6 HI5
  clear hk hst hss hop hte htn hta
  generalize evL e = L at *
  subst hkk
  subst hta0
  rw [show wordB 2 = [116, 111, 111, 107] from by decide]
  rw [if_neg (by omega)]
  rw [if_pos rfl]
  have q89246 : ¬ 9223372036854775807 < S1.length + 2 := by omega
  have q23595 : ¬ 9223372036854775807 < S1.length + 2 + S2.length := by omega
  have q56519 : ¬ 9223372036854775807 < S1.length + 2 + S2.length + 1 := by omega
  have q15167 : ¬ 9223372036854775807 < S1.length + 2 + S2.length + 1 + 4 := by omega
  have q56306 : ¬ 9223372036854775807 < S1.length + 2 + S2.length + 1 + 4 + 2 := by omega
  have q69733 : ¬ 9223372036854775807 < S1.length + 2 + S2.length + 1 + 4 + 2 + S3.length := by omega
  have q51292 : ¬ 9223372036854775807 < S1.length + 2 + S2.length + 1 + 4 + 2 + S3.length + 6 := by omega
  have q18030 : ¬ 9223372036854775807 < S1.length + 2 + S2.length + 1 + 4 + 2 + S3.length + 6 + S4.length := by omega
  have q62620 : ¬ 9223372036854775807 < S1.length + 2 + S2.length + 1 + 4 + 2 + S3.length + 6 + S4.length + 1 := by omega
  have q58002 : ¬ 9223372036854775807 < S1.length + 2 + S2.length + 1 + 4 + 2 + S3.length + 6 + S4.length + 1 + S5.length := by omega
  go_enter Tryz.func8, Tryz.ntmps8
  go_wp2_with fail
  refine wp_region_mixS 17 (by kernel_rfl) (by kernel_rfl) fun Fin hFin => ?_
  simp only [List.take_succ_cons, List.take_zero]
  iterate 17 (
      (refine mix_lit ?_ ?_ (fun w => Chg.refl _ w) ?_ ?_ ?_ ?_
       rotate_left; rotate_left
       · intro e w1 hR hF K hK; (have hcb := ((Hb1.out.alloc _).same hR).cell); go_simp; (first | (refine hK _ _ (Chg.refl _ _) ?_; rfl) | (go_at_call 23; (with_reducible refine (HI1.out _).mono ?_); rintro _ w2 ⟨rfl, rfl⟩; refine hK _ _ (Chg.refl _ _) ?_; rfl) | (go_at_call 23; (with_reducible refine (HI2.out _).mono ?_); rintro _ w2 ⟨rfl, rfl⟩; refine hK _ _ (Chg.refl _ _) ?_; rfl) | (go_at_call 23; (with_reducible refine (HI3.out _).mono ?_); rintro _ w2 ⟨rfl, rfl⟩; refine hK _ _ (Chg.refl _ _) ?_; rfl))
       · intro e; simp only [Act.put, List.setIfInBounds_toArray, List.set_cons_zero, List.set_cons_succ]; rfl
       · exact Loc.const _ _))
  refine mix_nil fun e w1 hR hF => hFin _ _ ?_
  simp only [List.drop_succ_cons, List.drop_zero]
  have hkb := ((Hb1.out.alloc _).same hR).cell
  have HR := hide hR
  clear hR hF hFin
  go_wp2_with (first | (go_at_call 23; (with_reducible refine (HI4.out _).mono ?_); rintro _ w2 ⟨rfl, rfl⟩) | (go_at_call 23; (with_reducible refine (HI5.out _).mono ?_); rintro _ w2 ⟨rfl, rfl⟩) | fail)
  go_ret
  refine ⟨ret_eq (show Value.string _ = strV _ from ?_), Same.trans (Hs1.out.alloc _) HR.out⟩
  rw [join7]
  unfold strV
  simp only [← bapp]
set_option maxRecDepth 100000 in
set_option maxHeartbeats 8000000 in
theorem lineRf_5 (e : Ev) (w : World) (hw : WfEv e) (hkk : e.k = 2) (hta0 : e.t.asked = false) :
    Calls Tryz.prog 8 #[evV e] w fun f w' => f = .returned (strV (lineB e)) ∧ Same w w' := by
  have HI1 := hide (int_is e.st hw.st.1 hw.st.2)
  have HI2 := hide (int_is e.ss hw.ss.1 hw.ss.2)
  have HI3 := hide (int_is e.op hw.op.1 hw.op.2)
  have HI4 := hide (int_is e.t.e hw.te.1 hw.te.2)
  have HI5 := hide (int_is e.t.n hw.tn.1 hw.tn.2)
  have n1 := itoa_len e.st hw.st.1 hw.st.2
  have n2 := itoa_len e.ss hw.ss.1 hw.ss.2
  have n3 := itoa_len e.op hw.op.1 hw.op.2
  have n4 := itoa_len e.t.e hw.te.1 hw.te.2
  have n5 := itoa_len e.t.n hw.tn.1 hw.tn.2
  have hb1 := Blk.new w 46 (evL e).toArray
  have hs1 := (Chg.refl (fun _ => False) w).alloc (.cells (evL e).toArray 46)
  have c0 : (evL e)[0]? = some (.int .i64 e.k) := rfl
  have c1 : (evL e)[1]? = some (.int .i64 e.st) := rfl
  have c2 : (evL e)[2]? = some (.int .i64 e.ss) := rfl
  have c3 : (evL e)[3]? = some (.int .i64 e.op) := rfl
  have c4 : (evL e)[22]? = some (.int .i64 e.t.e) := rfl
  have c5 : (evL e)[23]? = some (.bool e.t.asked) := rfl
  have c6 : (evL e)[25]? = some (.int .i64 e.t.n) := rfl
  have Hb1 := hide hb1
  have Hs1 := hide hs1
  have hkw := hb1.cell
  unfold evV lineB partsB
  unfold strV at HI1 HI2 HI3 HI4 HI5
  clear hb1 hs1 hw
  generalize Lib.itoa e.st = S1 at *
  generalize Lib.itoa e.ss = S2 at *
  generalize Lib.itoa e.op = S3 at *
  generalize Lib.itoa e.t.e = S4 at *
  generalize Lib.itoa e.t.n = S5 at *
  obtain ⟨k, hk⟩ : ∃ k, e.k = k := ⟨_, rfl⟩
  obtain ⟨st, hst⟩ : ∃ k, e.st = k := ⟨_, rfl⟩
  obtain ⟨ss, hss⟩ : ∃ k, e.ss = k := ⟨_, rfl⟩
  obtain ⟨op, hop⟩ : ∃ k, e.op = k := ⟨_, rfl⟩
  obtain ⟨te, hte⟩ : ∃ k, e.t.e = k := ⟨_, rfl⟩
  obtain ⟨tn, htn⟩ : ∃ k, e.t.n = k := ⟨_, rfl⟩
  obtain ⟨ta, hta⟩ : ∃ k, e.t.asked = k := ⟨_, rfl⟩
  rw [hk] at c0 hkk ⊢
  rw [hst] at c1 HI1
  rw [hss] at c2 HI2
  rw [hop] at c3 HI3
  rw [hte] at c4 HI4
  rw [hta] at c5 hta0 ⊢
  rw [htn] at c6 HI5
  clear hk hst hss hop hte htn hta
  generalize evL e = L at *
  subst hkk
  subst hta0
  rw [show wordB 2 = [116, 111, 111, 107] from by decide]
  rw [if_neg (by omega)]
  rw [if_neg (by decide)]
  have q89246 : ¬ 9223372036854775807 < S1.length + 2 := by omega
  have q23595 : ¬ 9223372036854775807 < S1.length + 2 + S2.length := by omega
  have q56519 : ¬ 9223372036854775807 < S1.length + 2 + S2.length + 1 := by omega
  have q15167 : ¬ 9223372036854775807 < S1.length + 2 + S2.length + 1 + 4 := by omega
  have q56306 : ¬ 9223372036854775807 < S1.length + 2 + S2.length + 1 + 4 + 2 := by omega
  have q69733 : ¬ 9223372036854775807 < S1.length + 2 + S2.length + 1 + 4 + 2 + S3.length := by omega
  have q51292 : ¬ 9223372036854775807 < S1.length + 2 + S2.length + 1 + 4 + 2 + S3.length + 6 := by omega
  have q18030 : ¬ 9223372036854775807 < S1.length + 2 + S2.length + 1 + 4 + 2 + S3.length + 6 + S4.length := by omega
  go_enter Tryz.func8, Tryz.ntmps8
  go_wp2_with fail
  refine wp_region_mixS 17 (by kernel_rfl) (by kernel_rfl) fun Fin hFin => ?_
  simp only [List.take_succ_cons, List.take_zero]
  iterate 17 (
      (refine mix_lit ?_ ?_ (fun w => Chg.refl _ w) ?_ ?_ ?_ ?_
       rotate_left; rotate_left
       · intro e w1 hR hF K hK; (have hcb := ((Hb1.out.alloc _).same hR).cell); go_simp; (first | (refine hK _ _ (Chg.refl _ _) ?_; rfl) | (go_at_call 23; (with_reducible refine (HI1.out _).mono ?_); rintro _ w2 ⟨rfl, rfl⟩; refine hK _ _ (Chg.refl _ _) ?_; rfl) | (go_at_call 23; (with_reducible refine (HI2.out _).mono ?_); rintro _ w2 ⟨rfl, rfl⟩; refine hK _ _ (Chg.refl _ _) ?_; rfl) | (go_at_call 23; (with_reducible refine (HI3.out _).mono ?_); rintro _ w2 ⟨rfl, rfl⟩; refine hK _ _ (Chg.refl _ _) ?_; rfl))
       · intro e; simp only [Act.put, List.setIfInBounds_toArray, List.set_cons_zero, List.set_cons_succ]; rfl
       · exact Loc.const _ _))
  refine mix_nil fun e w1 hR hF => hFin _ _ ?_
  simp only [List.drop_succ_cons, List.drop_zero]
  have hkb := ((Hb1.out.alloc _).same hR).cell
  have HR := hide hR
  clear hR hF hFin
  go_wp2_with (first | (go_at_call 23; (with_reducible refine (HI4.out _).mono ?_); rintro _ w2 ⟨rfl, rfl⟩) | (go_at_call 23; (with_reducible refine (HI5.out _).mono ?_); rintro _ w2 ⟨rfl, rfl⟩) | fail)
  go_ret
  refine ⟨ret_eq (show Value.string _ = strV _ from ?_), Same.trans (Hs1.out.alloc _) HR.out⟩
  rw [join6]
  unfold strV
  simp only [← bapp]
set_option maxRecDepth 100000 in
set_option maxHeartbeats 8000000 in
theorem lineRf_6 (e : Ev) (w : World) (hw : WfEv e) (hkk : e.k = 3) (hta0 : e.t.asked = true) :
    Calls Tryz.prog 8 #[evV e] w fun f w' => f = .returned (strV (lineB e)) ∧ Same w w' := by
  have HI1 := hide (int_is e.st hw.st.1 hw.st.2)
  have HI2 := hide (int_is e.ss hw.ss.1 hw.ss.2)
  have HI3 := hide (int_is e.op hw.op.1 hw.op.2)
  have HI4 := hide (int_is e.t.e hw.te.1 hw.te.2)
  have HI5 := hide (int_is e.t.n hw.tn.1 hw.tn.2)
  have n1 := itoa_len e.st hw.st.1 hw.st.2
  have n2 := itoa_len e.ss hw.ss.1 hw.ss.2
  have n3 := itoa_len e.op hw.op.1 hw.op.2
  have n4 := itoa_len e.t.e hw.te.1 hw.te.2
  have n5 := itoa_len e.t.n hw.tn.1 hw.tn.2
  have hb1 := Blk.new w 46 (evL e).toArray
  have hs1 := (Chg.refl (fun _ => False) w).alloc (.cells (evL e).toArray 46)
  have c0 : (evL e)[0]? = some (.int .i64 e.k) := rfl
  have c1 : (evL e)[1]? = some (.int .i64 e.st) := rfl
  have c2 : (evL e)[2]? = some (.int .i64 e.ss) := rfl
  have c3 : (evL e)[3]? = some (.int .i64 e.op) := rfl
  have c4 : (evL e)[22]? = some (.int .i64 e.t.e) := rfl
  have c5 : (evL e)[23]? = some (.bool e.t.asked) := rfl
  have c6 : (evL e)[25]? = some (.int .i64 e.t.n) := rfl
  have Hb1 := hide hb1
  have Hs1 := hide hs1
  have hkw := hb1.cell
  unfold evV lineB partsB
  unfold strV at HI1 HI2 HI3 HI4 HI5
  clear hb1 hs1 hw
  generalize Lib.itoa e.st = S1 at *
  generalize Lib.itoa e.ss = S2 at *
  generalize Lib.itoa e.op = S3 at *
  generalize Lib.itoa e.t.e = S4 at *
  generalize Lib.itoa e.t.n = S5 at *
  obtain ⟨k, hk⟩ : ∃ k, e.k = k := ⟨_, rfl⟩
  obtain ⟨st, hst⟩ : ∃ k, e.st = k := ⟨_, rfl⟩
  obtain ⟨ss, hss⟩ : ∃ k, e.ss = k := ⟨_, rfl⟩
  obtain ⟨op, hop⟩ : ∃ k, e.op = k := ⟨_, rfl⟩
  obtain ⟨te, hte⟩ : ∃ k, e.t.e = k := ⟨_, rfl⟩
  obtain ⟨tn, htn⟩ : ∃ k, e.t.n = k := ⟨_, rfl⟩
  obtain ⟨ta, hta⟩ : ∃ k, e.t.asked = k := ⟨_, rfl⟩
  rw [hk] at c0 hkk ⊢
  rw [hst] at c1 HI1
  rw [hss] at c2 HI2
  rw [hop] at c3 HI3
  rw [hte] at c4 HI4
  rw [hta] at c5 hta0 ⊢
  rw [htn] at c6 HI5
  clear hk hst hss hop hte htn hta
  generalize evL e = L at *
  subst hkk
  subst hta0
  rw [show wordB 3 = [114, 101, 112, 108, 105, 101, 100] from by decide]
  rw [if_neg (by omega)]
  rw [if_pos rfl]
  have q89246 : ¬ 9223372036854775807 < S1.length + 2 := by omega
  have q23595 : ¬ 9223372036854775807 < S1.length + 2 + S2.length := by omega
  have q56519 : ¬ 9223372036854775807 < S1.length + 2 + S2.length + 1 := by omega
  have q67480 : ¬ 9223372036854775807 < S1.length + 2 + S2.length + 1 + 7 := by omega
  have q32718 : ¬ 9223372036854775807 < S1.length + 2 + S2.length + 1 + 7 + 2 := by omega
  have q80396 : ¬ 9223372036854775807 < S1.length + 2 + S2.length + 1 + 7 + 2 + S3.length := by omega
  have q22720 : ¬ 9223372036854775807 < S1.length + 2 + S2.length + 1 + 7 + 2 + S3.length + 6 := by omega
  have q42063 : ¬ 9223372036854775807 < S1.length + 2 + S2.length + 1 + 7 + 2 + S3.length + 6 + S4.length := by omega
  have q33460 : ¬ 9223372036854775807 < S1.length + 2 + S2.length + 1 + 7 + 2 + S3.length + 6 + S4.length + 1 := by omega
  have q53355 : ¬ 9223372036854775807 < S1.length + 2 + S2.length + 1 + 7 + 2 + S3.length + 6 + S4.length + 1 + S5.length := by omega
  go_enter Tryz.func8, Tryz.ntmps8
  go_wp2_with fail
  refine wp_region_mixS 17 (by kernel_rfl) (by kernel_rfl) fun Fin hFin => ?_
  simp only [List.take_succ_cons, List.take_zero]
  iterate 17 (
      (refine mix_lit ?_ ?_ (fun w => Chg.refl _ w) ?_ ?_ ?_ ?_
       rotate_left; rotate_left
       · intro e w1 hR hF K hK; (have hcb := ((Hb1.out.alloc _).same hR).cell); go_simp; (first | (refine hK _ _ (Chg.refl _ _) ?_; rfl) | (go_at_call 23; (with_reducible refine (HI1.out _).mono ?_); rintro _ w2 ⟨rfl, rfl⟩; refine hK _ _ (Chg.refl _ _) ?_; rfl) | (go_at_call 23; (with_reducible refine (HI2.out _).mono ?_); rintro _ w2 ⟨rfl, rfl⟩; refine hK _ _ (Chg.refl _ _) ?_; rfl) | (go_at_call 23; (with_reducible refine (HI3.out _).mono ?_); rintro _ w2 ⟨rfl, rfl⟩; refine hK _ _ (Chg.refl _ _) ?_; rfl))
       · intro e; simp only [Act.put, List.setIfInBounds_toArray, List.set_cons_zero, List.set_cons_succ]; rfl
       · exact Loc.const _ _))
  refine mix_nil fun e w1 hR hF => hFin _ _ ?_
  simp only [List.drop_succ_cons, List.drop_zero]
  have hkb := ((Hb1.out.alloc _).same hR).cell
  have HR := hide hR
  clear hR hF hFin
  go_wp2_with (first | (go_at_call 23; (with_reducible refine (HI4.out _).mono ?_); rintro _ w2 ⟨rfl, rfl⟩) | (go_at_call 23; (with_reducible refine (HI5.out _).mono ?_); rintro _ w2 ⟨rfl, rfl⟩) | fail)
  go_ret
  refine ⟨ret_eq (show Value.string _ = strV _ from ?_), Same.trans (Hs1.out.alloc _) HR.out⟩
  rw [join7]
  unfold strV
  simp only [← bapp]
set_option maxRecDepth 100000 in
set_option maxHeartbeats 8000000 in
theorem lineRf_7 (e : Ev) (w : World) (hw : WfEv e) (hkk : e.k = 3) (hta0 : e.t.asked = false) :
    Calls Tryz.prog 8 #[evV e] w fun f w' => f = .returned (strV (lineB e)) ∧ Same w w' := by
  have HI1 := hide (int_is e.st hw.st.1 hw.st.2)
  have HI2 := hide (int_is e.ss hw.ss.1 hw.ss.2)
  have HI3 := hide (int_is e.op hw.op.1 hw.op.2)
  have HI4 := hide (int_is e.t.e hw.te.1 hw.te.2)
  have HI5 := hide (int_is e.t.n hw.tn.1 hw.tn.2)
  have n1 := itoa_len e.st hw.st.1 hw.st.2
  have n2 := itoa_len e.ss hw.ss.1 hw.ss.2
  have n3 := itoa_len e.op hw.op.1 hw.op.2
  have n4 := itoa_len e.t.e hw.te.1 hw.te.2
  have n5 := itoa_len e.t.n hw.tn.1 hw.tn.2
  have hb1 := Blk.new w 46 (evL e).toArray
  have hs1 := (Chg.refl (fun _ => False) w).alloc (.cells (evL e).toArray 46)
  have c0 : (evL e)[0]? = some (.int .i64 e.k) := rfl
  have c1 : (evL e)[1]? = some (.int .i64 e.st) := rfl
  have c2 : (evL e)[2]? = some (.int .i64 e.ss) := rfl
  have c3 : (evL e)[3]? = some (.int .i64 e.op) := rfl
  have c4 : (evL e)[22]? = some (.int .i64 e.t.e) := rfl
  have c5 : (evL e)[23]? = some (.bool e.t.asked) := rfl
  have c6 : (evL e)[25]? = some (.int .i64 e.t.n) := rfl
  have Hb1 := hide hb1
  have Hs1 := hide hs1
  have hkw := hb1.cell
  unfold evV lineB partsB
  unfold strV at HI1 HI2 HI3 HI4 HI5
  clear hb1 hs1 hw
  generalize Lib.itoa e.st = S1 at *
  generalize Lib.itoa e.ss = S2 at *
  generalize Lib.itoa e.op = S3 at *
  generalize Lib.itoa e.t.e = S4 at *
  generalize Lib.itoa e.t.n = S5 at *
  obtain ⟨k, hk⟩ : ∃ k, e.k = k := ⟨_, rfl⟩
  obtain ⟨st, hst⟩ : ∃ k, e.st = k := ⟨_, rfl⟩
  obtain ⟨ss, hss⟩ : ∃ k, e.ss = k := ⟨_, rfl⟩
  obtain ⟨op, hop⟩ : ∃ k, e.op = k := ⟨_, rfl⟩
  obtain ⟨te, hte⟩ : ∃ k, e.t.e = k := ⟨_, rfl⟩
  obtain ⟨tn, htn⟩ : ∃ k, e.t.n = k := ⟨_, rfl⟩
  obtain ⟨ta, hta⟩ : ∃ k, e.t.asked = k := ⟨_, rfl⟩
  rw [hk] at c0 hkk ⊢
  rw [hst] at c1 HI1
  rw [hss] at c2 HI2
  rw [hop] at c3 HI3
  rw [hte] at c4 HI4
  rw [hta] at c5 hta0 ⊢
  rw [htn] at c6 HI5
  clear hk hst hss hop hte htn hta
  generalize evL e = L at *
  subst hkk
  subst hta0
  rw [show wordB 3 = [114, 101, 112, 108, 105, 101, 100] from by decide]
  rw [if_neg (by omega)]
  rw [if_neg (by decide)]
  have q89246 : ¬ 9223372036854775807 < S1.length + 2 := by omega
  have q23595 : ¬ 9223372036854775807 < S1.length + 2 + S2.length := by omega
  have q56519 : ¬ 9223372036854775807 < S1.length + 2 + S2.length + 1 := by omega
  have q67480 : ¬ 9223372036854775807 < S1.length + 2 + S2.length + 1 + 7 := by omega
  have q32718 : ¬ 9223372036854775807 < S1.length + 2 + S2.length + 1 + 7 + 2 := by omega
  have q80396 : ¬ 9223372036854775807 < S1.length + 2 + S2.length + 1 + 7 + 2 + S3.length := by omega
  have q22720 : ¬ 9223372036854775807 < S1.length + 2 + S2.length + 1 + 7 + 2 + S3.length + 6 := by omega
  have q42063 : ¬ 9223372036854775807 < S1.length + 2 + S2.length + 1 + 7 + 2 + S3.length + 6 + S4.length := by omega
  go_enter Tryz.func8, Tryz.ntmps8
  go_wp2_with fail
  refine wp_region_mixS 17 (by kernel_rfl) (by kernel_rfl) fun Fin hFin => ?_
  simp only [List.take_succ_cons, List.take_zero]
  iterate 17 (
      (refine mix_lit ?_ ?_ (fun w => Chg.refl _ w) ?_ ?_ ?_ ?_
       rotate_left; rotate_left
       · intro e w1 hR hF K hK; (have hcb := ((Hb1.out.alloc _).same hR).cell); go_simp; (first | (refine hK _ _ (Chg.refl _ _) ?_; rfl) | (go_at_call 23; (with_reducible refine (HI1.out _).mono ?_); rintro _ w2 ⟨rfl, rfl⟩; refine hK _ _ (Chg.refl _ _) ?_; rfl) | (go_at_call 23; (with_reducible refine (HI2.out _).mono ?_); rintro _ w2 ⟨rfl, rfl⟩; refine hK _ _ (Chg.refl _ _) ?_; rfl) | (go_at_call 23; (with_reducible refine (HI3.out _).mono ?_); rintro _ w2 ⟨rfl, rfl⟩; refine hK _ _ (Chg.refl _ _) ?_; rfl))
       · intro e; simp only [Act.put, List.setIfInBounds_toArray, List.set_cons_zero, List.set_cons_succ]; rfl
       · exact Loc.const _ _))
  refine mix_nil fun e w1 hR hF => hFin _ _ ?_
  simp only [List.drop_succ_cons, List.drop_zero]
  have hkb := ((Hb1.out.alloc _).same hR).cell
  have HR := hide hR
  clear hR hF hFin
  go_wp2_with (first | (go_at_call 23; (with_reducible refine (HI4.out _).mono ?_); rintro _ w2 ⟨rfl, rfl⟩) | (go_at_call 23; (with_reducible refine (HI5.out _).mono ?_); rintro _ w2 ⟨rfl, rfl⟩) | fail)
  go_ret
  refine ⟨ret_eq (show Value.string _ = strV _ from ?_), Same.trans (Hs1.out.alloc _) HR.out⟩
  rw [join6]
  unfold strV
  simp only [← bapp]
set_option maxRecDepth 100000 in
set_option maxHeartbeats 8000000 in
theorem lineRf_8 (e : Ev) (w : World) (hw : WfEv e) (hkk : e.k = 5) (hta0 : e.t.asked = true) :
    Calls Tryz.prog 8 #[evV e] w fun f w' => f = .returned (strV (lineB e)) ∧ Same w w' := by
  have HI1 := hide (int_is e.st hw.st.1 hw.st.2)
  have HI2 := hide (int_is e.ss hw.ss.1 hw.ss.2)
  have HI3 := hide (int_is e.op hw.op.1 hw.op.2)
  have HI4 := hide (int_is e.t.e hw.te.1 hw.te.2)
  have HI5 := hide (int_is e.t.n hw.tn.1 hw.tn.2)
  have n1 := itoa_len e.st hw.st.1 hw.st.2
  have n2 := itoa_len e.ss hw.ss.1 hw.ss.2
  have n3 := itoa_len e.op hw.op.1 hw.op.2
  have n4 := itoa_len e.t.e hw.te.1 hw.te.2
  have n5 := itoa_len e.t.n hw.tn.1 hw.tn.2
  have hb1 := Blk.new w 46 (evL e).toArray
  have hs1 := (Chg.refl (fun _ => False) w).alloc (.cells (evL e).toArray 46)
  have c0 : (evL e)[0]? = some (.int .i64 e.k) := rfl
  have c1 : (evL e)[1]? = some (.int .i64 e.st) := rfl
  have c2 : (evL e)[2]? = some (.int .i64 e.ss) := rfl
  have c3 : (evL e)[3]? = some (.int .i64 e.op) := rfl
  have c4 : (evL e)[22]? = some (.int .i64 e.t.e) := rfl
  have c5 : (evL e)[23]? = some (.bool e.t.asked) := rfl
  have c6 : (evL e)[25]? = some (.int .i64 e.t.n) := rfl
  have Hb1 := hide hb1
  have Hs1 := hide hs1
  have hkw := hb1.cell
  unfold evV lineB partsB
  unfold strV at HI1 HI2 HI3 HI4 HI5
  clear hb1 hs1 hw
  generalize Lib.itoa e.st = S1 at *
  generalize Lib.itoa e.ss = S2 at *
  generalize Lib.itoa e.op = S3 at *
  generalize Lib.itoa e.t.e = S4 at *
  generalize Lib.itoa e.t.n = S5 at *
  obtain ⟨k, hk⟩ : ∃ k, e.k = k := ⟨_, rfl⟩
  obtain ⟨st, hst⟩ : ∃ k, e.st = k := ⟨_, rfl⟩
  obtain ⟨ss, hss⟩ : ∃ k, e.ss = k := ⟨_, rfl⟩
  obtain ⟨op, hop⟩ : ∃ k, e.op = k := ⟨_, rfl⟩
  obtain ⟨te, hte⟩ : ∃ k, e.t.e = k := ⟨_, rfl⟩
  obtain ⟨tn, htn⟩ : ∃ k, e.t.n = k := ⟨_, rfl⟩
  obtain ⟨ta, hta⟩ : ∃ k, e.t.asked = k := ⟨_, rfl⟩
  rw [hk] at c0 hkk ⊢
  rw [hst] at c1 HI1
  rw [hss] at c2 HI2
  rw [hop] at c3 HI3
  rw [hte] at c4 HI4
  rw [hta] at c5 hta0 ⊢
  rw [htn] at c6 HI5
  clear hk hst hss hop hte htn hta
  generalize evL e = L at *
  subst hkk
  subst hta0
  rw [show wordB 5 = [114, 101, 102, 117, 115, 101, 100] from by decide]
  rw [if_neg (by omega)]
  rw [if_pos rfl]
  have q89246 : ¬ 9223372036854775807 < S1.length + 2 := by omega
  have q23595 : ¬ 9223372036854775807 < S1.length + 2 + S2.length := by omega
  have q56519 : ¬ 9223372036854775807 < S1.length + 2 + S2.length + 1 := by omega
  have q67480 : ¬ 9223372036854775807 < S1.length + 2 + S2.length + 1 + 7 := by omega
  have q32718 : ¬ 9223372036854775807 < S1.length + 2 + S2.length + 1 + 7 + 2 := by omega
  have q80396 : ¬ 9223372036854775807 < S1.length + 2 + S2.length + 1 + 7 + 2 + S3.length := by omega
  have q22720 : ¬ 9223372036854775807 < S1.length + 2 + S2.length + 1 + 7 + 2 + S3.length + 6 := by omega
  have q42063 : ¬ 9223372036854775807 < S1.length + 2 + S2.length + 1 + 7 + 2 + S3.length + 6 + S4.length := by omega
  have q33460 : ¬ 9223372036854775807 < S1.length + 2 + S2.length + 1 + 7 + 2 + S3.length + 6 + S4.length + 1 := by omega
  have q53355 : ¬ 9223372036854775807 < S1.length + 2 + S2.length + 1 + 7 + 2 + S3.length + 6 + S4.length + 1 + S5.length := by omega
  go_enter Tryz.func8, Tryz.ntmps8
  go_wp2_with fail
  refine wp_region_mixS 17 (by kernel_rfl) (by kernel_rfl) fun Fin hFin => ?_
  simp only [List.take_succ_cons, List.take_zero]
  iterate 17 (
      (refine mix_lit ?_ ?_ (fun w => Chg.refl _ w) ?_ ?_ ?_ ?_
       rotate_left; rotate_left
       · intro e w1 hR hF K hK; (have hcb := ((Hb1.out.alloc _).same hR).cell); go_simp; (first | (refine hK _ _ (Chg.refl _ _) ?_; rfl) | (go_at_call 23; (with_reducible refine (HI1.out _).mono ?_); rintro _ w2 ⟨rfl, rfl⟩; refine hK _ _ (Chg.refl _ _) ?_; rfl) | (go_at_call 23; (with_reducible refine (HI2.out _).mono ?_); rintro _ w2 ⟨rfl, rfl⟩; refine hK _ _ (Chg.refl _ _) ?_; rfl) | (go_at_call 23; (with_reducible refine (HI3.out _).mono ?_); rintro _ w2 ⟨rfl, rfl⟩; refine hK _ _ (Chg.refl _ _) ?_; rfl))
       · intro e; simp only [Act.put, List.setIfInBounds_toArray, List.set_cons_zero, List.set_cons_succ]; rfl
       · exact Loc.const _ _))
  refine mix_nil fun e w1 hR hF => hFin _ _ ?_
  simp only [List.drop_succ_cons, List.drop_zero]
  have hkb := ((Hb1.out.alloc _).same hR).cell
  have HR := hide hR
  clear hR hF hFin
  go_wp2_with (first | (go_at_call 23; (with_reducible refine (HI4.out _).mono ?_); rintro _ w2 ⟨rfl, rfl⟩) | (go_at_call 23; (with_reducible refine (HI5.out _).mono ?_); rintro _ w2 ⟨rfl, rfl⟩) | fail)
  go_ret
  refine ⟨ret_eq (show Value.string _ = strV _ from ?_), Same.trans (Hs1.out.alloc _) HR.out⟩
  rw [join7]
  unfold strV
  simp only [← bapp]
set_option maxRecDepth 100000 in
set_option maxHeartbeats 8000000 in
theorem lineRf_9 (e : Ev) (w : World) (hw : WfEv e) (hkk : e.k = 5) (hta0 : e.t.asked = false) :
    Calls Tryz.prog 8 #[evV e] w fun f w' => f = .returned (strV (lineB e)) ∧ Same w w' := by
  have HI1 := hide (int_is e.st hw.st.1 hw.st.2)
  have HI2 := hide (int_is e.ss hw.ss.1 hw.ss.2)
  have HI3 := hide (int_is e.op hw.op.1 hw.op.2)
  have HI4 := hide (int_is e.t.e hw.te.1 hw.te.2)
  have HI5 := hide (int_is e.t.n hw.tn.1 hw.tn.2)
  have n1 := itoa_len e.st hw.st.1 hw.st.2
  have n2 := itoa_len e.ss hw.ss.1 hw.ss.2
  have n3 := itoa_len e.op hw.op.1 hw.op.2
  have n4 := itoa_len e.t.e hw.te.1 hw.te.2
  have n5 := itoa_len e.t.n hw.tn.1 hw.tn.2
  have hb1 := Blk.new w 46 (evL e).toArray
  have hs1 := (Chg.refl (fun _ => False) w).alloc (.cells (evL e).toArray 46)
  have c0 : (evL e)[0]? = some (.int .i64 e.k) := rfl
  have c1 : (evL e)[1]? = some (.int .i64 e.st) := rfl
  have c2 : (evL e)[2]? = some (.int .i64 e.ss) := rfl
  have c3 : (evL e)[3]? = some (.int .i64 e.op) := rfl
  have c4 : (evL e)[22]? = some (.int .i64 e.t.e) := rfl
  have c5 : (evL e)[23]? = some (.bool e.t.asked) := rfl
  have c6 : (evL e)[25]? = some (.int .i64 e.t.n) := rfl
  have Hb1 := hide hb1
  have Hs1 := hide hs1
  have hkw := hb1.cell
  unfold evV lineB partsB
  unfold strV at HI1 HI2 HI3 HI4 HI5
  clear hb1 hs1 hw
  generalize Lib.itoa e.st = S1 at *
  generalize Lib.itoa e.ss = S2 at *
  generalize Lib.itoa e.op = S3 at *
  generalize Lib.itoa e.t.e = S4 at *
  generalize Lib.itoa e.t.n = S5 at *
  obtain ⟨k, hk⟩ : ∃ k, e.k = k := ⟨_, rfl⟩
  obtain ⟨st, hst⟩ : ∃ k, e.st = k := ⟨_, rfl⟩
  obtain ⟨ss, hss⟩ : ∃ k, e.ss = k := ⟨_, rfl⟩
  obtain ⟨op, hop⟩ : ∃ k, e.op = k := ⟨_, rfl⟩
  obtain ⟨te, hte⟩ : ∃ k, e.t.e = k := ⟨_, rfl⟩
  obtain ⟨tn, htn⟩ : ∃ k, e.t.n = k := ⟨_, rfl⟩
  obtain ⟨ta, hta⟩ : ∃ k, e.t.asked = k := ⟨_, rfl⟩
  rw [hk] at c0 hkk ⊢
  rw [hst] at c1 HI1
  rw [hss] at c2 HI2
  rw [hop] at c3 HI3
  rw [hte] at c4 HI4
  rw [hta] at c5 hta0 ⊢
  rw [htn] at c6 HI5
  clear hk hst hss hop hte htn hta
  generalize evL e = L at *
  subst hkk
  subst hta0
  rw [show wordB 5 = [114, 101, 102, 117, 115, 101, 100] from by decide]
  rw [if_neg (by omega)]
  rw [if_neg (by decide)]
  have q89246 : ¬ 9223372036854775807 < S1.length + 2 := by omega
  have q23595 : ¬ 9223372036854775807 < S1.length + 2 + S2.length := by omega
  have q56519 : ¬ 9223372036854775807 < S1.length + 2 + S2.length + 1 := by omega
  have q67480 : ¬ 9223372036854775807 < S1.length + 2 + S2.length + 1 + 7 := by omega
  have q32718 : ¬ 9223372036854775807 < S1.length + 2 + S2.length + 1 + 7 + 2 := by omega
  have q80396 : ¬ 9223372036854775807 < S1.length + 2 + S2.length + 1 + 7 + 2 + S3.length := by omega
  have q22720 : ¬ 9223372036854775807 < S1.length + 2 + S2.length + 1 + 7 + 2 + S3.length + 6 := by omega
  have q42063 : ¬ 9223372036854775807 < S1.length + 2 + S2.length + 1 + 7 + 2 + S3.length + 6 + S4.length := by omega
  go_enter Tryz.func8, Tryz.ntmps8
  go_wp2_with fail
  refine wp_region_mixS 17 (by kernel_rfl) (by kernel_rfl) fun Fin hFin => ?_
  simp only [List.take_succ_cons, List.take_zero]
  iterate 17 (
      (refine mix_lit ?_ ?_ (fun w => Chg.refl _ w) ?_ ?_ ?_ ?_
       rotate_left; rotate_left
       · intro e w1 hR hF K hK; (have hcb := ((Hb1.out.alloc _).same hR).cell); go_simp; (first | (refine hK _ _ (Chg.refl _ _) ?_; rfl) | (go_at_call 23; (with_reducible refine (HI1.out _).mono ?_); rintro _ w2 ⟨rfl, rfl⟩; refine hK _ _ (Chg.refl _ _) ?_; rfl) | (go_at_call 23; (with_reducible refine (HI2.out _).mono ?_); rintro _ w2 ⟨rfl, rfl⟩; refine hK _ _ (Chg.refl _ _) ?_; rfl) | (go_at_call 23; (with_reducible refine (HI3.out _).mono ?_); rintro _ w2 ⟨rfl, rfl⟩; refine hK _ _ (Chg.refl _ _) ?_; rfl))
       · intro e; simp only [Act.put, List.setIfInBounds_toArray, List.set_cons_zero, List.set_cons_succ]; rfl
       · exact Loc.const _ _))
  refine mix_nil fun e w1 hR hF => hFin _ _ ?_
  simp only [List.drop_succ_cons, List.drop_zero]
  have hkb := ((Hb1.out.alloc _).same hR).cell
  have HR := hide hR
  clear hR hF hFin
  go_wp2_with (first | (go_at_call 23; (with_reducible refine (HI4.out _).mono ?_); rintro _ w2 ⟨rfl, rfl⟩) | (go_at_call 23; (with_reducible refine (HI5.out _).mono ?_); rintro _ w2 ⟨rfl, rfl⟩) | fail)
  go_ret
  refine ⟨ret_eq (show Value.string _ = strV _ from ?_), Same.trans (Hs1.out.alloc _) HR.out⟩
  rw [join6]
  unfold strV
  simp only [← bapp]
set_option maxRecDepth 100000 in
set_option maxHeartbeats 8000000 in
theorem lineRf_10 (e : Ev) (w : World) (hw : WfEv e) (hkk : e.k = 1) :
    Calls Tryz.prog 8 #[evV e] w fun f w' => f = .returned (strV (lineB e)) ∧ Same w w' := by
  have HI1 := hide (int_is e.st hw.st.1 hw.st.2)
  have HI2 := hide (int_is e.ss hw.ss.1 hw.ss.2)
  have HI3 := hide (int_is e.op hw.op.1 hw.op.2)
  have HI4 := hide (int_is e.t.e hw.te.1 hw.te.2)
  have HI5 := hide (int_is e.t.n hw.tn.1 hw.tn.2)
  have n1 := itoa_len e.st hw.st.1 hw.st.2
  have n2 := itoa_len e.ss hw.ss.1 hw.ss.2
  have n3 := itoa_len e.op hw.op.1 hw.op.2
  have n4 := itoa_len e.t.e hw.te.1 hw.te.2
  have n5 := itoa_len e.t.n hw.tn.1 hw.tn.2
  have hb1 := Blk.new w 46 (evL e).toArray
  have hs1 := (Chg.refl (fun _ => False) w).alloc (.cells (evL e).toArray 46)
  have c0 : (evL e)[0]? = some (.int .i64 e.k) := rfl
  have c1 : (evL e)[1]? = some (.int .i64 e.st) := rfl
  have c2 : (evL e)[2]? = some (.int .i64 e.ss) := rfl
  have c3 : (evL e)[3]? = some (.int .i64 e.op) := rfl
  have c4 : (evL e)[22]? = some (.int .i64 e.t.e) := rfl
  have c5 : (evL e)[23]? = some (.bool e.t.asked) := rfl
  have c6 : (evL e)[25]? = some (.int .i64 e.t.n) := rfl
  have Hb1 := hide hb1
  have Hs1 := hide hs1
  have hkw := hb1.cell
  unfold evV lineB partsB
  unfold strV at HI1 HI2 HI3 HI4 HI5
  clear hb1 hs1 hw
  generalize Lib.itoa e.st = S1 at *
  generalize Lib.itoa e.ss = S2 at *
  generalize Lib.itoa e.op = S3 at *
  generalize Lib.itoa e.t.e = S4 at *
  generalize Lib.itoa e.t.n = S5 at *
  obtain ⟨k, hk⟩ : ∃ k, e.k = k := ⟨_, rfl⟩
  obtain ⟨st, hst⟩ : ∃ k, e.st = k := ⟨_, rfl⟩
  obtain ⟨ss, hss⟩ : ∃ k, e.ss = k := ⟨_, rfl⟩
  obtain ⟨op, hop⟩ : ∃ k, e.op = k := ⟨_, rfl⟩
  obtain ⟨te, hte⟩ : ∃ k, e.t.e = k := ⟨_, rfl⟩
  obtain ⟨tn, htn⟩ : ∃ k, e.t.n = k := ⟨_, rfl⟩
  obtain ⟨ta, hta⟩ : ∃ k, e.t.asked = k := ⟨_, rfl⟩
  rw [hk] at c0 hkk ⊢
  rw [hst] at c1 HI1
  rw [hss] at c2 HI2
  rw [hop] at c3 HI3
  rw [hte] at c4 HI4
  rw [hta] at c5 ⊢
  rw [htn] at c6 HI5
  clear hk hst hss hop hte htn hta
  generalize evL e = L at *
  subst hkk
  rw [show wordB 1 = [105, 110, 118, 111, 107, 101, 100] from by decide]
  rw [if_pos (by decide), List.append_nil]
  have q89246 : ¬ 9223372036854775807 < S1.length + 2 := by omega
  have q23595 : ¬ 9223372036854775807 < S1.length + 2 + S2.length := by omega
  have q56519 : ¬ 9223372036854775807 < S1.length + 2 + S2.length + 1 := by omega
  have q67480 : ¬ 9223372036854775807 < S1.length + 2 + S2.length + 1 + 7 := by omega
  have q32718 : ¬ 9223372036854775807 < S1.length + 2 + S2.length + 1 + 7 + 2 := by omega
  have q80396 : ¬ 9223372036854775807 < S1.length + 2 + S2.length + 1 + 7 + 2 + S3.length := by omega
  go_enter Tryz.func8, Tryz.ntmps8
  go_wp2_with fail
  refine wp_region_mixS 17 (by kernel_rfl) (by kernel_rfl) fun Fin hFin => ?_
  simp only [List.take_succ_cons, List.take_zero]
  iterate 17 (
      (refine mix_lit ?_ ?_ (fun w => Chg.refl _ w) ?_ ?_ ?_ ?_
       rotate_left; rotate_left
       · intro e w1 hR hF K hK; (have hcb := ((Hb1.out.alloc _).same hR).cell); go_simp; (first | (refine hK _ _ (Chg.refl _ _) ?_; rfl) | (go_at_call 23; (with_reducible refine (HI1.out _).mono ?_); rintro _ w2 ⟨rfl, rfl⟩; refine hK _ _ (Chg.refl _ _) ?_; rfl) | (go_at_call 23; (with_reducible refine (HI2.out _).mono ?_); rintro _ w2 ⟨rfl, rfl⟩; refine hK _ _ (Chg.refl _ _) ?_; rfl) | (go_at_call 23; (with_reducible refine (HI3.out _).mono ?_); rintro _ w2 ⟨rfl, rfl⟩; refine hK _ _ (Chg.refl _ _) ?_; rfl))
       · intro e; simp only [Act.put, List.setIfInBounds_toArray, List.set_cons_zero, List.set_cons_succ]; rfl
       · exact Loc.const _ _))
  refine mix_nil fun e w1 hR hF => hFin _ _ ?_
  simp only [List.drop_succ_cons, List.drop_zero]
  have hkb := ((Hb1.out.alloc _).same hR).cell
  have HR := hide hR
  clear hR hF hFin
  go_wp2_with (first | (go_at_call 23; (with_reducible refine (HI4.out _).mono ?_); rintro _ w2 ⟨rfl, rfl⟩) | (go_at_call 23; (with_reducible refine (HI5.out _).mono ?_); rintro _ w2 ⟨rfl, rfl⟩) | fail)
  go_ret
  refine ⟨ret_eq (show Value.string _ = strV _ from ?_), Same.trans (Hs1.out.alloc _) HR.out⟩
  rw [join4]
  unfold strV
  simp only [← bapp]
set_option maxRecDepth 100000 in
set_option maxHeartbeats 8000000 in
theorem lineRf_11 (e : Ev) (w : World) (hw : WfEv e) (hkk : e.k = 4) :
    Calls Tryz.prog 8 #[evV e] w fun f w' => f = .returned (strV (lineB e)) ∧ Same w w' := by
  have HI1 := hide (int_is e.st hw.st.1 hw.st.2)
  have HI2 := hide (int_is e.ss hw.ss.1 hw.ss.2)
  have HI3 := hide (int_is e.op hw.op.1 hw.op.2)
  have HI4 := hide (int_is e.t.e hw.te.1 hw.te.2)
  have HI5 := hide (int_is e.t.n hw.tn.1 hw.tn.2)
  have n1 := itoa_len e.st hw.st.1 hw.st.2
  have n2 := itoa_len e.ss hw.ss.1 hw.ss.2
  have n3 := itoa_len e.op hw.op.1 hw.op.2
  have n4 := itoa_len e.t.e hw.te.1 hw.te.2
  have n5 := itoa_len e.t.n hw.tn.1 hw.tn.2
  have hb1 := Blk.new w 46 (evL e).toArray
  have hs1 := (Chg.refl (fun _ => False) w).alloc (.cells (evL e).toArray 46)
  have c0 : (evL e)[0]? = some (.int .i64 e.k) := rfl
  have c1 : (evL e)[1]? = some (.int .i64 e.st) := rfl
  have c2 : (evL e)[2]? = some (.int .i64 e.ss) := rfl
  have c3 : (evL e)[3]? = some (.int .i64 e.op) := rfl
  have c4 : (evL e)[22]? = some (.int .i64 e.t.e) := rfl
  have c5 : (evL e)[23]? = some (.bool e.t.asked) := rfl
  have c6 : (evL e)[25]? = some (.int .i64 e.t.n) := rfl
  have Hb1 := hide hb1
  have Hs1 := hide hs1
  have hkw := hb1.cell
  unfold evV lineB partsB
  unfold strV at HI1 HI2 HI3 HI4 HI5
  clear hb1 hs1 hw
  generalize Lib.itoa e.st = S1 at *
  generalize Lib.itoa e.ss = S2 at *
  generalize Lib.itoa e.op = S3 at *
  generalize Lib.itoa e.t.e = S4 at *
  generalize Lib.itoa e.t.n = S5 at *
  obtain ⟨k, hk⟩ : ∃ k, e.k = k := ⟨_, rfl⟩
  obtain ⟨st, hst⟩ : ∃ k, e.st = k := ⟨_, rfl⟩
  obtain ⟨ss, hss⟩ : ∃ k, e.ss = k := ⟨_, rfl⟩
  obtain ⟨op, hop⟩ : ∃ k, e.op = k := ⟨_, rfl⟩
  obtain ⟨te, hte⟩ : ∃ k, e.t.e = k := ⟨_, rfl⟩
  obtain ⟨tn, htn⟩ : ∃ k, e.t.n = k := ⟨_, rfl⟩
  obtain ⟨ta, hta⟩ : ∃ k, e.t.asked = k := ⟨_, rfl⟩
  rw [hk] at c0 hkk ⊢
  rw [hst] at c1 HI1
  rw [hss] at c2 HI2
  rw [hop] at c3 HI3
  rw [hte] at c4 HI4
  rw [hta] at c5 ⊢
  rw [htn] at c6 HI5
  clear hk hst hss hop hte htn hta
  generalize evL e = L at *
  subst hkk
  rw [show wordB 4 = [97, 98, 111, 114, 116, 101, 100] from by decide]
  rw [if_pos (by decide), List.append_nil]
  have q89246 : ¬ 9223372036854775807 < S1.length + 2 := by omega
  have q23595 : ¬ 9223372036854775807 < S1.length + 2 + S2.length := by omega
  have q56519 : ¬ 9223372036854775807 < S1.length + 2 + S2.length + 1 := by omega
  have q67480 : ¬ 9223372036854775807 < S1.length + 2 + S2.length + 1 + 7 := by omega
  have q32718 : ¬ 9223372036854775807 < S1.length + 2 + S2.length + 1 + 7 + 2 := by omega
  have q80396 : ¬ 9223372036854775807 < S1.length + 2 + S2.length + 1 + 7 + 2 + S3.length := by omega
  go_enter Tryz.func8, Tryz.ntmps8
  go_wp2_with fail
  refine wp_region_mixS 17 (by kernel_rfl) (by kernel_rfl) fun Fin hFin => ?_
  simp only [List.take_succ_cons, List.take_zero]
  iterate 17 (
      (refine mix_lit ?_ ?_ (fun w => Chg.refl _ w) ?_ ?_ ?_ ?_
       rotate_left; rotate_left
       · intro e w1 hR hF K hK; (have hcb := ((Hb1.out.alloc _).same hR).cell); go_simp; (first | (refine hK _ _ (Chg.refl _ _) ?_; rfl) | (go_at_call 23; (with_reducible refine (HI1.out _).mono ?_); rintro _ w2 ⟨rfl, rfl⟩; refine hK _ _ (Chg.refl _ _) ?_; rfl) | (go_at_call 23; (with_reducible refine (HI2.out _).mono ?_); rintro _ w2 ⟨rfl, rfl⟩; refine hK _ _ (Chg.refl _ _) ?_; rfl) | (go_at_call 23; (with_reducible refine (HI3.out _).mono ?_); rintro _ w2 ⟨rfl, rfl⟩; refine hK _ _ (Chg.refl _ _) ?_; rfl))
       · intro e; simp only [Act.put, List.setIfInBounds_toArray, List.set_cons_zero, List.set_cons_succ]; rfl
       · exact Loc.const _ _))
  refine mix_nil fun e w1 hR hF => hFin _ _ ?_
  simp only [List.drop_succ_cons, List.drop_zero]
  have hkb := ((Hb1.out.alloc _).same hR).cell
  have HR := hide hR
  clear hR hF hFin
  go_wp2_with (first | (go_at_call 23; (with_reducible refine (HI4.out _).mono ?_); rintro _ w2 ⟨rfl, rfl⟩) | (go_at_call 23; (with_reducible refine (HI5.out _).mono ?_); rintro _ w2 ⟨rfl, rfl⟩) | fail)
  go_ret
  refine ⟨ret_eq (show Value.string _ = strV _ from ?_), Same.trans (Hs1.out.alloc _) HR.out⟩
  rw [join4]
  unfold strV
  simp only [← bapp]
theorem lineRf_any (e : Ev) (w : World) (hw : WfEv e) :
    Calls Tryz.prog 8 #[evV e] w fun f w' => f = .returned (strV (lineB e)) ∧ Same w w' := by
  have h : e.k < 1 ∨ 5 < e.k ∨ e.k = 1 ∨ e.k = 2 ∨ e.k = 3 ∨ e.k = 4 ∨ e.k = 5 := by omega
  rcases h with h | h | h | h | h | h | h
  · cases ha : e.t.asked
    · exact lineRf_1 e w hw h ha
    · exact lineRf_0 e w hw h ha
  · cases ha : e.t.asked
    · exact lineRf_3 e w hw h ha
    · exact lineRf_2 e w hw h ha
  · exact lineRf_10 e w hw h
  · cases ha : e.t.asked
    · exact lineRf_5 e w hw h ha
    · exact lineRf_4 e w hw h ha
  · cases ha : e.t.asked
    · exact lineRf_7 e w hw h ha
    · exact lineRf_6 e w hw h ha
  · exact lineRf_11 e w hw h
  · cases ha : e.t.asked
    · exact lineRf_9 e w hw h ha
    · exact lineRf_8 e w hw h ha
end Go.Proofs.YtenkdjfikppkdaaGreatDoor
