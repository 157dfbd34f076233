/-
  The text of points and intervals, by the document's Text. Conditions: numbers that an int holds; few of them.
-/
import Derived.Test.YtjpiimobafkolaaGreatDoorTlB
import Derived.Test.YtjpiimobafkolaaGreatDoorMx
namespace Go.Proofs.YtjpiimobafkolaaGreatDoor
open Go.RowKit Go.Al
set_option linter.unusedVariables false

theorem lineT3 (k : UInt8) (a b c : Int) : lineT [k] [a, b, c] = [k, 32] ++ Lib.itoa a ++ [32] ++ Lib.itoa b ++ [32] ++ Lib.itoa c ++ [10] := by
  simp [lineT, numsT]
set_option maxRecDepth 100000 in
set_option maxHeartbeats 8000000 in
theorem rtext_any {A1 A2 : Option Addr} {n1 c1 n2 c2 : Nat} (p s : List P3) (w : World) (h1 : Row3 w A1 n1 c1 p) (h2 : Row3 w A2 n2 c2 s) (hp : ∀ x ∈ p, In3 x) (hs : ∀ x ∈ s, In3 x) (hb1 : n1 ≤ 40) (hb2 : n2 ≤ 40) :
    Calls Tryz.prog 9 #[.slice A1 n1 c1, .slice A2 n2 c2] w fun e w' => e = .returned (.string ⟨(textT p s).toArray⟩) ∧ Same w w' := by
  have Hn1 := hide h1.2.1
  have Hn2 := hide h2.2.1
  have HR1 := hide h1
  have HR2 := hide h2
  have Hlp := hide (linesT_at ptT ptT_len hp (by rw [h1.2.1]; exact hb1))
  have Hls := hide (linesT_at spT spT_len hs (by rw [h2.2.1]; exact hb2))
  have Hp := hide hp
  have Hs := hide hs
  clear h1 h2 hp hs
  go_enter Tryz.func9, Tryz.ntmps9
  go_wp2_with fail
  go_loopg [5, 6] n1 (fun g vx vi wr => ∃ i : Nat, i ≤ n1 ∧ g = n1 - i ∧ vi = .int .i64 i ∧ vx = .string ⟨(linesT ptT (p.take i)).toArray⟩ ∧ Same w wr)
  case atStart => exact ⟨0, Nat.zero_le _, rfl, rfl, by simp [linesT], Chg.refl _ _⟩
  case round =>
    obtain ⟨i, hi, hg, rfl, rfl, hsm⟩ := hrel
    have Hg := hide hg
    have Hsm := hide hsm
    clear hg hsm
    by_cases hlt : i < n1
    · have hil : i < p.length := by rw [Hn1.out]; exact hlt
      have hat := fun w1 (h : Same wr w1) => ((HR1.out.same Hsm.out).same h).at_ hil
      obtain ⟨b, off, rfl, hbl, hc0, hc1, hc2⟩ := hat wr (Chg.refl _ _)
      have h3 := Hp.out _ (List.getElem_mem hil)
      have Htk := hide (linesT_take ptT hil)
      have hln := Hlp.out i
      obtain ⟨⟨y1, y2, y3⟩, hy⟩ : ∃ y, p[i] = y := ⟨_, rfl⟩
      rw [hy] at hc0 hc1 hc2 h3 Htk
      have Hc0 : Hid (∀ w1, Same wr w1 → w1.cell? ⟨b, off + i * 3, none⟩ = some (.int .i64 y1) ∧ w1.cell? ⟨b, off + i * 3 + 1, none⟩ = some (.int .i64 y2) ∧ w1.cell? ⟨b, off + i * 3 + 2, none⟩ = some (.int .i64 y3)) := hide fun w1 h => ⟨(h.cell hbl (fun h => h)).trans hc0, (h.cell hbl (fun h => h)).trans hc1, (h.cell hbl (fun h => h)).trans hc2⟩
      have HI1 := hide (int_is y1 h3.1.1 h3.1.2)
      have HI2 := hide (int_is y2 h3.2.1.1 h3.2.1.2)
      have HI3 := hide (int_is y3 h3.2.2.1 h3.2.2.2)
      have n1' := itoa_len y1 h3.1.1 h3.1.2
      have n2' := itoa_len y2 h3.2.1.1 h3.2.1.2
      have n3' := itoa_len y3 h3.2.2.1 h3.2.2.2
      have hwi : IntKind.i64.wrap ((i : Int) + 1) = (i : Int) + 1 := IntWalk.i64_in _ (by omega)
      rw [show ptT (y1, y2, y3) = lineT [112] [y1, y2, y3] from rfl, lineT3] at Htk
      unfold strV at HI1 HI2 HI3
      generalize Lib.itoa y1 = S1 at *
      generalize Lib.itoa y2 = S2 at *
      generalize Lib.itoa y3 = S3 at *
      have hU : (linesT ptT (p.take i)).length ≤ 6400 := by
        have := Hlp.out p.length
        rw [List.take_length] at this
        first | omega | (simp only [List.length_append]; omega)
      have HU : Hid (linesT ptT (p.take (i + 1)) = (linesT ptT (p.take i)) ++ ([112, 32] ++ S1 ++ [32] ++ S2 ++ [32] ++ S3 ++ [10])) := hide (by first | (rw [Htk.out]; done) | (rw [Htk.out, ← List.append_assoc]; done))
      obtain ⟨U, hUU⟩ : ∃ U, linesT ptT (p.take i) = U := ⟨_, rfl⟩
      rw [hUU] at hU HU ⊢
      have q1 : ¬ 9223372036854775807 < U.length + 2 := by omega
      have q2 : ¬ 9223372036854775807 < U.length + 2 + S1.length := by omega
      have q3 : ¬ 9223372036854775807 < U.length + 2 + S1.length + 1 := by omega
      have q4 : ¬ 9223372036854775807 < U.length + 2 + S1.length + 1 + S2.length := by omega
      have q5 : ¬ 9223372036854775807 < U.length + 2 + S1.length + 1 + S2.length + 1 := by omega
      have q6 : ¬ 9223372036854775807 < U.length + 2 + S1.length + 1 + S2.length + 1 + S3.length := by omega
      have q7 : ¬ 9223372036854775807 < U.length + 2 + S1.length + 1 + S2.length + 1 + S3.length + 1 := by omega
      clear hUU Htk hln h3 hy n1' n2' n3' hU hc0 hc1 hc2 hat
      go_wp2_with fail
      refine wp_region_mixS 27 (by kernel_rfl) (by kernel_rfl) fun Fin hFin => ?_
      simp only [List.take_succ_cons, List.take_zero]
      iterate 27 (
          (refine mix_lit ?_ ?_ (fun w => Chg.refl _ w) ?_ ?_ ?_ ?_
           rotate_left; rotate_left
           · intro e w1 hR hF K hK; (obtain ⟨k0, k1, k2⟩ := Hc0.out w1 hR); go_simp; (first | (refine hK _ _ (Chg.refl _ _) ?_; rfl) | (go_at_call 14; (with_reducible refine (HI1.out _).mono ?_); rintro _ w2 ⟨rfl, rfl⟩; refine hK _ _ (Chg.refl _ _) ?_; rfl) | (go_at_call 14; (with_reducible refine (HI2.out _).mono ?_); rintro _ w2 ⟨rfl, rfl⟩; refine hK _ _ (Chg.refl _ _) ?_; rfl) | (go_at_call 14; (with_reducible refine (HI3.out _).mono ?_); rintro _ w2 ⟨rfl, rfl⟩; refine hK _ _ (Chg.refl _ _) ?_; rfl))
           · intro e; simp only [Act.put, List.setIfInBounds_toArray, List.set_cons_zero, List.set_cons_succ]; rfl
           · exact Loc.const _ _))
      refine mix_nil fun e w1 hR hF => hFin _ _ ?_
      simp only [List.drop_succ_cons, List.drop_zero]
      have HS4 := hide (Same.trans Hsm.out hR)
      clear hF hFin hR
      go_wp2_with fail
      go_roundg (n1 - (i + 1))
      case measure => have := Hg.out; omega
      case rel => exact ⟨i + 1, by omega, by omega, by first | rfl | go_num, by rw [HU.out]; (first | (simp only [← bapp, ← List.append_assoc]; done) | (simp only [← bapp]; done)), HS4.out⟩
    · have hie : i = n1 := by omega
      subst hie
      have htk : p.take i = p := List.take_of_length_le (Nat.le_of_eq Hn1.out)
      rw [htk]
      clear htk
      go_wp2_with fail
      go_loopg [5, 7] n2 (fun g vx vi wr => ∃ k : Nat, k ≤ n2 ∧ g = n2 - k ∧ vi = .int .i64 k ∧ vx = .string ⟨(linesT ptT p ++ linesT spT (s.take k)).toArray⟩ ∧ Same w wr)
      case atStart => exact ⟨0, Nat.zero_le _, rfl, rfl, by simp [linesT], Hsm.out⟩
      case round =>
        obtain ⟨k, hi, hg, rfl, rfl, hsm⟩ := hrel
        have Hg := hide hg
        have Hsm := hide hsm
        clear hg hsm
        by_cases hlt : k < n2
        · have hil : k < s.length := by rw [Hn2.out]; exact hlt
          have hat := fun w1 (h : Same wr w1) => ((HR2.out.same Hsm.out).same h).at_ hil
          obtain ⟨b, off, rfl, hbl, hc0, hc1, hc2⟩ := hat wr (Chg.refl _ _)
          have h3 := Hs.out _ (List.getElem_mem hil)
          have Htk := hide (linesT_take spT hil)
          have hln := Hls.out k
          obtain ⟨⟨y1, y2, y3⟩, hy⟩ : ∃ y, s[k] = y := ⟨_, rfl⟩
          rw [hy] at hc0 hc1 hc2 h3 Htk
          have Hc0 : Hid (∀ w1, Same wr w1 → w1.cell? ⟨b, off + k * 3, none⟩ = some (.int .i64 y1) ∧ w1.cell? ⟨b, off + k * 3 + 1, none⟩ = some (.int .i64 y2) ∧ w1.cell? ⟨b, off + k * 3 + 2, none⟩ = some (.int .i64 y3)) := hide fun w1 h => ⟨(h.cell hbl (fun h => h)).trans hc0, (h.cell hbl (fun h => h)).trans hc1, (h.cell hbl (fun h => h)).trans hc2⟩
          have HI1 := hide (int_is y1 h3.1.1 h3.1.2)
          have HI2 := hide (int_is y2 h3.2.1.1 h3.2.1.2)
          have HI3 := hide (int_is y3 h3.2.2.1 h3.2.2.2)
          have n1' := itoa_len y1 h3.1.1 h3.1.2
          have n2' := itoa_len y2 h3.2.1.1 h3.2.1.2
          have n3' := itoa_len y3 h3.2.2.1 h3.2.2.2
          have hwi : IntKind.i64.wrap ((k : Int) + 1) = (k : Int) + 1 := IntWalk.i64_in _ (by omega)
          rw [show spT (y1, y2, y3) = lineT [105] [y1, y2, y3] from rfl, lineT3] at Htk
          unfold strV at HI1 HI2 HI3
          generalize Lib.itoa y1 = S1 at *
          generalize Lib.itoa y2 = S2 at *
          generalize Lib.itoa y3 = S3 at *
          have hU : (linesT ptT p ++ linesT spT (s.take k)).length ≤ 6400 := by
            have := Hlp.out p.length
            rw [List.take_length] at this
            first | omega | (simp only [List.length_append]; omega)
          have HU : Hid (linesT ptT p ++ linesT spT (s.take (k + 1)) = (linesT ptT p ++ linesT spT (s.take k)) ++ ([105, 32] ++ S1 ++ [32] ++ S2 ++ [32] ++ S3 ++ [10])) := hide (by first | (rw [Htk.out]; done) | (rw [Htk.out, ← List.append_assoc]; done))
          obtain ⟨U, hUU⟩ : ∃ U, linesT ptT p ++ linesT spT (s.take k) = U := ⟨_, rfl⟩
          rw [hUU] at hU HU ⊢
          have q1 : ¬ 9223372036854775807 < U.length + 2 := by omega
          have q2 : ¬ 9223372036854775807 < U.length + 2 + S1.length := by omega
          have q3 : ¬ 9223372036854775807 < U.length + 2 + S1.length + 1 := by omega
          have q4 : ¬ 9223372036854775807 < U.length + 2 + S1.length + 1 + S2.length := by omega
          have q5 : ¬ 9223372036854775807 < U.length + 2 + S1.length + 1 + S2.length + 1 := by omega
          have q6 : ¬ 9223372036854775807 < U.length + 2 + S1.length + 1 + S2.length + 1 + S3.length := by omega
          have q7 : ¬ 9223372036854775807 < U.length + 2 + S1.length + 1 + S2.length + 1 + S3.length + 1 := by omega
          clear hUU Htk hln h3 hy n1' n2' n3' hU hc0 hc1 hc2 hat
          go_wp2_with fail
          refine wp_region_mixS 27 (by kernel_rfl) (by kernel_rfl) fun Fin hFin => ?_
          simp only [List.take_succ_cons, List.take_zero]
          iterate 27 (
              (refine mix_lit ?_ ?_ (fun w => Chg.refl _ w) ?_ ?_ ?_ ?_
               rotate_left; rotate_left
               · intro e w1 hR hF K hK; (obtain ⟨k0, k1, k2⟩ := Hc0.out w1 hR); go_simp; (first | (refine hK _ _ (Chg.refl _ _) ?_; rfl) | (go_at_call 14; (with_reducible refine (HI1.out _).mono ?_); rintro _ w2 ⟨rfl, rfl⟩; refine hK _ _ (Chg.refl _ _) ?_; rfl) | (go_at_call 14; (with_reducible refine (HI2.out _).mono ?_); rintro _ w2 ⟨rfl, rfl⟩; refine hK _ _ (Chg.refl _ _) ?_; rfl) | (go_at_call 14; (with_reducible refine (HI3.out _).mono ?_); rintro _ w2 ⟨rfl, rfl⟩; refine hK _ _ (Chg.refl _ _) ?_; rfl))
               · intro e; simp only [Act.put, List.setIfInBounds_toArray, List.set_cons_zero, List.set_cons_succ]; rfl
               · exact Loc.const _ _))
          refine mix_nil fun e w1 hR hF => hFin _ _ ?_
          simp only [List.drop_succ_cons, List.drop_zero]
          have HS4 := hide (Same.trans Hsm.out hR)
          clear hF hFin hR
          go_wp2_with fail
          go_roundg (n2 - (k + 1))
          case measure => have := Hg.out; omega
          case rel => exact ⟨k + 1, by omega, by omega, by first | rfl | go_num, by rw [HU.out]; (first | (simp only [← bapp, ← List.append_assoc]; done) | (simp only [← bapp]; done)), HS4.out⟩
        · have hie : k = n2 := by omega
          subst hie
          have htk : s.take k = s := List.take_of_length_le (Nat.le_of_eq Hn2.out)
          rw [htk]
          clear htk
          go_wp2_with fail
          go_ret
          exact ⟨rfl, Hsm.out⟩
end Go.Proofs.YtjpiimobafkolaaGreatDoor
