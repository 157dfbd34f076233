/-
  ScriptPrints' walk. Conditions: acts as they lie; numbers that an int holds; what Go's library has laid.
-/
import Derived.Test.YtlodanjpkjfjiaaGreatDoorTxA
import Derived.Test.YtlodanjpkjfjiaaGreatDoorShR
import Derived.Test.YtlodanjpkjfjiaaGreatDoorOnG
import Derived.Test.YtlodanjpkjfjiaaGreatDoorScN
import Derived.Test.YtlodanjpkjfjiaaGreatDoorLvA
import Derived.Test.YtlodanjpkjfjiaaGreatDoorSpl
import Derived.Test.YtlodanjpkjfjiaaGreatDoorReB
namespace Go.Proofs.YtlodanjpkjfjiaaGreatDoor
open Go.RowKit Go.Al
set_option linter.unusedVariables false

theorem ActAt.farA {w w' : World} {a : Ac} {x : Addr} {c : Nat} {A : Option Addr} (h : ActAt w a (some x) c) (hc : Chg (fun k => blkOf A = some k) w w') (hn : blkOf A ≠ some x.block) : ActAt w' a (some x) c :=
  ⟨h.1.chg hc fun b hb _ e => hn (by have h1 : x.block = b := Option.some.inj hb; rw [h1]; exact e), h.2⟩
set_option maxRecDepth 100000 in
set_option maxHeartbeats 32000000 in
theorem scriptPrints_any {A0 : Option Addr} {c0 : Nat} (L : List La) (w : World) (ha : Amb w) (hacts : Acts w A0 L) (hw : ∀ d ∈ L, WfA d.a) (hle : L.length ≤ maxLen) :
    Calls Tryz.prog 5 #[.slice A0 L.length c0] w fun e w' => e = .returned (.bool true) ∧ Same w w'  := by
  have Hacts := hide hacts
  obtain ⟨M0, hM0⟩ : ∃ M, L.map (fun d => fewA d.a) = M := ⟨_, rfl⟩
  obtain ⟨n, hn⟩ : ∃ n, L.length = n := ⟨_, rfl⟩
  have Hmlen := hide (show M0.length = n by rw [← hM0, List.length_map, hn])
  have HmW := hide (show ∀ a ∈ M0, WfA a from fun a ha => (by rw [← hM0] at ha; obtain ⟨d, hd, rfl⟩ := List.mem_map.1 ha; exact fewA_good (hw d hd)))
  have HmL := hide (show ∀ a ∈ M0, a.b.length ≤ 1010 from fun a ha => (by rw [← hM0] at ha; obtain ⟨d, hd, rfl⟩ := List.mem_map.1 ha; exact fewA_len _))
  have Hmg := hide (fun (i : Nat) (hi : i < L.length) => (show M0[i]? = some (fewA L[i].a) from by rw [← hM0, List.getElem?_map, List.getElem?_eq_getElem hi]; rfl))
  have Ha := hide ha
  clear ha hacts hw hM0
  rw [hn] at hle ⊢
  have hnm : (n : Int) ≤ 9223372036854775807 := by unfold maxLen at hle; omega
  have Hn := hide hn
  have Hle := hide hle
  clear hn hle
  obtain ⟨N, hN⟩ : ∃ N, min n 15 = N := ⟨_, rfl⟩
  have hNn : N ≤ n := by omega
  have hN15 : N ≤ 15 := by omega
  have HN := hide (show N = n ∨ N = 15 from by omega)
  clear hN
  have HO0 := hide (acts_lit w)
  have HL := hide (fun w' (hs : Same w w') => lives_any w' (Ha.out.same hs))
  go_enter Tryz.func5, Tryz.ntmps5
  go_wp2_with fail
  go_loopg [3, 4, 5, 6, 7] (N + 1) (fun g v3 v4 v5 v6 v7 wr => ∃ (j : Nat) (A : Option Addr) (c : Nat) (Lo : List La), j ≤ N ∧ g = N + 1 - j ∧ v6 = .int .i64 j ∧ v3 = .slice A j c ∧ OwnA w wr A j c Lo ∧ Lo.map (·.a) = M0.take j ∧ v4 = .string ⟨(textA (M0.take (badAt (M0.take j)))).toArray⟩ ∧ v5 = .int .i64 (if badAt (M0.take j) = j then 0 else (badAt (M0.take j) : Int) + 1))
  case atStart => exact ⟨0, _, 0, [], Nat.zero_le _, rfl, rfl, rfl, HO0.out, rfl, by simp [badAt, textA], by simp [badAt]⟩
  case round =>
    obtain ⟨j, A, c, Lo, hj, hg, rfl, rfl, hown, hlo, rfl, rfl⟩ := hrel
    have Hg := hide hg
    have Hown := hide hown
    have Hlo := hide hlo
    clear hg hown hlo
    have Hmt := hide (show (M0.take j).length = j by rw [List.length_take, Hmlen.out]; omega)
    have Hble := hide (show badAt (M0.take j) ≤ j from Nat.le_trans (badAt_le _) (by rw [Hmt.out]; exact Nat.le_refl _))
    by_cases hlt : j < N
    · have hjn : j < L.length := by rw [Hn.out]; omega
      have hj1 : ((j : Nat) : Int) < ((n : Nat) : Int) := by omega
      have hj2 : ((j : Nat) : Int) < 15 := by omega
      have hjc : j < n := by omega
      have hj3 : j < 15 := by omega
      obtain ⟨bL, oL, hAL, hbL, hraL, hlat⟩ := Hacts.out.at_ hjn
      have HraL := hide (rangeAt_same hraL Hown.out.sm)
      have Hld := hide (laL_len L[j])
      have HFw := hide (few_any L[j].a wr (A := L[j].A) (c := L[j].c) ⟨hlat.1.same Hown.out.sm, hlat.2⟩)
      have Hmj := hide (Hmg.out j hjn)
      have hjm : j < M0.length := by rw [Hmlen.out]; omega
      have Hsn := hide (show M0.take (j + 1) = M0.take j ++ [M0[j]] from List.take_succ_eq_append_getElem hjm)
      have Hmj' := hide (show M0[j] = fewA L[j].a from Option.some.inj ((List.getElem?_eq_getElem hjm).symm.trans Hmj.out))
      rw [Hmj'.out] at Hsn
      have Hwd := hide (HmW.out _ (List.mem_of_getElem? Hmj.out))
      have Hld2 := hide (HmL.out _ (List.mem_of_getElem? Hmj.out))
      clear hraL hlat hbL
      unfold FewEnd at HFw
      rw [show acV L[j].a L[j].A L[j].c = .agg (laL L[j]).toArray from rfl] at HFw
      unfold acV at HFw
      generalize fewA L[j].a = d at *
      generalize laL L[j] = R at *
      subst hAL
      have hwk : IntKind.i64.wrap ((j : Nat) : Int) = ((j : Nat) : Int) := IntWalk.i64_in _ (by omega)
      have HG := hide (fun (D : List Value) (x : Addr) (c1 : Nat) (hD : ActC D d (some x) c1) (w' : World) => (by have h := rgoodA_any d (some x) c1 w' (Nat.le_trans Hld2.out (by decide)); rw [show acV d (some x) c1 = .agg D.toArray from by unfold acV; rw [← hD.eq]] at h; exact h : Calls Tryz.prog 11 #[.agg D.toArray] w' fun e w'' => e = .returned (.bool (goodA d)) ∧ Same w' w''))
      have Hbs := hide (badAt_snoc (M0.take j) d)
      rw [← Hsn.out, Hmt.out] at Hbs
      rcases hgd : goodA d with _ | _
      · rw [hgd] at HG Hbs
        by_cases hbd : badAt (M0.take j) = j
        · have HB := hide (show badAt (M0.take (j + 1)) = j from by rw [Hbs.out, if_neg (by omega)]; rfl)
          rewrite [if_pos hbd, hbd]
          have Hbd := hide hbd
          clear hbd hgd
          have hj9 : ((j : Nat) : Int) + 1 ≤ 9223372036854775807 := by omega
          have hj0 : ¬ ((j : Nat) : Int) + 1 = 0 := by omega
          have hj00 : ((((j : Nat) : Int) + 1) == 0) = false := by simp; omega
          go_wp2_with (first
            | ((with_reducible refine ldR 38 bL (oL + j * 22) 22 R rowAct Hld.out HraL.out ?_ ?_ ?_); rfl; rfl)
            | (go_at_call 8; ((with_reducible refine HFw.out.mono ?_); rintro e w1 ⟨⟨x, c1, rfl, hat, hxb⟩, hs1⟩; have Hat1 := hide hat; have Hxb := hide hxb; have Hs1 := hide hs1; obtain ⟨D, hD⟩ : ∃ D, acL d (some x) c1 = D := ⟨_, rfl⟩; have HDc : ActC D d (some x) c1 := ⟨hD.symm⟩; rw [hD]; clear hat hxb hs1 hD))
            | ((with_reducible refine stNg 38 22 D 38 _ rowAct HDc.len ?_ HDc.one ?_ ?_ ?_); rfl; rfl; rfl; intro w2 hs2 hz2 hb2; have Hb2 := hide hb2; have Hr2 := hide (blk_range hb2); have Hs12 := hide hs2; have Hs2 := hide (Same.trans Hs1.out hs2); have Hz2 := hide hz2; clear hs2 hz2 hb2)
            | ((with_reducible refine ldR 38 w1.heap.size 0 22 D rowAct HDc.len Hr2.out ?_ ?_ ?_); rfl; rfl)
            | (refine wpList_bs1 (by rfl) 48 38 _ rfl D rfl _ 22 192 Tryz.underlying48 infoA3 HDc.len (by decide) (by decide) ?_)
            | (at_builtin; refine wpList_appS (by rfl) (.tmp 31) (.tmp 33) _ (by rfl) slAc (by rfl) (base := w.heap.size) (by exact own_chg Hown.out.own (Chg.alloc Hs2.out _) (fun _ _ h => h)) (by rfl) (show D.length = 1 * 22 from HDc.len) (by exact rd_lit _ _ _ _ _ rfl) HDc.one (by omega) (by omega) (by have := Hown.out.sm.size; have := Hs2.out.size; simp; omega) ?_; intro A6 c6 w6 hown6 hc6 hb6; have hne6 : ¬ blkOf A = some w1.heap.size := fun e => (by have := (Hown.out.own.lt _ (by rw [ownBlock_slice]; exact e)).2; have := Hs1.out.size; omega); have Hb6 := hide ((Hb2.out.alloc _).chg hc6 hne6); have Hr6 := hide (fun w' (hs : Same w6 w') => blk_range (Hb6.out.same hs)); have Hat6 := hide ((((Hat1.out.same Hs12.out).same ((Chg.refl _ _).alloc _)).farA hc6 (fun e => (by have := (Hown.out.own.lt _ (by rw [ownBlock_slice]; exact e)).2; have := Hxb.out; omega)))); have Hown6 := hide hown6; have Hc6 := hide hc6; have Hb6' := hide hb6; clear hown6 hc6 hb6 hne6)
            | ((with_reducible refine ldR 38 w1.heap.size 0 22 D rowAct HDc.len (Hr6.out _ (Chg.refl _ _)) ?_ ?_ ?_); rfl; rfl)
            | (go_at_call 11; ((with_reducible refine (HG.out D x c1 HDc _).mono ?_); rintro e w7 ⟨rfl, hs7⟩; have Hs7 := hide hs7; have Hr7 := hide (Hr6.out _ hs7); clear hs7))
            | fail)
          have h1 := Hown.out.own
          have hA : ∀ b, blkOf A = some b → b < wr.heap.size := fun b hb => (h1.lt b (by rw [ownBlock_slice]; exact hb)).2
          have hrow := (Hown.out.same (Chg.alloc Hs2.out (.cells D.toArray 38))).snoc (d := ⟨d, some x, c1⟩) ((Hat1.out.same Hs12.out).same ((Chg.refl _ _).alloc _)) (fun h0 b hb => ⟨?_, ?_, fun e => absurd (hA b e) ?_⟩) (by have h2 := Hown6.out; rw [show laL ⟨d, some x, c1⟩ = D from HDc.eq.symm]; exact h2) Hc6.out Hb6'.out
          rotate_left
          · have hxe : x.block = b := Option.some.inj hb
            have := Hxb.out
            have := Hown.out.sm.size
            omega
          · obtain ⟨b2, hb2, hlt⟩ := Hat1.out.1.lt (fun e => h0 (List.map_eq_nil_iff.1 e))
            rw [hb] at hb2
            have e2 : b2 = b := (Option.some.inj hb2).symm
            have := Hs12.out.size
            simp
            omega
          · have hxe : x.block = b := Option.some.inj hb
            have := Hxb.out
            omega
          have Hrow := hide (hrow.same Hs7.out)
          clear h1 hA hrow
          go_roundg (N + 1 - (j + 1))
          case measure => have := Hg.out; omega
          case rel =>
            exact ⟨j + 1, A6, c6, Lo ++ [⟨d, some x, c1⟩], by omega, rfl, by go_num, rfl, Hrow.out, by rw [List.map_append, Hlo.out, Hsn.out]; rfl, by rw [HB.out], by rw [HB.out, if_neg (by omega)]⟩
        · have HB := hide (show badAt (M0.take (j + 1)) = badAt (M0.take j) from by rw [Hbs.out, if_pos (by have := Hble.out; omega)])
          rw [if_neg hbd]
          have hq : badAt (M0.take j) < j := by have := Hble.out; omega
          have Hbd := hide hbd
          clear hbd hgd
          obtain ⟨q, hqq⟩ : ∃ q, badAt (M0.take j) = q := ⟨_, rfl⟩
          rw [hqq] at hq HB ⊢
          have Hqq := hide hqq
          clear hqq
          have hq0 : ¬ ((q : Nat) : Int) + 1 = 0 := by omega
          have hq1 : ((((q : Nat) : Int) + 1) == 0) = false := by simp; omega
          go_wp2_with (first
            | ((with_reducible refine ldR 38 bL (oL + j * 22) 22 R rowAct Hld.out HraL.out ?_ ?_ ?_); rfl; rfl)
            | (go_at_call 8; ((with_reducible refine HFw.out.mono ?_); rintro e w1 ⟨⟨x, c1, rfl, hat, hxb⟩, hs1⟩; have Hat1 := hide hat; have Hxb := hide hxb; have Hs1 := hide hs1; obtain ⟨D, hD⟩ : ∃ D, acL d (some x) c1 = D := ⟨_, rfl⟩; have HDc : ActC D d (some x) c1 := ⟨hD.symm⟩; rw [hD]; clear hat hxb hs1 hD))
            | ((with_reducible refine stNg 38 22 D 38 _ rowAct HDc.len ?_ HDc.one ?_ ?_ ?_); rfl; rfl; rfl; intro w2 hs2 hz2 hb2; have Hb2 := hide hb2; have Hr2 := hide (blk_range hb2); have Hs12 := hide hs2; have Hs2 := hide (Same.trans Hs1.out hs2); have Hz2 := hide hz2; clear hs2 hz2 hb2)
            | ((with_reducible refine ldR 38 w1.heap.size 0 22 D rowAct HDc.len Hr2.out ?_ ?_ ?_); rfl; rfl)
            | (refine wpList_bs1 (by rfl) 48 38 _ rfl D rfl _ 22 192 Tryz.underlying48 infoA3 HDc.len (by decide) (by decide) ?_)
            | (at_builtin; refine wpList_appS (by rfl) (.tmp 31) (.tmp 33) _ (by rfl) slAc (by rfl) (base := w.heap.size) (by exact own_chg Hown.out.own (Chg.alloc Hs2.out _) (fun _ _ h => h)) (by rfl) (show D.length = 1 * 22 from HDc.len) (by exact rd_lit _ _ _ _ _ rfl) HDc.one (by omega) (by omega) (by have := Hown.out.sm.size; have := Hs2.out.size; simp; omega) ?_; intro A6 c6 w6 hown6 hc6 hb6; have hne6 : ¬ blkOf A = some w1.heap.size := fun e => (by have := (Hown.out.own.lt _ (by rw [ownBlock_slice]; exact e)).2; have := Hs1.out.size; omega); have Hb6 := hide ((Hb2.out.alloc _).chg hc6 hne6); have Hr6 := hide (fun w' (hs : Same w6 w') => blk_range (Hb6.out.same hs)); have Hat6 := hide ((((Hat1.out.same Hs12.out).same ((Chg.refl _ _).alloc _)).farA hc6 (fun e => (by have := (Hown.out.own.lt _ (by rw [ownBlock_slice]; exact e)).2; have := Hxb.out; omega)))); have Hown6 := hide hown6; have Hc6 := hide hc6; have Hb6' := hide hb6; clear hown6 hc6 hb6 hne6)
            | ((with_reducible refine ldR 38 w1.heap.size 0 22 D rowAct HDc.len (Hr6.out _ (Chg.refl _ _)) ?_ ?_ ?_); rfl; rfl)
            | (go_at_call 11; ((with_reducible refine (HG.out D x c1 HDc _).mono ?_); rintro e w7 ⟨rfl, hs7⟩; have Hs7 := hide hs7; have Hr7 := hide (Hr6.out _ hs7); clear hs7))
            | fail)
          have h1 := Hown.out.own
          have hA : ∀ b, blkOf A = some b → b < wr.heap.size := fun b hb => (h1.lt b (by rw [ownBlock_slice]; exact hb)).2
          have hrow := (Hown.out.same (Chg.alloc Hs2.out (.cells D.toArray 38))).snoc (d := ⟨d, some x, c1⟩) ((Hat1.out.same Hs12.out).same ((Chg.refl _ _).alloc _)) (fun h0 b hb => ⟨?_, ?_, fun e => absurd (hA b e) ?_⟩) (by have h2 := Hown6.out; rw [show laL ⟨d, some x, c1⟩ = D from HDc.eq.symm]; exact h2) Hc6.out Hb6'.out
          rotate_left
          · have hxe : x.block = b := Option.some.inj hb
            have := Hxb.out
            have := Hown.out.sm.size
            omega
          · obtain ⟨b2, hb2, hlt⟩ := Hat1.out.1.lt (fun e => h0 (List.map_eq_nil_iff.1 e))
            rw [hb] at hb2
            have e2 : b2 = b := (Option.some.inj hb2).symm
            have := Hs12.out.size
            simp
            omega
          · have hxe : x.block = b := Option.some.inj hb
            have := Hxb.out
            omega
          have Hrow := hide (hrow.same Hs7.out)
          clear h1 hA hrow
          go_roundg (N + 1 - (j + 1))
          case measure => have := Hg.out; omega
          case rel =>
            exact ⟨j + 1, A6, c6, Lo ++ [⟨d, some x, c1⟩], by omega, rfl, by go_num, rfl, Hrow.out, by rw [List.map_append, Hlo.out, Hsn.out]; rfl, by rw [HB.out], by rw [HB.out, if_neg (by omega)]⟩
      · rw [hgd] at HG Hbs
        by_cases hbd : badAt (M0.take j) = j
        · have HB := hide (show badAt (M0.take (j + 1)) = j + 1 from by rw [Hbs.out, if_neg (by omega)]; rfl)
          have HSh := hide (fun (D : List Value) (x : Addr) (c1 : Nat) (hD : ActC D d (some x) c1) (w0 w' : World) (h : Rd w0 (some x) (bs d.b)) (hs : Same w0 w') => (by have h := rshow_any d (c := c1) w' (h.same hs) hgd Hwd.out; rw [show acV d (some x) c1 = .agg D.toArray from by unfold acV; rw [← hD.eq]] at h; exact h : Calls Tryz.prog 12 #[.agg D.toArray] w' fun e w'' => e = .returned (strV (showB d)) ∧ Same w' w''))
          have hsl := showB_len hgd Hwd.out
          have htl := textA_len (l := M0.take j) fun a ha => ⟨badAt_good (by rw [hbd, Hmt.out]) a ha, HmW.out a (List.mem_of_mem_take ha)⟩
          rw [Hmt.out] at htl
          rw [if_pos hbd, hbd, show M0.take j = M0.take j from rfl]
          have Hbd := hide hbd
          have q0 : ¬ 9223372036854775807 < (textA (M0.take j)).length + (showB d).length := by omega
          have q1 : ¬ 9223372036854775807 < (textA (M0.take j)).length + (showB d).length + 1 := by omega
          clear hbd hsl htl
          unfold strV at HSh
          have Htx := hide (show textA (M0.take (j + 1)) = textA (M0.take j) ++ (showB d ++ [10]) from by rw [Hsn.out, textA_snoc])
          clear hgd
          obtain ⟨TT, hTT⟩ : ∃ TT, textA (M0.take j) = TT := ⟨_, rfl⟩
          obtain ⟨SD, hSD⟩ : ∃ SD, showB d = SD := ⟨_, rfl⟩
          rw [hTT] at q0 q1 Htx ⊢
          rw [hSD] at q0 q1 Htx HSh
          clear hTT hSD
          go_wp2_with (first
            | ((with_reducible refine ldR 38 bL (oL + j * 22) 22 R rowAct Hld.out HraL.out ?_ ?_ ?_); rfl; rfl)
            | (go_at_call 8; ((with_reducible refine HFw.out.mono ?_); rintro e w1 ⟨⟨x, c1, rfl, hat, hxb⟩, hs1⟩; have Hat1 := hide hat; have Hxb := hide hxb; have Hs1 := hide hs1; obtain ⟨D, hD⟩ : ∃ D, acL d (some x) c1 = D := ⟨_, rfl⟩; have HDc : ActC D d (some x) c1 := ⟨hD.symm⟩; rw [hD]; clear hat hxb hs1 hD))
            | ((with_reducible refine stNg 38 22 D 38 _ rowAct HDc.len ?_ HDc.one ?_ ?_ ?_); rfl; rfl; rfl; intro w2 hs2 hz2 hb2; have Hb2 := hide hb2; have Hr2 := hide (blk_range hb2); have Hs12 := hide hs2; have Hs2 := hide (Same.trans Hs1.out hs2); have Hz2 := hide hz2; clear hs2 hz2 hb2)
            | ((with_reducible refine ldR 38 w1.heap.size 0 22 D rowAct HDc.len Hr2.out ?_ ?_ ?_); rfl; rfl)
            | (refine wpList_bs1 (by rfl) 48 38 _ rfl D rfl _ 22 192 Tryz.underlying48 infoA3 HDc.len (by decide) (by decide) ?_)
            | (at_builtin; refine wpList_appS (by rfl) (.tmp 31) (.tmp 33) _ (by rfl) slAc (by rfl) (base := w.heap.size) (by exact own_chg Hown.out.own (Chg.alloc Hs2.out _) (fun _ _ h => h)) (by rfl) (show D.length = 1 * 22 from HDc.len) (by exact rd_lit _ _ _ _ _ rfl) HDc.one (by omega) (by omega) (by have := Hown.out.sm.size; have := Hs2.out.size; simp; omega) ?_; intro A6 c6 w6 hown6 hc6 hb6; have hne6 : ¬ blkOf A = some w1.heap.size := fun e => (by have := (Hown.out.own.lt _ (by rw [ownBlock_slice]; exact e)).2; have := Hs1.out.size; omega); have Hb6 := hide ((Hb2.out.alloc _).chg hc6 hne6); have Hr6 := hide (fun w' (hs : Same w6 w') => blk_range (Hb6.out.same hs)); have Hat6 := hide ((((Hat1.out.same Hs12.out).same ((Chg.refl _ _).alloc _)).farA hc6 (fun e => (by have := (Hown.out.own.lt _ (by rw [ownBlock_slice]; exact e)).2; have := Hxb.out; omega)))); have Hown6 := hide hown6; have Hc6 := hide hc6; have Hb6' := hide hb6; clear hown6 hc6 hb6 hne6)
            | ((with_reducible refine ldR 38 w1.heap.size 0 22 D rowAct HDc.len (Hr6.out _ (Chg.refl _ _)) ?_ ?_ ?_); rfl; rfl)
            | (go_at_call 11; ((with_reducible refine (HG.out D x c1 HDc _).mono ?_); rintro e w7 ⟨rfl, hs7⟩; have Hs7 := hide hs7; have Hr7 := hide (Hr6.out _ hs7); clear hs7))
            | ((with_reducible refine ldR 38 w1.heap.size 0 22 D rowAct HDc.len Hr7.out ?_ ?_ ?_); rfl; rfl)
            | (go_at_call 12; (have h9 := HSh.out D x c1 HDc w6 w7 Hat6.out.1 Hs7.out; (with_reducible refine h9.mono ?_); clear h9; rintro e w8 ⟨rfl, hs8⟩; have Hs8 := hide (Same.trans Hs7.out hs8); clear hs8))
            | fail)
          have h1 := Hown.out.own
          have hA : ∀ b, blkOf A = some b → b < wr.heap.size := fun b hb => (h1.lt b (by rw [ownBlock_slice]; exact hb)).2
          have hrow := (Hown.out.same (Chg.alloc Hs2.out (.cells D.toArray 38))).snoc (d := ⟨d, some x, c1⟩) ((Hat1.out.same Hs12.out).same ((Chg.refl _ _).alloc _)) (fun h0 b hb => ⟨?_, ?_, fun e => absurd (hA b e) ?_⟩) (by have h2 := Hown6.out; rw [show laL ⟨d, some x, c1⟩ = D from HDc.eq.symm]; exact h2) Hc6.out Hb6'.out
          rotate_left
          · have hxe : x.block = b := Option.some.inj hb
            have := Hxb.out
            have := Hown.out.sm.size
            omega
          · obtain ⟨b2, hb2, hlt⟩ := Hat1.out.1.lt (fun e => h0 (List.map_eq_nil_iff.1 e))
            rw [hb] at hb2
            have e2 : b2 = b := (Option.some.inj hb2).symm
            have := Hs12.out.size
            simp
            omega
          · have hxe : x.block = b := Option.some.inj hb
            have := Hxb.out
            omega
          have Hrow := hide (hrow.same Hs8.out)
          clear h1 hA hrow
          go_roundg (N + 1 - (j + 1))
          case measure => have := Hg.out; omega
          case rel =>
            exact ⟨j + 1, A6, c6, Lo ++ [⟨d, some x, c1⟩], by omega, rfl, by go_num, rfl, Hrow.out, by rw [List.map_append, Hlo.out, Hsn.out]; rfl, by rw [HB.out, Htx.out]; simp only [bapp, List.append_assoc], by rw [HB.out, if_pos rfl]⟩
        · have HB := hide (show badAt (M0.take (j + 1)) = badAt (M0.take j) from by rw [Hbs.out, if_pos (by have := Hble.out; omega)])
          rw [if_neg hbd]
          have hq : badAt (M0.take j) < j := by have := Hble.out; omega
          have Hbd := hide hbd
          clear hbd hgd
          obtain ⟨q, hqq⟩ : ∃ q, badAt (M0.take j) = q := ⟨_, rfl⟩
          rw [hqq] at hq HB ⊢
          have Hqq := hide hqq
          clear hqq
          have hq0 : ¬ ((q : Nat) : Int) + 1 = 0 := by omega
          have hq1 : ((((q : Nat) : Int) + 1) == 0) = false := by simp; omega
          go_wp2_with (first
            | ((with_reducible refine ldR 38 bL (oL + j * 22) 22 R rowAct Hld.out HraL.out ?_ ?_ ?_); rfl; rfl)
            | (go_at_call 8; ((with_reducible refine HFw.out.mono ?_); rintro e w1 ⟨⟨x, c1, rfl, hat, hxb⟩, hs1⟩; have Hat1 := hide hat; have Hxb := hide hxb; have Hs1 := hide hs1; obtain ⟨D, hD⟩ : ∃ D, acL d (some x) c1 = D := ⟨_, rfl⟩; have HDc : ActC D d (some x) c1 := ⟨hD.symm⟩; rw [hD]; clear hat hxb hs1 hD))
            | ((with_reducible refine stNg 38 22 D 38 _ rowAct HDc.len ?_ HDc.one ?_ ?_ ?_); rfl; rfl; rfl; intro w2 hs2 hz2 hb2; have Hb2 := hide hb2; have Hr2 := hide (blk_range hb2); have Hs12 := hide hs2; have Hs2 := hide (Same.trans Hs1.out hs2); have Hz2 := hide hz2; clear hs2 hz2 hb2)
            | ((with_reducible refine ldR 38 w1.heap.size 0 22 D rowAct HDc.len Hr2.out ?_ ?_ ?_); rfl; rfl)
            | (refine wpList_bs1 (by rfl) 48 38 _ rfl D rfl _ 22 192 Tryz.underlying48 infoA3 HDc.len (by decide) (by decide) ?_)
            | (at_builtin; refine wpList_appS (by rfl) (.tmp 31) (.tmp 33) _ (by rfl) slAc (by rfl) (base := w.heap.size) (by exact own_chg Hown.out.own (Chg.alloc Hs2.out _) (fun _ _ h => h)) (by rfl) (show D.length = 1 * 22 from HDc.len) (by exact rd_lit _ _ _ _ _ rfl) HDc.one (by omega) (by omega) (by have := Hown.out.sm.size; have := Hs2.out.size; simp; omega) ?_; intro A6 c6 w6 hown6 hc6 hb6; have hne6 : ¬ blkOf A = some w1.heap.size := fun e => (by have := (Hown.out.own.lt _ (by rw [ownBlock_slice]; exact e)).2; have := Hs1.out.size; omega); have Hb6 := hide ((Hb2.out.alloc _).chg hc6 hne6); have Hr6 := hide (fun w' (hs : Same w6 w') => blk_range (Hb6.out.same hs)); have Hat6 := hide ((((Hat1.out.same Hs12.out).same ((Chg.refl _ _).alloc _)).farA hc6 (fun e => (by have := (Hown.out.own.lt _ (by rw [ownBlock_slice]; exact e)).2; have := Hxb.out; omega)))); have Hown6 := hide hown6; have Hc6 := hide hc6; have Hb6' := hide hb6; clear hown6 hc6 hb6 hne6)
            | ((with_reducible refine ldR 38 w1.heap.size 0 22 D rowAct HDc.len (Hr6.out _ (Chg.refl _ _)) ?_ ?_ ?_); rfl; rfl)
            | (go_at_call 11; ((with_reducible refine (HG.out D x c1 HDc _).mono ?_); rintro e w7 ⟨rfl, hs7⟩; have Hs7 := hide hs7; have Hr7 := hide (Hr6.out _ hs7); clear hs7))
            | fail)
          have h1 := Hown.out.own
          have hA : ∀ b, blkOf A = some b → b < wr.heap.size := fun b hb => (h1.lt b (by rw [ownBlock_slice]; exact hb)).2
          have hrow := (Hown.out.same (Chg.alloc Hs2.out (.cells D.toArray 38))).snoc (d := ⟨d, some x, c1⟩) ((Hat1.out.same Hs12.out).same ((Chg.refl _ _).alloc _)) (fun h0 b hb => ⟨?_, ?_, fun e => absurd (hA b e) ?_⟩) (by have h2 := Hown6.out; rw [show laL ⟨d, some x, c1⟩ = D from HDc.eq.symm]; exact h2) Hc6.out Hb6'.out
          rotate_left
          · have hxe : x.block = b := Option.some.inj hb
            have := Hxb.out
            have := Hown.out.sm.size
            omega
          · obtain ⟨b2, hb2, hlt⟩ := Hat1.out.1.lt (fun e => h0 (List.map_eq_nil_iff.1 e))
            rw [hb] at hb2
            have e2 : b2 = b := (Option.some.inj hb2).symm
            have := Hs12.out.size
            simp
            omega
          · have hxe : x.block = b := Option.some.inj hb
            have := Hxb.out
            omega
          have Hrow := hide (hrow.same Hs7.out)
          clear h1 hA hrow
          go_roundg (N + 1 - (j + 1))
          case measure => have := Hg.out; omega
          case rel =>
            exact ⟨j + 1, A6, c6, Lo ++ [⟨d, some x, c1⟩], by omega, rfl, by go_num, rfl, Hrow.out, by rw [List.map_append, Hlo.out, Hsn.out]; rfl, by rw [HB.out], by rw [HB.out, if_neg (by omega)]⟩
    · have hjN : j = N := by omega
      subst hjN
      have hT1 : ¬ (((j : Nat) : Int) < ((n : Nat) : Int) ∧ ((j : Nat) : Int) < 15) := by have := HN.out; omega
      have HPr := hide (fun w' (hs : Same wr w') => Print_any (c := c) Lo w' (Ha.out.same (Same.trans Hown.out.sm hs)) (Hown.out.acts.same hs) (fun d hd => HmW.out _ (List.mem_of_mem_take (i := j) (by rw [← Hlo.out]; exact List.mem_map_of_mem hd))) (by rw [Hown.out.len]; omega))
      rw [Hlo.out, Hown.out.len] at HPr
      unfold PrintEnd at HPr
      rw [Hmt.out] at HPr
      have HL2 := hide (fun w' (hs : Same wr w') => HL.out w' (Same.trans Hown.out.sm hs))
      have Hmgood := hide (fun (h : badAt (M0.take j) = j) => badAt_good (l := M0.take j) (by rw [h, Hmt.out]))
      have Hmw := hide (fun (a : Ac) (ha : a ∈ M0.take j) => HmW.out a (List.mem_of_mem_take ha))
      by_cases hbd : badAt (M0.take j) = j
      · rw [if_pos hbd] at HPr ⊢
        rw [hbd] at ⊢
        have hgm := Hmgood.out hbd
        have hgw : ∀ a ∈ M0.take j, goodA a = true ∧ WfA a := fun a ha => ⟨hgm a ha, Hmw.out a ha⟩
        have hlm := Hmt.out
        have HRd := hide (fun w' (hs : Same wr w') => read_any (textA (M0.take j)) w' (Ha.out.same (Same.trans Hown.out.sm hs)) (fit_text hgw (by have := textA_len hgw; omega)) (by rw [count10, hlm]; omega))
        have HRt := hide (read_text ones_W (M0.take j) 1 hgw)
        have Hgm := hide hgm
        unfold ReadEnd at HRd
        rw [HRt.out] at HRd
        have HRe : Hid (∀ w', Same wr w' → Calls Tryz.prog 16 #[strV (textA (M0.take j))] w' fun e w'' => (∃ (l : List La) (A : Option Addr) (c : Nat), l.map (·.a) = (M0.take j).map onlyA ∧ e = .returned (.tuple #[.slice A j c, .int .i64 0, .int .i64 0]) ∧ Acts w'' A l) ∧ Same w' w'') := hide fun w' hs => (HRd.out w' hs).mono fun e w'' ⟨h1, h2⟩ => ⟨(by
          rcases h1 with ⟨l, A, c, h3, h4, h5⟩ | ⟨m, h3, _⟩
          · have h6 := (Except.ok.inj h3).symm
            have h7 : l.length = j := by have := congrArg List.length h6; rw [List.length_map, List.length_map, hlm] at this; exact this
            rw [h7] at h4
            exact ⟨l, A, c, h6, h4, h5⟩
          · cases h3), h2⟩
        clear hbd hgm hgw hlm HRd
        unfold strV at HPr HRe
        obtain ⟨TX, hTX⟩ : ∃ TX, textA (M0.take j) = TX := ⟨_, rfl⟩
        rw [hTX] at HPr HRe ⊢
        clear hTX
        by_cases hjn : j < n
        · have h15 : j = 15 := by have := HN.out; omega
          have hj1 : ((j : Nat) : Int) < ((n : Nat) : Int) := by omega
          have hj2 : ¬ ((j : Nat) : Int) < 15 := by omega
          have hj3 : ¬ j < 15 := by omega
          clear hT1 h15
          go_wp2_with (first
            | (go_at_call 17; ((with_reducible refine (HPr.out _ (Chg.refl _ _)).mono ?_); rintro e w1 ⟨rfl, hs1⟩; have Hs1 := hide hs1; clear hs1))
            | (go_at_call 16; ((with_reducible refine (HRe.out _ Hs1.out).mono ?_); rintro e w2 ⟨⟨l, Ax, cx, hlx, rfl, hax⟩, hs2⟩; have Hlx := hide hlx; have Hax := hide hax; have Hs2 := hide (Same.trans Hs1.out hs2); clear hlx hax hs2))
            | fail)
          go_loopg [14] j (fun g v14 wr => ∃ i : Nat, i ≤ j ∧ g = j - i ∧ v14 = .int .i64 i ∧ Same w2 wr)
          case atStart => exact ⟨0, Nat.zero_le _, rfl, rfl, Chg.refl _ _⟩
          case round =>
            obtain ⟨i, hi, hg2, rfl, hs3⟩ := hrel
            have Hg2 := hide hg2
            have Hs3 := hide hs3
            clear hg2 hs3
            by_cases hij : i < j
            · have hil : i < l.length := by have := congrArg List.length Hlx.out; rw [List.length_map, List.length_map, Hmt.out] at this; omega
              have hio : i < Lo.length := by rw [Hown.out.len]; exact hij
              have him : i < (M0.take j).length := by rw [Hmt.out]; exact hij
              obtain ⟨b1, o1, hA1, _, hr1, hl1⟩ := Hax.out.at_ hil
              obtain ⟨b2, o2, hA2, _, hr2, hl2⟩ := Hown.out.acts.at_ hio
              have ha1 : l[i].a = onlyA (M0.take j)[i] := by
                have := congrArg (·[i]?) Hlx.out
                simp only [List.getElem?_map, List.getElem?_eq_getElem hil, List.getElem?_eq_getElem him, Option.map_some] at this
                exact Option.some.inj this
              have ha2 : Lo[i].a = (M0.take j)[i] := by
                have := congrArg (·[i]?) Hlo.out
                simp only [List.getElem?_map, List.getElem?_eq_getElem hio, List.getElem?_eq_getElem him, Option.map_some] at this
                exact Option.some.inj this
              have hgi := Hgm.out _ (List.getElem_mem him)
              have HR1 := hide (fun w' (hs : Same wr w') => rangeAt_same hr1 (Same.trans Hs3.out hs))
              have HR2 := hide (fun w' (hs : Same wr w') => rangeAt_same hr2 (Same.trans (Same.trans Hs2.out Hs3.out) hs))
              have HOn := hide (fun w' => ronlyA_any Lo[i].a (A0 := Lo[i].A) (c := Lo[i].c) w' (by rw [ha2]; exact hgi))
              have HSm := hide (fun w' (hs : Same wr w') => rsame_any l[i].a (onlyA Lo[i].a) (c := l[i].c) (d := onlyCap Lo[i].a Lo[i].c) w' (hl1.1.same (Same.trans Hs3.out hs)) ((onlyA_at hl2).1.same (Same.trans (Same.trans Hs2.out Hs3.out) hs)))
              rw [ha1, ha2, eqA_refl] at HSm
              rw [ha2] at HOn
              have Hl1 := hide (laL_len l[i])
              have Hl2 := hide (laL_len Lo[i])
              have hv1 : acV (onlyA (M0.take j)[i]) l[i].A l[i].c = .agg (laL l[i]).toArray := by rw [← ha1]; rfl
              have hv2 : acV (M0.take j)[i] Lo[i].A Lo[i].c = .agg (laL Lo[i]).toArray := by rw [← ha2]; rfl
              rw [hv1] at HSm
              rw [hv2] at HOn
              obtain ⟨OV, hOV⟩ : ∃ v, acV (onlyA (M0.take j)[i]) (onlyAt (M0.take j)[i] Lo[i].A) (onlyCap (M0.take j)[i] Lo[i].c) = v := ⟨_, rfl⟩
              rw [hOV] at HSm HOn
              clear hv1 hv2 hOV ha1 ha2 hgi hr1 hr2 hl1 hl2 him
              generalize laL l[i] = R1 at *
              generalize laL Lo[i] = R2 at *
              subst hA1 hA2
              have hwi : IntKind.i64.wrap ((i : Nat) : Int) = ((i : Nat) : Int) := IntWalk.i64_in _ (by omega)
              have hij1 : ((i : Nat) : Int) < ((j : Nat) : Int) := by omega
              go_wp2_with fail
              refine wp_region_mixS 11 (by kernel_rfl) (by kernel_rfl) fun Fin hFin => ?_
              simp only [List.take_succ_cons, List.take_zero]
              iterate 3 (
                  (refine mix_lit ?_ ?_ (fun w => Chg.refl _ w) ?_ ?_ ?_ ?_
                   rotate_left; rotate_left
                   · intro e w1 hR hF K hK; (skip); go_simp; (first | (refine hK _ _ (Chg.refl _ _) ?_; rfl) | (go_at_call 15; (with_reducible refine (HOn.out _).mono ?_); rintro _ w2 ⟨rfl, hs⟩; refine hK _ _ hs ?_; rfl) | (go_at_call 14; (with_reducible refine (HSm.out _ hR).mono ?_); rintro _ w2 ⟨rfl, hs⟩; refine hK _ _ hs ?_; rfl))
                   · intro e; simp only [Act.put, List.setIfInBounds_toArray, List.set_cons_zero, List.set_cons_succ]; rfl
                   · exact Loc.const _ _))
              refine mix_ld R1 ?_ (fun w => Chg.refl _ w) (fun _ => by rfl) 38 _ rfl b1 (o1 + i * 22) (fun _ => by rfl) _ (fun w1 hR => HR1.out _ hR) Tryz.underlying38 rfl (by rw [Hl1.out]; exact infoAct) ?_ ?_
              rotate_left
              · intro e; simp only [Act.put, List.setIfInBounds_toArray, List.set_cons_zero, List.set_cons_succ]; rfl
              iterate 3 (
                  (refine mix_lit ?_ ?_ (fun w => Chg.refl _ w) ?_ ?_ ?_ ?_
                   rotate_left; rotate_left
                   · intro e w1 hR hF K hK; (skip); go_simp; (first | (refine hK _ _ (Chg.refl _ _) ?_; rfl) | (go_at_call 15; (with_reducible refine (HOn.out _).mono ?_); rintro _ w2 ⟨rfl, hs⟩; refine hK _ _ hs ?_; rfl) | (go_at_call 14; (with_reducible refine (HSm.out _ hR).mono ?_); rintro _ w2 ⟨rfl, hs⟩; refine hK _ _ hs ?_; rfl))
                   · intro e; simp only [Act.put, List.setIfInBounds_toArray, List.set_cons_zero, List.set_cons_succ]; rfl
                   · exact Loc.const _ _))
              refine mix_ld R2 ?_ (fun w => Chg.refl _ w) (fun _ => by rfl) 38 _ rfl b2 (o2 + i * 22) (fun _ => by rfl) _ (fun w1 hR => HR2.out _ hR) Tryz.underlying38 rfl (by rw [Hl2.out]; exact infoAct) ?_ ?_
              rotate_left
              · intro e; simp only [Act.put, List.setIfInBounds_toArray, List.set_cons_zero, List.set_cons_succ]; rfl
              iterate 3 (
                  (refine mix_lit ?_ ?_ (fun w => Chg.refl _ w) ?_ ?_ ?_ ?_
                   rotate_left; rotate_left
                   · intro e w1 hR hF K hK; (skip); go_simp; (first | (refine hK _ _ (Chg.refl _ _) ?_; rfl) | (go_at_call 15; (with_reducible refine (HOn.out _).mono ?_); rintro _ w2 ⟨rfl, hs⟩; refine hK _ _ hs ?_; rfl) | (go_at_call 14; (with_reducible refine (HSm.out _ hR).mono ?_); rintro _ w2 ⟨rfl, hs⟩; refine hK _ _ hs ?_; rfl))
                   · intro e; simp only [Act.put, List.setIfInBounds_toArray, List.set_cons_zero, List.set_cons_succ]; rfl
                   · exact Loc.const _ _))
              refine mix_nil fun e w4 hR hF => hFin _ _ ?_
              simp only [List.drop_succ_cons, List.drop_zero]
              have HR9 := hide hR
              clear hR hF hFin
              go_wp2_with fail
              go_roundg (j - (i + 1))
              case measure => have := Hg2.out; omega
              case rel => exact ⟨i + 1, by omega, rfl, by go_num, Same.trans Hs3.out HR9.out⟩
            · have hie : ¬ ((i : Nat) : Int) < ((j : Nat) : Int) := by omega
              go_wp2_with (first
                | (go_at_call 13; ((with_reducible refine (HL2.out _ (Same.trans Hs2.out Hs3.out)).mono ?_); rintro e w9 ⟨rfl, hs9⟩; have Hs9 := hide (Same.trans (Same.trans Hs2.out Hs3.out) hs9); clear hs9))
                | fail)
              go_ret
              exact ⟨rfl, Same.trans Hown.out.sm Hs9.out⟩
        · have hj1 : ¬ ((j : Nat) : Int) < ((n : Nat) : Int) := by omega
          clear hT1
          go_wp2_with (first
            | (go_at_call 17; ((with_reducible refine (HPr.out _ (Chg.refl _ _)).mono ?_); rintro e w1 ⟨rfl, hs1⟩; have Hs1 := hide hs1; clear hs1))
            | (go_at_call 16; ((with_reducible refine (HRe.out _ Hs1.out).mono ?_); rintro e w2 ⟨⟨l, Ax, cx, hlx, rfl, hax⟩, hs2⟩; have Hlx := hide hlx; have Hax := hide hax; have Hs2 := hide (Same.trans Hs1.out hs2); clear hlx hax hs2))
            | fail)
          go_loopg [14] j (fun g v14 wr => ∃ i : Nat, i ≤ j ∧ g = j - i ∧ v14 = .int .i64 i ∧ Same w2 wr)
          case atStart => exact ⟨0, Nat.zero_le _, rfl, rfl, Chg.refl _ _⟩
          case round =>
            obtain ⟨i, hi, hg2, rfl, hs3⟩ := hrel
            have Hg2 := hide hg2
            have Hs3 := hide hs3
            clear hg2 hs3
            by_cases hij : i < j
            · have hil : i < l.length := by have := congrArg List.length Hlx.out; rw [List.length_map, List.length_map, Hmt.out] at this; omega
              have hio : i < Lo.length := by rw [Hown.out.len]; exact hij
              have him : i < (M0.take j).length := by rw [Hmt.out]; exact hij
              obtain ⟨b1, o1, hA1, _, hr1, hl1⟩ := Hax.out.at_ hil
              obtain ⟨b2, o2, hA2, _, hr2, hl2⟩ := Hown.out.acts.at_ hio
              have ha1 : l[i].a = onlyA (M0.take j)[i] := by
                have := congrArg (·[i]?) Hlx.out
                simp only [List.getElem?_map, List.getElem?_eq_getElem hil, List.getElem?_eq_getElem him, Option.map_some] at this
                exact Option.some.inj this
              have ha2 : Lo[i].a = (M0.take j)[i] := by
                have := congrArg (·[i]?) Hlo.out
                simp only [List.getElem?_map, List.getElem?_eq_getElem hio, List.getElem?_eq_getElem him, Option.map_some] at this
                exact Option.some.inj this
              have hgi := Hgm.out _ (List.getElem_mem him)
              have HR1 := hide (fun w' (hs : Same wr w') => rangeAt_same hr1 (Same.trans Hs3.out hs))
              have HR2 := hide (fun w' (hs : Same wr w') => rangeAt_same hr2 (Same.trans (Same.trans Hs2.out Hs3.out) hs))
              have HOn := hide (fun w' => ronlyA_any Lo[i].a (A0 := Lo[i].A) (c := Lo[i].c) w' (by rw [ha2]; exact hgi))
              have HSm := hide (fun w' (hs : Same wr w') => rsame_any l[i].a (onlyA Lo[i].a) (c := l[i].c) (d := onlyCap Lo[i].a Lo[i].c) w' (hl1.1.same (Same.trans Hs3.out hs)) ((onlyA_at hl2).1.same (Same.trans (Same.trans Hs2.out Hs3.out) hs)))
              rw [ha1, ha2, eqA_refl] at HSm
              rw [ha2] at HOn
              have Hl1 := hide (laL_len l[i])
              have Hl2 := hide (laL_len Lo[i])
              have hv1 : acV (onlyA (M0.take j)[i]) l[i].A l[i].c = .agg (laL l[i]).toArray := by rw [← ha1]; rfl
              have hv2 : acV (M0.take j)[i] Lo[i].A Lo[i].c = .agg (laL Lo[i]).toArray := by rw [← ha2]; rfl
              rw [hv1] at HSm
              rw [hv2] at HOn
              obtain ⟨OV, hOV⟩ : ∃ v, acV (onlyA (M0.take j)[i]) (onlyAt (M0.take j)[i] Lo[i].A) (onlyCap (M0.take j)[i] Lo[i].c) = v := ⟨_, rfl⟩
              rw [hOV] at HSm HOn
              clear hv1 hv2 hOV ha1 ha2 hgi hr1 hr2 hl1 hl2 him
              generalize laL l[i] = R1 at *
              generalize laL Lo[i] = R2 at *
              subst hA1 hA2
              have hwi : IntKind.i64.wrap ((i : Nat) : Int) = ((i : Nat) : Int) := IntWalk.i64_in _ (by omega)
              have hij1 : ((i : Nat) : Int) < ((j : Nat) : Int) := by omega
              go_wp2_with fail
              refine wp_region_mixS 11 (by kernel_rfl) (by kernel_rfl) fun Fin hFin => ?_
              simp only [List.take_succ_cons, List.take_zero]
              iterate 3 (
                  (refine mix_lit ?_ ?_ (fun w => Chg.refl _ w) ?_ ?_ ?_ ?_
                   rotate_left; rotate_left
                   · intro e w1 hR hF K hK; (skip); go_simp; (first | (refine hK _ _ (Chg.refl _ _) ?_; rfl) | (go_at_call 15; (with_reducible refine (HOn.out _).mono ?_); rintro _ w2 ⟨rfl, hs⟩; refine hK _ _ hs ?_; rfl) | (go_at_call 14; (with_reducible refine (HSm.out _ hR).mono ?_); rintro _ w2 ⟨rfl, hs⟩; refine hK _ _ hs ?_; rfl))
                   · intro e; simp only [Act.put, List.setIfInBounds_toArray, List.set_cons_zero, List.set_cons_succ]; rfl
                   · exact Loc.const _ _))
              refine mix_ld R1 ?_ (fun w => Chg.refl _ w) (fun _ => by rfl) 38 _ rfl b1 (o1 + i * 22) (fun _ => by rfl) _ (fun w1 hR => HR1.out _ hR) Tryz.underlying38 rfl (by rw [Hl1.out]; exact infoAct) ?_ ?_
              rotate_left
              · intro e; simp only [Act.put, List.setIfInBounds_toArray, List.set_cons_zero, List.set_cons_succ]; rfl
              iterate 3 (
                  (refine mix_lit ?_ ?_ (fun w => Chg.refl _ w) ?_ ?_ ?_ ?_
                   rotate_left; rotate_left
                   · intro e w1 hR hF K hK; (skip); go_simp; (first | (refine hK _ _ (Chg.refl _ _) ?_; rfl) | (go_at_call 15; (with_reducible refine (HOn.out _).mono ?_); rintro _ w2 ⟨rfl, hs⟩; refine hK _ _ hs ?_; rfl) | (go_at_call 14; (with_reducible refine (HSm.out _ hR).mono ?_); rintro _ w2 ⟨rfl, hs⟩; refine hK _ _ hs ?_; rfl))
                   · intro e; simp only [Act.put, List.setIfInBounds_toArray, List.set_cons_zero, List.set_cons_succ]; rfl
                   · exact Loc.const _ _))
              refine mix_ld R2 ?_ (fun w => Chg.refl _ w) (fun _ => by rfl) 38 _ rfl b2 (o2 + i * 22) (fun _ => by rfl) _ (fun w1 hR => HR2.out _ hR) Tryz.underlying38 rfl (by rw [Hl2.out]; exact infoAct) ?_ ?_
              rotate_left
              · intro e; simp only [Act.put, List.setIfInBounds_toArray, List.set_cons_zero, List.set_cons_succ]; rfl
              iterate 3 (
                  (refine mix_lit ?_ ?_ (fun w => Chg.refl _ w) ?_ ?_ ?_ ?_
                   rotate_left; rotate_left
                   · intro e w1 hR hF K hK; (skip); go_simp; (first | (refine hK _ _ (Chg.refl _ _) ?_; rfl) | (go_at_call 15; (with_reducible refine (HOn.out _).mono ?_); rintro _ w2 ⟨rfl, hs⟩; refine hK _ _ hs ?_; rfl) | (go_at_call 14; (with_reducible refine (HSm.out _ hR).mono ?_); rintro _ w2 ⟨rfl, hs⟩; refine hK _ _ hs ?_; rfl))
                   · intro e; simp only [Act.put, List.setIfInBounds_toArray, List.set_cons_zero, List.set_cons_succ]; rfl
                   · exact Loc.const _ _))
              refine mix_nil fun e w4 hR hF => hFin _ _ ?_
              simp only [List.drop_succ_cons, List.drop_zero]
              have HR9 := hide hR
              clear hR hF hFin
              go_wp2_with fail
              go_roundg (j - (i + 1))
              case measure => have := Hg2.out; omega
              case rel => exact ⟨i + 1, by omega, rfl, by go_num, Same.trans Hs3.out HR9.out⟩
            · have hie : ¬ ((i : Nat) : Int) < ((j : Nat) : Int) := by omega
              go_wp2_with (first
                | (go_at_call 13; ((with_reducible refine (HL2.out _ (Same.trans Hs2.out Hs3.out)).mono ?_); rintro e w9 ⟨rfl, hs9⟩; have Hs9 := hide (Same.trans (Same.trans Hs2.out Hs3.out) hs9); clear hs9))
                | fail)
              go_ret
              exact ⟨rfl, Same.trans Hown.out.sm Hs9.out⟩
      · rw [if_neg hbd] at HPr ⊢
        have hq : badAt (M0.take j) < j := by have := Hble.out; omega
        obtain ⟨q, hqq⟩ : ∃ q, badAt (M0.take j) = q := ⟨_, rfl⟩
        rw [hqq] at hq HPr ⊢
        clear hqq hbd
        unfold strV at HPr
        have hq2 : (0 : Int) < ((q : Nat) : Int) + 1 := by omega
        by_cases hjn : j < n
        · have h15 : j = 15 := by have := HN.out; omega
          have hj1 : ((j : Nat) : Int) < ((n : Nat) : Int) := by omega
          have hj2 : ¬ ((j : Nat) : Int) < 15 := by omega
          have hj3 : ¬ j < 15 := by omega
          clear hT1 h15
          go_wp2_with (first
            | (go_at_call 17; ((with_reducible refine (HPr.out _ (Chg.refl _ _)).mono ?_); rintro e w1 ⟨rfl, hs1⟩; have Hs1 := hide hs1; clear hs1))
            | (go_at_call 13; ((with_reducible refine (HL2.out _ Hs1.out).mono ?_); rintro e w9 ⟨rfl, hs9⟩; have Hs9 := hide (Same.trans Hs1.out hs9); clear hs9))
            | fail)
          go_ret
          exact ⟨rfl, Same.trans Hown.out.sm Hs9.out⟩
        · have hj1 : ¬ ((j : Nat) : Int) < ((n : Nat) : Int) := by omega
          clear hT1
          go_wp2_with (first
            | (go_at_call 17; ((with_reducible refine (HPr.out _ (Chg.refl _ _)).mono ?_); rintro e w1 ⟨rfl, hs1⟩; have Hs1 := hide hs1; clear hs1))
            | (go_at_call 13; ((with_reducible refine (HL2.out _ Hs1.out).mono ?_); rintro e w9 ⟨rfl, hs9⟩; have Hs9 := hide (Same.trans Hs1.out hs9); clear hs9))
            | fail)
          go_ret
          exact ⟨rfl, Same.trans Hown.out.sm Hs9.out⟩
end Go.Proofs.YtlodanjpkjfjiaaGreatDoor
