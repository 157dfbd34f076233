/-
  linear.free, linear.all, linear.explains: which operations may be the next ones, and whether all is explained. Condition: at most 1048576 operations.
-/
import Derived.Test.YtenkdjfikppkdaaGreatLnB
import Derived.Test.YtenkdjfikppkdaaGreatIn
namespace Go.Proofs.YtenkdjfikppkdaaGreat
open Go.RowKit Go.Al
set_option linter.unusedVariables false

theorem opt_any {α : Type} {l : List α} {i : Nat} (h : i < l.length) (f : α → Bool) : (l[i]?).any f = f l[i] := by
  rw [List.getElem?_eq_getElem h]; rfl

set_option maxRecDepth 100000 in
set_option maxHeartbeats 8000000 in
theorem explains_any {A B : Option Addr} {c c2 : Nat} {l : List Dd} {done : List Int} (w : World) (h : Dds w A l) (hd : Rd w B (is done)) (hl : l.length ≤ 1048576) (hdl : done.length ≤ maxLen) :
    Calls Tryz.prog 22 #[.slice A l.length c, .slice B done.length c2] w fun e w' => e = .returned (.bool (explainsB l done)) ∧ Same w w' := by
  have H := hide h
  have Hd := hide hd
  have HC := hide (fun (i : Nat) w' (hs : Same w w') => contains_any (c := c2) done (i : Int) w' (hd.same hs) hdl)
  obtain ⟨n, hn⟩ : ∃ n, l.length = n := ⟨_, rfl⟩
  obtain ⟨m, hm⟩ : ∃ m, done.length = m := ⟨_, rfl⟩
  rw [hn] at hl ⊢
  rw [hm] at HC ⊢
  have Hn := hide hn
  obtain ⟨v, hv⟩ : ∃ v, explainsB l done = v := ⟨_, rfl⟩
  rw [hv]
  have HV := hide hv
  clear h hd hdl hn hm hv
  go_enter Tryz.func22, Tryz.ntmps22
  go_wp2_with fail
  go_loopg [5, 9] n (fun k u vi wr => ∃ i : Nat, i ≤ n ∧ k = n - i ∧ vi = .int .i64 i ∧ Same w wr ∧ ∀ j, j < i → leftB l done j = false)
  case atStart => exact ⟨0, Nat.zero_le _, rfl, rfl, Chg.refl _ _, fun j hj => by omega⟩
  case round =>
    obtain ⟨i, hi, hk, rfl, hsm, hall⟩ := hrel
    have Hk := hide hk
    have Hsm := hide hsm
    have Hall := hide hall
    clear hk hsm hall
    by_cases hlt : i < n
    · have hil : i < l.length := by rw [Hn.out]; exact hlt
      obtain ⟨b, off, rfl, hbl, hra, hrp⟩ := (H.out.same Hsm.out).at_ hil
      have Hra := hide hra
      have hlf : leftB l done i = (mustD l[i] && !hasI done i) := opt_any hil _
      obtain ⟨d, hdd⟩ : ∃ d, l[i] = d := ⟨_, rfl⟩
      rw [hdd] at Hra hlf
      have Hlf := hide hlf
      have HM := hide (must_any d)
      have Hll := hide (ddL_length d)
      have Hon := hide (one_ddL d)
      have Hbd := hide (blk_deed wr 45 d)
      unfold ddV at HM
      obtain ⟨mu, hmu⟩ : ∃ mu, mustD d = mu := ⟨_, rfl⟩
      rw [hmu] at HM Hlf
      clear hra hrp hlf hdd hmu
      have hin := HC.out i
      obtain ⟨ha, hha⟩ : ∃ ha, hasI done i = ha := ⟨_, rfl⟩
      rw [hha] at hin Hlf
      have Hin := hide hin
      clear hin hha
      generalize ddL d = L at *
      cases mu
      · go_wp2_with (first
          | (refine wpList_ld (by rfl) 45 _ rfl b (off + i * 29) rfl L _ Hra.out Tryz.underlying45 rfl (by rw [Hll.out]; exact infoDeed) ?_)
          | (refine wpList_st (by rfl) 45 _ _ rfl rfl L rfl _ _ (by rw [Hll.out]; exact infoDeed) (by rw [Hll.out]; rfl) Hon.out ?_)
          | (refine wpList_ld (by rfl) 45 _ rfl wr.heap.size 0 rfl L _ Hbd.out Tryz.underlying45 rfl (by rw [Hll.out]; exact infoDeed) ?_)
          | (go_at_call 29; have hF := HM.out; refine (hF _).mono ?_; rintro e w2 ⟨rfl, hs⟩; have Hs2 : Hid (Same wr w2) := hide (((Chg.refl _ wr).alloc _).same hs); clear hs hF))
        go_roundg (n - (i + 1))
        case measure => have := Hk.out; omega
        case rel =>
          refine ⟨i + 1, by omega, rfl, by go_num, Hsm.out.trans Hs2.out, fun j hj => ?_⟩
          by_cases hji : j < i
          · exact Hall.out j hji
          · obtain rfl : j = i := by omega
            rw [Hlf.out]; rfl
      · cases ha
        · go_wp2_with (first
            | (refine wpList_ld (by rfl) 45 _ rfl b (off + i * 29) rfl L _ Hra.out Tryz.underlying45 rfl (by rw [Hll.out]; exact infoDeed) ?_)
            | (refine wpList_st (by rfl) 45 _ _ rfl rfl L rfl _ _ (by rw [Hll.out]; exact infoDeed) (by rw [Hll.out]; rfl) Hon.out ?_)
            | (refine wpList_ld (by rfl) 45 _ rfl wr.heap.size 0 rfl L _ Hbd.out Tryz.underlying45 rfl (by rw [Hll.out]; exact infoDeed) ?_)
            | (go_at_call 29; have hF := HM.out; refine (hF _).mono ?_; rintro e w2 ⟨rfl, hs⟩; have Hs2 : Hid (Same wr w2) := hide (((Chg.refl _ wr).alloc _).same hs); clear hs hF)
            | (go_at_call 36; have hF := Hin.out _ (Hsm.out.trans Hs2.out); refine hF.mono ?_; rintro e w3 ⟨rfl, rfl⟩; clear hF))
          go_ret
          refine ⟨?_, Hsm.out.trans Hs2.out⟩
          have : explainsB l done = false := by
            unfold explainsB
            rw [List.all_eq_false]
            exact ⟨i, List.mem_range.2 hil, by rw [Hlf.out]; simp⟩
          rw [← HV.out, this]; rfl
        · go_wp2_with (first
            | (refine wpList_ld (by rfl) 45 _ rfl b (off + i * 29) rfl L _ Hra.out Tryz.underlying45 rfl (by rw [Hll.out]; exact infoDeed) ?_)
            | (refine wpList_st (by rfl) 45 _ _ rfl rfl L rfl _ _ (by rw [Hll.out]; exact infoDeed) (by rw [Hll.out]; rfl) Hon.out ?_)
            | (refine wpList_ld (by rfl) 45 _ rfl wr.heap.size 0 rfl L _ Hbd.out Tryz.underlying45 rfl (by rw [Hll.out]; exact infoDeed) ?_)
            | (go_at_call 29; have hF := HM.out; refine (hF _).mono ?_; rintro e w2 ⟨rfl, hs⟩; have Hs2 : Hid (Same wr w2) := hide (((Chg.refl _ wr).alloc _).same hs); clear hs hF)
            | (go_at_call 36; have hF := Hin.out _ (Hsm.out.trans Hs2.out); refine hF.mono ?_; rintro e w3 ⟨rfl, rfl⟩; clear hF))
          go_roundg (n - (i + 1))
          case measure => have := Hk.out; omega
          case rel =>
            refine ⟨i + 1, by omega, rfl, by go_num, Hsm.out.trans Hs2.out, fun j hj => ?_⟩
            by_cases hji : j < i
            · exact Hall.out j hji
            · obtain rfl : j = i := by omega
              rw [Hlf.out]; rfl
    · go_wp2_with fail
      go_ret
      refine ⟨?_, Hsm.out⟩
      have : explainsB l done = true := by
        unfold explainsB
        rw [List.all_eq_true]
        intro j hj
        rw [Hall.out j (by have := List.mem_range.1 hj; rw [Hn.out] at this; omega)]; rfl
      rw [← HV.out, this]; rfl
end Go.Proofs.YtenkdjfikppkdaaGreat
