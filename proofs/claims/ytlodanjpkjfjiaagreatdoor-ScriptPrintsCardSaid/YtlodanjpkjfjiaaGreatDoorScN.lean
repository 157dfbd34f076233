/-
  script.Good. Condition: bytes of a sound length.
  The document's Good: requests (ref29), acts (ref37). Condition: bytes of a sound length.
-/
import Derived.Test.YtlodanjpkjfjiaaGreatDoorAcW
/-! ScO -/
namespace Go.Proofs.YtlodanjpkjfjiaaGreatDoor
open Go.RowKit Go.Al
set_option linter.unusedVariables false

theorem rangeA0 {w : World} {g : Nat} {L : List Value} {t : TypeId} (h : Blk w g t L.toArray) : w.rangeAt g 0 L := fun j v hv => by
  rw [Nat.zero_add, h.cell]
  simpa using hv
set_option maxRecDepth 100000 in
set_option maxHeartbeats 4000000 in
theorem sGood_any (a : Ac) (A : Option Addr) (c : Nat) (w : World) (hl : a.b.length ≤ maxLen) :
    Calls Tryz.prog 19 #[acV a A c] w fun e w' => e = .returned (.bool (goodA a)) ∧ Same w w' := by
  have HG := hide (fun w' => sgood_any a A c w' hl)
  have Hs := hide ((Chg.refl (fun _ => False) w).alloc (.cells (acL a A c).toArray 38))
  have Hra := hide (rangeA0 (Blk.new w 38 (acL a A c).toArray))
  have Hll := hide (acL_len a A c)
  clear hl
  unfold acV at HG ⊢
  generalize acL a A c = L at *
  generalize goodA a = ga at *
  go_enter Tryz.func19, Tryz.ntmps19
  go_wp2_with (first
    | (refine wpList_ld (by rfl) 38 _ rfl w.heap.size 0 rfl L _ Hra.out Tryz.underlying38 rfl (by rw [Hll.out]; exact infoAct) ?_)
    | (go_at_call 33; (refine (HG.out _).mono ?_); rintro e w1 ⟨rfl, hs1⟩; have Hs1 := hide (Same.trans Hs.out hs1); clear hs1)
    | fail)
  go_ret
  exact ⟨rfl, Hs1.out⟩
end Go.Proofs.YtlodanjpkjfjiaaGreatDoor
/-! ScN -/
namespace Go.Proofs.YtlodanjpkjfjiaaGreatDoor
open Go.RowKit Go.Al
set_option linter.unusedVariables false

set_option maxRecDepth 100000 in
set_option maxHeartbeats 4000000 in
theorem goodRf_any (r : Rq) (w : World) :
    Calls Tryz.prog 24 #[rqV r] w fun e w' => e = .returned (.bool (goodR r)) ∧ Same w w' := by
  have Hs := hide ((Chg.refl (fun _ => False) w).alloc (.cells (rqL r).toArray 35))
  obtain ⟨v, hv⟩ : ∃ v, goodR r = v := ⟨_, rfl⟩
  rw [hv]
  unfold goodR at hv
  have HV := hide hv
  clear hv
  obtain ⟨k, ⟨ck, ⟨p1, p2, p3⟩, ⟨s1, s2, s3⟩⟩, ⟨qk, a, b, c, d, e, f, g, x, h⟩⟩ := r
  unfold rqV
  simp only [rqL, cgL, qL, List.cons_append, List.nil_append] at Hs HV ⊢
  by_cases k1 : k = 1
  · subst k1
    by_cases c1 : 1 ≤ ck
    · by_cases c4 : ck ≤ 4
      · go_enter Tryz.func24, Tryz.ntmps24
        go_wp2_with fail
        go_ret
        exact ⟨by rw [← HV.out]; first | rfl | (simp [*]; done) | (simp; omega) | omega, Hs.out⟩
      · go_enter Tryz.func24, Tryz.ntmps24
        go_wp2_with fail
        go_ret
        exact ⟨by rw [← HV.out]; first | rfl | (simp [*]; done) | (simp; omega) | omega, Hs.out⟩
    · go_enter Tryz.func24, Tryz.ntmps24
      go_wp2_with fail
      go_ret
      exact ⟨by rw [← HV.out]; first | rfl | (simp [*]; done) | (simp; omega) | omega, Hs.out⟩
  · by_cases k2 : k = 2
    · subst k2
      by_cases c1 : 1 ≤ qk
      · by_cases c7 : qk ≤ 7
        · go_enter Tryz.func24, Tryz.ntmps24
          go_wp2_with fail
          go_ret
          exact ⟨by rw [← HV.out]; first | rfl | (simp [*]; done) | (simp; omega) | omega, Hs.out⟩
        · go_enter Tryz.func24, Tryz.ntmps24
          go_wp2_with fail
          go_ret
          exact ⟨by rw [← HV.out]; first | rfl | (simp [*]; done) | (simp; omega) | omega, Hs.out⟩
      · go_enter Tryz.func24, Tryz.ntmps24
        go_wp2_with fail
        go_ret
        exact ⟨by rw [← HV.out]; first | rfl | (simp [*]; done) | (simp; omega) | omega, Hs.out⟩
    · go_enter Tryz.func24, Tryz.ntmps24
      go_wp2_with fail
      go_ret
      exact ⟨by rw [← HV.out]; first | rfl | (simp [*]; done) | (simp; omega) | omega, Hs.out⟩
set_option maxRecDepth 100000 in
set_option maxHeartbeats 8000000 in
theorem rgoodA_any (a : Ac) (A : Option Addr) (c : Nat) (w : World) (hl : a.b.length ≤ maxLen) :
    Calls Tryz.prog 11 #[acV a A c] w fun e w' => e = .returned (.bool (goodA a)) ∧ Same w w' := by
  have HG := hide (goodRf_any a.r)
  have hb := Blk.new w 38 (acL a A c).toArray
  have hra := rangeA hb
  have hk0 := hb.cell 0
  have hk2 := hb.cell 2
  have hk4 := hb.cell 21
  have hs := (Chg.refl (fun _ => False) w).alloc (.cells (acL a A c).toArray 38)
  have Hs := hide hs
  have Hra := hide hra
  have h0 : (acL a A c)[0]? = some (.int .i64 a.k) := rfl
  have h2 : (acL a A c)[2]? = some (.int .i64 a.n) := rfl
  have h4 : (acL a A c)[21]? = some (.slice A a.b.length c) := rfl
  simp only [List.getElem?_toArray, h0, h2, h4] at hk0 hk2 hk4
  have hfz := hb.frozen
  have Hrl := hide (rqL_len a.r)
  obtain ⟨ga, hga⟩ : ∃ x, goodA a = x := ⟨_, rfl⟩
  rw [hga]
  unfold goodA at hga
  have HGa := hide hga
  clear hga
  unfold acV
  unfold rqV at HG
  clear hb hs hra h0 h2 h4 hfz
  generalize acL a A c = L at *
  generalize goodR a.r = gr at *
  generalize rqL a.r = R at *
  obtain ⟨k, id, n, r, b⟩ := a
  simp only at *
  generalize b.length = bl at *
  by_cases k1 : k = 1
  · subst k1
    go_enter Tryz.func11, Tryz.ntmps11
    go_wp2_with (first
      | (refine wpList_ld (by rfl) 35 _ rfl w.heap.size 3 rfl R _ Hra.out Tryz.underlying35 rfl (by rw [Hrl.out]; exact infoRqE) ?_)
      | (go_at_call 24; (refine (HG.out _).mono ?_); rintro e w1 ⟨rfl, hs1⟩; have Hs1 := hide (Same.trans Hs.out hs1); clear hs1)
      | fail)
    (first | go_ret | go_ret2)
    refine ⟨?_, Hs1.out⟩
    rw [← HGa.out]
    first | rfl | (simp; done) | (simp; omega)
  · by_cases k2 : k = 2
    · subst k2
      by_cases n1 : 1 ≤ n
      · by_cases n2 : n ≤ 10000
        · go_enter Tryz.func11, Tryz.ntmps11
          go_wp2_with fail
          (first | go_ret | go_ret2)
          refine ⟨?_, Hs.out⟩
          rw [← HGa.out]
          first | rfl | (simp; done) | (simp; omega)
        · go_enter Tryz.func11, Tryz.ntmps11
          go_wp2_with fail
          (first | go_ret | go_ret2)
          refine ⟨?_, Hs.out⟩
          rw [← HGa.out]
          first | rfl | (simp; done) | (simp; omega)
      · go_enter Tryz.func11, Tryz.ntmps11
        go_wp2_with fail
        (first | go_ret | go_ret2)
        refine ⟨?_, Hs.out⟩
        rw [← HGa.out]
        first | rfl | (simp; done) | (simp; omega)
    · by_cases k4 : k = 4
      · subst k4
        by_cases n1 : 1 ≤ n
        · by_cases n2 : n ≤ 10000
          · go_enter Tryz.func11, Tryz.ntmps11
            go_wp2_with fail
            (first | go_ret | go_ret2)
            refine ⟨?_, Hs.out⟩
            rw [← HGa.out]
            first | rfl | (simp; done) | (simp; omega)
          · go_enter Tryz.func11, Tryz.ntmps11
            go_wp2_with fail
            (first | go_ret | go_ret2)
            refine ⟨?_, Hs.out⟩
            rw [← HGa.out]
            first | rfl | (simp; done) | (simp; omega)
        · go_enter Tryz.func11, Tryz.ntmps11
          go_wp2_with fail
          (first | go_ret | go_ret2)
          refine ⟨?_, Hs.out⟩
          rw [← HGa.out]
          first | rfl | (simp; done) | (simp; omega)
      · by_cases k5 : k = 5
        · subst k5
          by_cases hb : bl ≤ 1000
          · go_enter Tryz.func11, Tryz.ntmps11
            go_wp2_with fail
            (first | go_ret | go_ret2)
            refine ⟨?_, Hs.out⟩
            rw [← HGa.out]
            first | rfl | (simp; done) | (simp; omega)
          · go_enter Tryz.func11, Tryz.ntmps11
            go_wp2_with fail
            (first | go_ret | go_ret2)
            refine ⟨?_, Hs.out⟩
            rw [← HGa.out]
            first | rfl | (simp; done) | (simp; omega)
        · by_cases k3 : k = 3
          · subst k3
            go_enter Tryz.func11, Tryz.ntmps11
            go_wp2_with fail
            (first | go_ret | go_ret2)
            refine ⟨?_, Hs.out⟩
            rw [← HGa.out]
            first | rfl | (simp; done) | (simp; omega)
          · have b2 : (k == 2) = false := by simpa using k2
            have b3 : (k == 3) = false := by simpa using k3
            have b4 : (k == 4) = false := by simpa using k4
            have b5 : (k == 5) = false := by simpa using k5
            go_enter Tryz.func11, Tryz.ntmps11
            go_wp2_with fail
            (first | go_ret | go_ret2)
            refine ⟨?_, Hs.out⟩
            rw [← HGa.out]
            first | rfl | (simp [k1, k2, k3, k4, k5]; done)
end Go.Proofs.YtlodanjpkjfjiaaGreatDoor
