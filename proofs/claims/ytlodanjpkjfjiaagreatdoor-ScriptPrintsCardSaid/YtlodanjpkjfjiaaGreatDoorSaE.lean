/-
  The document's Same at acts; the law's zero. Condition: bytes as they lie.
-/
import Derived.Test.YtlodanjpkjfjiaaGreatDoorScD
import Derived.Test.YtlodanjpkjfjiaaGreatDoorRqE
import Derived.Test.YtlodanjpkjfjiaaGreatDoorLdR
namespace Go.Proofs.YtlodanjpkjfjiaaGreatDoor
open Go.RowKit Go.Al
set_option linter.unusedVariables false

/-- two acts, compared -/
def eqA (a b : Ac) : Bool := decide (a.k = b.k) && (decide (a.id = b.id) && (decide (a.n = b.n) && (eqR a.r b.r && (a.b == b.b))))
theorem eqA_iff (a b : Ac) : eqA a b = true ↔ a = b := by
  obtain ⟨k, id, n, r, l⟩ := a
  obtain ⟨k', id', n', r', l'⟩ := b
  simp only [eqA, Bool.and_eq_true, decide_eq_true_eq, eqR_iff, Ac.mk.injEq, beq_iff_eq]
theorem eqA_refl (a : Ac) : eqA a a = true := (eqA_iff a a).2 rfl
theorem eqA_false {a b : Ac} (h : a ≠ b) : eqA a b = false := by
  cases he : eqA a b with
  | false => rfl
  | true => exact absurd ((eqA_iff a b).1 he) h
theorem conv_b {w : World} {A : Option Addr} {c : Nat} {l : List UInt8} (h : Rd w A (bs l)) : (convert 36 9 (.slice A l.length c)).run Tryz.prog w = .ok (.string ⟨l.toArray⟩) w := by
  have h1 := run_bs_string0 Tryz.underlying36 Tryz.underlying5 Tryz.underlying9 c (n := l.length) rfl h
  rw [h1]
  rfl
set_option maxRecDepth 100000 in
set_option maxHeartbeats 8000000 in
theorem rsame_any (a b : Ac) {A B : Option Addr} {c d : Nat} (w : World) (ha : Rd w A (bs a.b)) (hb : Rd w B (bs b.b)) :
    Calls Tryz.prog 14 #[acV a A c, acV b B d] w fun e w' => e = .returned (.bool (eqA a b)) ∧ Same w w'  := by
  have hb1 := (Blk.new w 38 (acL a A c).toArray).alloc (.cells (acL b B d).toArray 38)
  have hb2 := Blk.new (w.alloc (.cells (acL a A c).toArray 38)) 38 (acL b B d).toArray
  rw [World.size_alloc] at hb2
  have hs : Same w ((w.alloc (.cells (acL a A c).toArray 38)).alloc (.cells (acL b B d).toArray 38)) := ((Chg.refl _ w).alloc _).alloc _
  have hra : ((w.alloc (.cells (acL a A c).toArray 38)).alloc (.cells (acL b B d).toArray 38)).rangeAt w.heap.size 3 (rqL a.r) := acW_range hb1
  have hrb : ((w.alloc (.cells (acL a A c).toArray 38)).alloc (.cells (acL b B d).toArray 38)).rangeAt (w.heap.size + 1) 3 (rqL b.r) := acW_range hb2
  have hca := conv_b (c := c) (ha.same hs)
  have hcb := conv_b (c := d) (hb.same hs)
  have a0 := hb1.cell 0
  have a1 := hb1.cell 1
  have a2 := hb1.cell 2
  have a21 := hb1.cell 21
  have b0 := hb2.cell 0
  have b1 := hb2.cell 1
  have b2 := hb2.cell 2
  have b21 := hb2.cell 21
  rw [acL_W, acW_get0] at a0
  rw [acL_W, acW_get1] at a1
  rw [acL_W, acW_get2] at a2
  rw [acL_W, acW_get21 _ _ _ (rqL_len _)] at a21
  rw [acL_W b, acW_get0] at b0
  rw [acL_W b, acW_get1] at b1
  rw [acL_W b, acW_get2] at b2
  rw [acL_W b, acW_get21 _ _ _ (rqL_len _)] at b21
  have heq := eql_req a.r b.r
  have hla := rqL_len a.r
  have hlb := rqL_len b.r
  obtain ⟨v, hv⟩ : ∃ v, eqA a b = v := ⟨_, rfl⟩
  rw [hv]
  unfold eqA at hv
  obtain ⟨k, id, n, r, l⟩ := a
  obtain ⟨k', id', n', r', l'⟩ := b
  unfold acV
  simp only [acL_W] at *
  have Hra := hide hra
  have Hrb := hide hrb
  have Hs := hide hs
  have Hla := hide hla
  have Hlb := hide hlb
  have HV := hide hv
  clear ha hb hb1 hb2 hs hra hrb hla hlb hv
  generalize acW k id n (rqL r) (.slice A l.length c) = L at *
  generalize acW k' id' n' (rqL r') (.slice B l'.length d) = M at *
  generalize eqR r r' = er at *
  generalize rqL r = R at *
  generalize rqL r' = R' at *
  generalize l.length = ln at *
  generalize l'.length = ln' at *
  by_cases h1 : k = k'
  · subst h1
    by_cases h2 : id = id'
    · subst h2
      by_cases h3 : n = n'
      · subst h3
        rcases er with _ | _
        · go_enter Tryz.func14, Tryz.ntmps14
          go_wp2_with (first
            | ((with_reducible refine ldR 35 w.heap.size 3 18 R rowReq Hla.out Hra.out ?_ ?_ ?_); rfl; rfl)
            | ((with_reducible refine ldR 35 (w.heap.size + 1) 3 18 R' rowReq Hlb.out Hrb.out ?_ ?_ ?_); rfl; rfl)
            | fail)
          go_ret
          exact ⟨by rw [← HV.out]; first | rfl | (simp [*]; done), Hs.out⟩
        · go_enter Tryz.func14, Tryz.ntmps14
          go_wp2_with (first
            | ((with_reducible refine ldR 35 w.heap.size 3 18 R rowReq Hla.out Hra.out ?_ ?_ ?_); rfl; rfl)
            | ((with_reducible refine ldR 35 (w.heap.size + 1) 3 18 R' rowReq Hlb.out Hrb.out ?_ ?_ ?_); rfl; rfl)
            | fail)
          go_ret
          exact ⟨by rw [← HV.out]; first | rfl | (simp [*]; done), Hs.out⟩
      · have bh3 : (n == n') = false := by simpa using h3
        go_enter Tryz.func14, Tryz.ntmps14
        go_wp2_with (first
          | ((with_reducible refine ldR 35 w.heap.size 3 18 R rowReq Hla.out Hra.out ?_ ?_ ?_); rfl; rfl)
          | ((with_reducible refine ldR 35 (w.heap.size + 1) 3 18 R' rowReq Hlb.out Hrb.out ?_ ?_ ?_); rfl; rfl)
          | fail)
        go_ret
        exact ⟨by rw [← HV.out]; first | rfl | (simp [*]; done), Hs.out⟩
    · have bh2 : (id == id') = false := by simpa using h2
      go_enter Tryz.func14, Tryz.ntmps14
      go_wp2_with (first
        | ((with_reducible refine ldR 35 w.heap.size 3 18 R rowReq Hla.out Hra.out ?_ ?_ ?_); rfl; rfl)
        | ((with_reducible refine ldR 35 (w.heap.size + 1) 3 18 R' rowReq Hlb.out Hrb.out ?_ ?_ ?_); rfl; rfl)
        | fail)
      go_ret
      exact ⟨by rw [← HV.out]; first | rfl | (simp [*]; done), Hs.out⟩
  · have bh1 : (k == k') = false := by simpa using h1
    go_enter Tryz.func14, Tryz.ntmps14
    go_wp2_with (first
      | ((with_reducible refine ldR 35 w.heap.size 3 18 R rowReq Hla.out Hra.out ?_ ?_ ?_); rfl; rfl)
      | ((with_reducible refine ldR 35 (w.heap.size + 1) 3 18 R' rowReq Hlb.out Hrb.out ?_ ?_ ?_); rfl; rfl)
      | fail)
    go_ret
    exact ⟨by rw [← HV.out]; first | rfl | (simp [*]; done), Hs.out⟩
set_option maxRecDepth 100000 in
set_option maxHeartbeats 4000000 in
theorem zero_any (a : Ac) {A : Option Addr} {c : Nat} (w : World) (ha : Rd w A (bs a.b)) :
    Calls Tryz.prog 10 #[acV a A c] w fun e w' => e = .returned (.bool (eqA a ac0)) ∧ Same w w' := by
  have Hs := hide ((Chg.refl (fun _ => False) w).alloc (.cells (acL a A c).toArray 38))
  have Hra := hide (blk_range (Blk.new w 38 (acL a A c).toArray))
  have HR := hide (fun w' (hs : Same w w') => rsame_any a ac0 (c := c) (B := none) (d := 0) w' (ha.same hs) (Rd.nil _ _))
  have Hll := hide (acL_len a A c)
  clear ha
  unfold acV at HR ⊢
  generalize acL a A c = L at *
  generalize eqA a ac0 = v at *
  go_enter Tryz.func10, Tryz.ntmps10
  go_wp2_with (first
    | ((with_reducible refine ldR 38 w.heap.size 0 22 L rowAct Hll.out Hra.out ?_ ?_ ?_); rfl; rfl)
    | (go_at_call 14; (refine (HR.out _ Hs.out).mono ?_); rintro e w1 ⟨rfl, hs1⟩; have Hs1 := hide (Same.trans Hs.out hs1); clear hs1)
    | fail)
  go_ret
  exact ⟨rfl, Hs1.out⟩
end Go.Proofs.YtlodanjpkjfjiaaGreatDoor
