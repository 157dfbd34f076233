/-
  The document's set: May. Condition: at most 65536 of each.
-/
import Derived.Test.YtenkdjfikppkdaaGreatDoorTcA
namespace Go.Proofs.YtenkdjfikppkdaaGreatDoor
open Go.RowKit Go.Al
set_option linter.unusedVariables false

theorem at3_in {l : List P3} {k : Int} (h : hasK l k = true) : at3 l k = (pos3 l k : Nat) := if_pos h
theorem at3_out {l : List P3} {k : Int} (h : hasK l k = false) : at3 l k = -1 := by rw [at3, h]; rfl
theorem may_k1 {p s : List P3} {most : Int} {q x : P3} (h : judgeE ⟨1, q, x⟩ = 0) : mayE p s most ⟨1, q, x⟩ = if hasK p q.1 then 5 else if most ≤ (p.length : Int) + (s.length : Int) then 4 else 0 := by
  simp [mayE, h, addsC, isC, idC]
theorem may_k2 {p s : List P3} {most : Int} {q x : P3} (h : judgeE ⟨2, q, x⟩ = 0) : mayE p s most ⟨2, q, x⟩ = if hasK p q.1 then 0 else 6 := by
  simp [mayE, h, addsC, isC, idC]
theorem may_k3 {p s : List P3} {most : Int} {q x : P3} (h : judgeE ⟨3, q, x⟩ = 0) : mayE p s most ⟨3, q, x⟩ = if hasK s x.1 then 5 else if most ≤ (p.length : Int) + (s.length : Int) then 4 else 0 := by
  simp [mayE, h, addsC, isC, idC]
theorem may_k4 {p s : List P3} {most : Int} {q x : P3} (h : judgeE ⟨4, q, x⟩ = 0) : mayE p s most ⟨4, q, x⟩ = if hasK s x.1 then 0 else 6 := by
  simp [mayE, h, addsC, isC, idC]

set_option maxRecDepth 100000 in
set_option maxHeartbeats 8000000 in
theorem mayR_any {g cp cs : Nat} {AP AS : Option Addr} {most : Int} {p s : List P3} (c : Cg) (w : World) (h : SetR w g AP cp AS cs most p s) (hp : p.length ≤ 65536) (hs : s.length ≤ 65536) :
    Calls Tryz.prog 57 #[.pointer (some ⟨g, 0, none⟩), cgV c] w fun e w' => e = .returned (.int .i64 (mayE p s most c)) ∧ Same w w' := by
  have HJ := hide (judgeR_any c)
  have HP := hide (fun k w' (hs : Same w w') => pointAt_any k w' (h.same hs) hp)
  have HS := hide (fun k w' (hs' : Same w w') => spanAt_any k w' (h.same hs') hs)
  have H := hide h
  have hsm : Same w (w.alloc (.cells (bx c) 30)) := (Chg.refl _ w).alloc _
  have hb := Blk.new w 30 (bx c)
  have Hs := hide hsm
  have Hb := hide hb
  clear h hsm hb
  by_cases hj : judgeE c = 0
  · have hk : c.k = 1 ∨ c.k = 2 ∨ c.k = 3 ∨ c.k = 4 := by
      rcases Classical.em (c.k = 1 ∨ c.k = 2 ∨ c.k = 3 ∨ c.k = 4) with h | h
      · exact h
      · rw [judge_bad h] at hj; simp at hj
    rw [hj] at HJ
    have hw : IntKind.i64.wrap ((p.length : Int) + (s.length : Int)) = (p.length : Int) + (s.length : Int) := IntWalk.i64_in _ (by omega)
    obtain ⟨k, ⟨pi, px, py⟩, ⟨si, lo, hi⟩⟩ := c
    simp only at hk
    rcases hk with rfl | rfl | rfl | rfl
    · cases hb0 : hasK p pi
      · by_cases hf : most ≤ (p.length : Int) + (s.length : Int)
        · rw [may_k1 hj]
          have hb1 : hasK p pi = false := hb0
          have ha := at3_out hb1
          rw [if_neg (by rw [hb1]; simp)]
          rw [if_pos hf]
          have hkt := fun w' (h : Same w w') => (H.out.same h).blk.cell
          generalize p.length = a at *
          generalize s.length = b at *
          unfold cgV bx at *
          have Hkt := hide hkt
          have Ha := hide ha
          clear hb0 hb1 hkt ha hj
          go_enter Tryz.func57, Tryz.ntmps57
          go_wp2_with (first
            | (go_at_call 93; refine (HJ.out _).mono ?_; rintro e w1 ⟨rfl, hs1⟩; have hk1 := (Hb.out.same hs1).cell; have hkt1 := Hkt.out _ (Same.trans Hs.out hs1); have bg1 := (Hb.out.same hs1).lt; have Hs1 := hide (Same.trans Hs.out hs1); clear hs1)
            | (go_at_call 58; have hF := HP.out pi w1 Hs1.out; rw [Ha.out] at hF; refine hF.mono ?_; rintro e w2 ⟨rfl, hww⟩; subst hww; clear hF))
          go_quiet (fail)
          go_wp2_with fail
          go_ret
          exact ⟨rfl, Same.trans Hs1.out (Same.of_drewN _ _)⟩
        · rw [may_k1 hj]
          have hb1 : hasK p pi = false := hb0
          have ha := at3_out hb1
          rw [if_neg (by rw [hb1]; simp)]
          rw [if_neg hf]
          have hkt := fun w' (h : Same w w') => (H.out.same h).blk.cell
          generalize p.length = a at *
          generalize s.length = b at *
          unfold cgV bx at *
          have Hkt := hide hkt
          have Ha := hide ha
          clear hb0 hb1 hkt ha hj
          go_enter Tryz.func57, Tryz.ntmps57
          go_wp2_with (first
            | (go_at_call 93; refine (HJ.out _).mono ?_; rintro e w1 ⟨rfl, hs1⟩; have hk1 := (Hb.out.same hs1).cell; have hkt1 := Hkt.out _ (Same.trans Hs.out hs1); have bg1 := (Hb.out.same hs1).lt; have Hs1 := hide (Same.trans Hs.out hs1); clear hs1)
            | (go_at_call 58; have hF := HP.out pi w1 Hs1.out; rw [Ha.out] at hF; refine hF.mono ?_; rintro e w2 ⟨rfl, hww⟩; subst hww; clear hF))
          go_quiet (fail)
          go_wp2_with fail
          go_ret
          exact ⟨rfl, Same.trans Hs1.out (Same.of_drewN _ _)⟩
      · rw [may_k1 hj]
        have hb1 : hasK p pi = true := hb0
        have ha := at3_in hb1
        rw [if_pos hb1]
        generalize pos3 p pi = m at *
        have hkt := fun w' (h : Same w w') => (H.out.same h).blk.cell
        generalize p.length = a at *
        generalize s.length = b at *
        unfold cgV bx at *
        have Hkt := hide hkt
        have Ha := hide ha
        clear hb0 hb1 hkt ha hj
        go_enter Tryz.func57, Tryz.ntmps57
        go_wp2_with (first
          | (go_at_call 93; refine (HJ.out _).mono ?_; rintro e w1 ⟨rfl, hs1⟩; have hk1 := (Hb.out.same hs1).cell; have hkt1 := Hkt.out _ (Same.trans Hs.out hs1); have bg1 := (Hb.out.same hs1).lt; have Hs1 := hide (Same.trans Hs.out hs1); clear hs1)
          | (go_at_call 58; have hF := HP.out pi w1 Hs1.out; rw [Ha.out] at hF; refine hF.mono ?_; rintro e w2 ⟨rfl, hww⟩; subst hww; clear hF))
        go_ret
        exact ⟨rfl, Hs1.out⟩
    · cases hb0 : hasK p pi
      · rw [may_k2 hj]
        have hb1 : hasK p pi = false := hb0
        have ha := at3_out hb1
        rw [if_neg (by rw [hb1]; simp)]
        have hkt := fun w' (h : Same w w') => (H.out.same h).blk.cell
        generalize p.length = a at *
        generalize s.length = b at *
        unfold cgV bx at *
        have Hkt := hide hkt
        have Ha := hide ha
        clear hb0 hb1 hkt ha hj
        go_enter Tryz.func57, Tryz.ntmps57
        go_wp2_with (first
          | (go_at_call 93; refine (HJ.out _).mono ?_; rintro e w1 ⟨rfl, hs1⟩; have hk1 := (Hb.out.same hs1).cell; have hkt1 := Hkt.out _ (Same.trans Hs.out hs1); have bg1 := (Hb.out.same hs1).lt; have Hs1 := hide (Same.trans Hs.out hs1); clear hs1)
          | (go_at_call 58; have hF := HP.out pi w1 Hs1.out; rw [Ha.out] at hF; refine hF.mono ?_; rintro e w2 ⟨rfl, hww⟩; subst hww; clear hF))
        go_ret
        exact ⟨rfl, Hs1.out⟩
      · rw [may_k2 hj]
        have hb1 : hasK p pi = true := hb0
        have ha := at3_in hb1
        rw [if_pos hb1]
        generalize pos3 p pi = m at *
        have hkt := fun w' (h : Same w w') => (H.out.same h).blk.cell
        generalize p.length = a at *
        generalize s.length = b at *
        unfold cgV bx at *
        have Hkt := hide hkt
        have Ha := hide ha
        clear hb0 hb1 hkt ha hj
        go_enter Tryz.func57, Tryz.ntmps57
        go_wp2_with (first
          | (go_at_call 93; refine (HJ.out _).mono ?_; rintro e w1 ⟨rfl, hs1⟩; have hk1 := (Hb.out.same hs1).cell; have hkt1 := Hkt.out _ (Same.trans Hs.out hs1); have bg1 := (Hb.out.same hs1).lt; have Hs1 := hide (Same.trans Hs.out hs1); clear hs1)
          | (go_at_call 58; have hF := HP.out pi w1 Hs1.out; rw [Ha.out] at hF; refine hF.mono ?_; rintro e w2 ⟨rfl, hww⟩; subst hww; clear hF))
        go_ret
        exact ⟨rfl, Hs1.out⟩
    · cases hb0 : hasK s si
      · by_cases hf : most ≤ (p.length : Int) + (s.length : Int)
        · rw [may_k3 hj]
          have hb1 : hasK s si = false := hb0
          have ha := at3_out hb1
          rw [if_neg (by rw [hb1]; simp)]
          rw [if_pos hf]
          have hkt := fun w' (h : Same w w') => (H.out.same h).blk.cell
          generalize p.length = a at *
          generalize s.length = b at *
          unfold cgV bx at *
          have Hkt := hide hkt
          have Ha := hide ha
          clear hb0 hb1 hkt ha hj
          go_enter Tryz.func57, Tryz.ntmps57
          go_wp2_with (first
            | (go_at_call 93; refine (HJ.out _).mono ?_; rintro e w1 ⟨rfl, hs1⟩; have hk1 := (Hb.out.same hs1).cell; have hkt1 := Hkt.out _ (Same.trans Hs.out hs1); have bg1 := (Hb.out.same hs1).lt; have Hs1 := hide (Same.trans Hs.out hs1); clear hs1)
            | (go_at_call 59; have hF := HS.out si w1 Hs1.out; rw [Ha.out] at hF; refine hF.mono ?_; rintro e w2 ⟨rfl, hww⟩; subst hww; clear hF))
          go_quiet (fail)
          go_wp2_with fail
          go_ret
          exact ⟨rfl, Same.trans Hs1.out (Same.of_drewN _ _)⟩
        · rw [may_k3 hj]
          have hb1 : hasK s si = false := hb0
          have ha := at3_out hb1
          rw [if_neg (by rw [hb1]; simp)]
          rw [if_neg hf]
          have hkt := fun w' (h : Same w w') => (H.out.same h).blk.cell
          generalize p.length = a at *
          generalize s.length = b at *
          unfold cgV bx at *
          have Hkt := hide hkt
          have Ha := hide ha
          clear hb0 hb1 hkt ha hj
          go_enter Tryz.func57, Tryz.ntmps57
          go_wp2_with (first
            | (go_at_call 93; refine (HJ.out _).mono ?_; rintro e w1 ⟨rfl, hs1⟩; have hk1 := (Hb.out.same hs1).cell; have hkt1 := Hkt.out _ (Same.trans Hs.out hs1); have bg1 := (Hb.out.same hs1).lt; have Hs1 := hide (Same.trans Hs.out hs1); clear hs1)
            | (go_at_call 59; have hF := HS.out si w1 Hs1.out; rw [Ha.out] at hF; refine hF.mono ?_; rintro e w2 ⟨rfl, hww⟩; subst hww; clear hF))
          go_quiet (fail)
          go_wp2_with fail
          go_ret
          exact ⟨rfl, Same.trans Hs1.out (Same.of_drewN _ _)⟩
      · rw [may_k3 hj]
        have hb1 : hasK s si = true := hb0
        have ha := at3_in hb1
        rw [if_pos hb1]
        generalize pos3 s si = m at *
        have hkt := fun w' (h : Same w w') => (H.out.same h).blk.cell
        generalize p.length = a at *
        generalize s.length = b at *
        unfold cgV bx at *
        have Hkt := hide hkt
        have Ha := hide ha
        clear hb0 hb1 hkt ha hj
        go_enter Tryz.func57, Tryz.ntmps57
        go_wp2_with (first
          | (go_at_call 93; refine (HJ.out _).mono ?_; rintro e w1 ⟨rfl, hs1⟩; have hk1 := (Hb.out.same hs1).cell; have hkt1 := Hkt.out _ (Same.trans Hs.out hs1); have bg1 := (Hb.out.same hs1).lt; have Hs1 := hide (Same.trans Hs.out hs1); clear hs1)
          | (go_at_call 59; have hF := HS.out si w1 Hs1.out; rw [Ha.out] at hF; refine hF.mono ?_; rintro e w2 ⟨rfl, hww⟩; subst hww; clear hF))
        go_ret
        exact ⟨rfl, Hs1.out⟩
    · cases hb0 : hasK s si
      · rw [may_k4 hj]
        have hb1 : hasK s si = false := hb0
        have ha := at3_out hb1
        rw [if_neg (by rw [hb1]; simp)]
        have hkt := fun w' (h : Same w w') => (H.out.same h).blk.cell
        generalize p.length = a at *
        generalize s.length = b at *
        unfold cgV bx at *
        have Hkt := hide hkt
        have Ha := hide ha
        clear hb0 hb1 hkt ha hj
        go_enter Tryz.func57, Tryz.ntmps57
        go_wp2_with (first
          | (go_at_call 93; refine (HJ.out _).mono ?_; rintro e w1 ⟨rfl, hs1⟩; have hk1 := (Hb.out.same hs1).cell; have hkt1 := Hkt.out _ (Same.trans Hs.out hs1); have bg1 := (Hb.out.same hs1).lt; have Hs1 := hide (Same.trans Hs.out hs1); clear hs1)
          | (go_at_call 59; have hF := HS.out si w1 Hs1.out; rw [Ha.out] at hF; refine hF.mono ?_; rintro e w2 ⟨rfl, hww⟩; subst hww; clear hF))
        go_ret
        exact ⟨rfl, Hs1.out⟩
      · rw [may_k4 hj]
        have hb1 : hasK s si = true := hb0
        have ha := at3_in hb1
        rw [if_pos hb1]
        generalize pos3 s si = m at *
        have hkt := fun w' (h : Same w w') => (H.out.same h).blk.cell
        generalize p.length = a at *
        generalize s.length = b at *
        unfold cgV bx at *
        have Hkt := hide hkt
        have Ha := hide ha
        clear hb0 hb1 hkt ha hj
        go_enter Tryz.func57, Tryz.ntmps57
        go_wp2_with (first
          | (go_at_call 93; refine (HJ.out _).mono ?_; rintro e w1 ⟨rfl, hs1⟩; have hk1 := (Hb.out.same hs1).cell; have hkt1 := Hkt.out _ (Same.trans Hs.out hs1); have bg1 := (Hb.out.same hs1).lt; have Hs1 := hide (Same.trans Hs.out hs1); clear hs1)
          | (go_at_call 59; have hF := HS.out si w1 Hs1.out; rw [Ha.out] at hF; refine hF.mono ?_; rintro e w2 ⟨rfl, hww⟩; subst hww; clear hF))
        go_ret
        exact ⟨rfl, Hs1.out⟩
  · have hm : mayE p s most c = judgeE c := by unfold mayE; rw [if_neg hj]
    rw [hm]
    generalize judgeE c = j at *
    obtain ⟨k, ⟨pi, px, py⟩, ⟨si, lo, hi⟩⟩ := c
    unfold cgV bx at *
    clear hm
    go_enter Tryz.func57, Tryz.ntmps57
    go_wp2_with (go_at_call 93; refine (HJ.out _).mono ?_; rintro e w1 ⟨rfl, hs1⟩; have Hs1 := hide (Same.trans Hs.out hs1); clear hs1)
    go_ret
    exact ⟨rfl, Hs1.out⟩
end Go.Proofs.YtenkdjfikppkdaaGreatDoor
