/-
  The document's Same: whether two lists of bytes are one. Conditions: both are read as lists, lengths are below 2^20.
-/
import Derived.Test.YtdaejdnomlodpaaFrA
namespace Go.Proofs.Ytdaejdnomlodpaa
open Go.RowKit Go.Al Go.Al.Fr
set_option linter.unusedVariables false

def sameB (ls ms : List (List UInt8)) : Bool := decide (ls = ms)
theorem sameB_len {ls ms : List (List UInt8)} (h : ls.length ≠ ms.length) : sameB ls ms = false := by
  simp only [sameB, decide_eq_false_iff_not]
  intro e; exact h (by rw [e])

theorem take_succ_eq {ls ms : List (List UInt8)} {i : Nat} (h1 : i < ls.length) (h2 : i < ms.length) (ht : ls.take i = ms.take i) (he : ls[i] = ms[i]) : ls.take (i + 1) = ms.take (i + 1) := by
  rw [List.take_succ_eq_append_getElem h1, List.take_succ_eq_append_getElem h2, ht, he]

set_option maxRecDepth 100000 in
set_option maxHeartbeats 1000000 in
theorem Same_any (B : Nat) (e5 : TypeId) (A A' : Option Addr) (n n' c c' : Nat) (xs ys : List Value) (ls ms : List (List UInt8)) (w : World) (hr : Rd w A xs) (hx : Rows2 B e5 w xs (ls.map bs)) (hn : ls.length = n) (hr' : Rd w A' ys) (hy : Rows2 B e5 w ys (ms.map bs)) (hn' : ms.length = n')
    (hb : n ≤ 1048576) (hb' : n' ≤ 1048576) :
    Calls Try.prog 12 #[.slice A n c, .slice A' n' c'] w fun e w' => e = .returned (.bool (sameB ls ms)) ∧ Same w w' := by
  by_cases hnn : n = n'
  · subst hnn
    have Hr := hide hr
    have Hx := hide hx
    have Hn := hide hn
    have Hr' := hide hr'
    have Hy := hide hy
    have Hn' := hide hn'
    clear hr hx hn hr' hy hn'
    go_enter Try.func12, Try.ntmps12
    go_wp2_with fail
    go_loopg [5] n (fun k vi wr => ∃ i : Nat, i ≤ n ∧ k = n - i ∧ vi = .int .i64 i ∧ ls.take i = ms.take i ∧ Same w wr)
    case atStart => exact ⟨0, Nat.zero_le _, rfl, rfl, rfl, Chg.refl _ _⟩
    case round =>
      obtain ⟨i, hi, hk, rfl, htake, hsame⟩ := hrel
      have Hk := hide hk
      have Ht := hide htake
      have Hs := hide hsame
      clear hk htake hsame
      by_cases hlt : i < n
      · have hxl : i < xs.length := by rw [Hx.out.1]; simp [Hn.out]; exact hlt
        have hyl : i < ys.length := by rw [Hy.out.1]; simp [Hn'.out]; exact hlt
        have hil : i < ls.length := by rw [Hn.out]; exact hlt
        have hjl : i < ms.length := by rw [Hn'.out]; exact hlt
        obtain ⟨Ai, ci, li, hx, hl, hci, hri, _⟩ := (Hx.out.same Hs.out).at_ hxl
        obtain ⟨Aj, cj, lj, hy, hl', hcj, hrj, _⟩ := (Hy.out.same Hs.out).at_ hyl
        obtain ⟨bo, off, rfl, hcell⟩ := (Hr.out.same Hs.out).at_ hxl
        obtain ⟨bo', off', rfl, hcell'⟩ := (Hr'.out.same Hs.out).at_ hyl
        rw [List.getElem?_eq_getElem hxl] at hx
        rw [List.getElem?_eq_getElem hyl] at hy
        rw [Option.some.inj hx] at hcell
        rw [Option.some.inj hy] at hcell'
        rw [List.getElem?_map, List.getElem?_eq_getElem hil] at hl
        rw [List.getElem?_map, List.getElem?_eq_getElem hjl] at hl'
        obtain rfl := Option.some.inj hl
        obtain rfl := Option.some.inj hl'
        rw [bs_length] at hcell hcell'
        have Hse := hide (take_succ_eq hil hjl Ht.out)
        have Hff0 : ¬ ls[i] = ms[i] → sameB ls ms = false := fun h => by
          simp only [sameB, decide_eq_false_iff_not]
          intro e
          subst e
          exact h rfl
        have Hff := hide Hff0
        clear hx hy hl hl' hci hcj Hff0
        generalize ls[i] = l at *
        generalize ms[i] = m at *
        have k1 := run_bs_string (P := Try.prog) Try.underlying25 Try.underlying5 Try.underlying9 ci rfl hri
        have k2 := run_bs_string (P := Try.prog) Try.underlying25 Try.underlying5 Try.underlying9 cj rfl hrj
        clear hri hrj
        have i0 : (0 : Int) ≤ (i : Int) := by omega
        have i1 : (i : Int) < (n : Int) := by omega
        have q1 := str_toList l
        have q2 := str_toList m
        by_cases he : l = m
        · have He := hide he
          have hq : (l == m) = true := by simp [he]
          clear he
          go_wp2_with fail
          go_quiet (fail)
          go_wp2_with fail
          go_roundg (n - (i + 1))
          case measure => have := Hk.out; omega
          case rel => exact ⟨i + 1, by omega, rfl, by go_num, Hse.out He.out, Hs.out.drewN _⟩
        · have hq : (l == m) = false := by simp [he]
          have He := hide (Hff.out he)
          clear he
          go_wp2_with fail
          go_quiet (fail)
          go_wp2_with fail
          go_ret
          exact ⟨by rw [He.out]; rfl, Hs.out.drewN _⟩
      · go_wp2_with fail
        go_ret
        have e : ls = ms := by
          have := Ht.out
          rwa [List.take_of_length_le (by rw [Hn.out]; omega), List.take_of_length_le (by rw [Hn'.out]; omega)] at this
        exact ⟨by simp [sameB, e], Hs.out⟩
  · have e : sameB ls ms = false := sameB_len (by rw [hn, hn']; exact hnn)
    have h2 : ((n : Int) != (n' : Int)) = true := by simp; omega
    rw [e]
    clear hr hx hr' hy e hn hn'
    go_enter Try.func12, Try.ntmps12
    go_wp2_with fail
    go_ret
    exact ⟨rfl, Chg.refl _ _⟩
end Go.Proofs.Ytdaejdnomlodpaa
