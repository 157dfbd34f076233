/-
  The document's set: Same, at the very points and intervals. Condition: at most 65535 of each.
-/
import Derived.Test.YtopkdiiigidfdaaGreatTcA
namespace Go.Proofs.YtopkdiiigidfdaaGreat
open Go.RowKit Go.Al
set_option linter.unusedVariables false

set_option maxRecDepth 100000 in
set_option maxHeartbeats 2000000 in
/-- what is just what the set has is told so -/
theorem sameR_is {g cp cs c1 c2 : Nat} {AP AS A1 A2 : Option Addr} {most : Int} {p s : List P3} (w : World) (h : SetR w g AP cp AS cs most p s) (h1 : Row3 w A1 p.length c1 p) (h2 : Row3 w A2 s.length c2 s) (hp : p.length ≤ 65535) (hs : s.length ≤ 65535) :
    Calls Tryz.prog 25 #[.pointer (some ⟨g, 0, none⟩), .slice A1 p.length c1, .slice A2 s.length c2] w fun e w' => e = .returned (.bool true) ∧ Same w w' := by
  have Hrp := hide h.rp
  have Hrs := hide h.rs
  have H1 := hide h1
  have H2 := hide h2
  have Hkt := hide (fun w' (hs : Same w w') => (h.same hs).blk.cell)
  have hkt := h.blk.cell
  obtain ⟨n, hn⟩ : ∃ n, p.length = n := ⟨_, rfl⟩
  obtain ⟨m, hm⟩ : ∃ m, s.length = m := ⟨_, rfl⟩
  rw [hn, hm] at hkt ⊢
  rw [hn, hm] at Hkt
  have Hn := hide hn
  have Hm := hide hm
  have hn6 : n ≤ 65535 := by omega
  have hm6 : m ≤ 65535 := by omega
  clear h h1 h2 hp hs hn hm
  go_enter Tryz.func25, Tryz.ntmps25
  go_wp2_with fail
  go_loopg [7] n (fun k vi wr => ∃ i : Nat, i ≤ n ∧ k = n - i ∧ vi = .int .i64 i ∧ Same w wr)
  case atStart => exact ⟨0, Nat.zero_le _, rfl, rfl, Chg.refl _ _⟩
  case round =>
    obtain ⟨i, hi, hkk, rfl, hsm⟩ := hrel
    have Hk := hide hkk
    have Hsm := hide hsm
    have hktr := Hkt.out _ hsm
    clear hkk
    by_cases hlt : i < n
    · have hil : i < p.length := by rw [Hn.out]; exact hlt
      obtain ⟨b, off, rfl, hbl, hc0, hc1, hc2⟩ := (H1.out.same hsm).at_ hil
      obtain ⟨b2, off2, rfl, hbl2, hd0, hd1, hd2⟩ := (Hrp.out.same hsm).at_ hil
      obtain ⟨y1, y2, y3, hy⟩ : ∃ y1 y2 y3, p[i] = (y1, y2, y3) := ⟨_, _, _, rfl⟩
      rw [hy] at hc0 hc1 hc2 hd0 hd1 hd2
      simp only at hc0 hc1 hc2 hd0 hd1 hd2
      clear hsm hy hkt
      go_wp2_with fail
      go_quiet (fail)
      go_wp2_with fail
      go_roundg (n - (i + 1))
      case measure => have := Hk.out; omega
      case rel => exact ⟨i + 1, by omega, rfl, by go_num, Hsm.out.trans (Same.of_drewN _ _)⟩
    · clear hsm hkt
      go_wp2_with fail
      go_loopg [8] m (fun k vi wr' => ∃ j : Nat, j ≤ m ∧ k = m - j ∧ vi = .int .i64 j ∧ Same w wr')
      case atStart => exact ⟨0, Nat.zero_le _, rfl, rfl, Hsm.out⟩
      case round =>
        obtain ⟨j, hj, hkk, rfl, hsm⟩ := hrel
        have Hk2 := hide hkk
        have Hsm2 := hide hsm
        have hktr2 := Hkt.out _ hsm
        clear hkk hktr
        by_cases hlt2 : j < m
        · have hjl : j < s.length := by rw [Hm.out]; exact hlt2
          obtain ⟨b, off, rfl, hbl, hc0, hc1, hc2⟩ := (H2.out.same hsm).at_ hjl
          obtain ⟨b2, off2, rfl, hbl2, hd0, hd1, hd2⟩ := (Hrs.out.same hsm).at_ hjl
          obtain ⟨y1, y2, y3, hy⟩ : ∃ y1 y2 y3, s[j] = (y1, y2, y3) := ⟨_, _, _, rfl⟩
          rw [hy] at hc0 hc1 hc2 hd0 hd1 hd2
          simp only at hc0 hc1 hc2 hd0 hd1 hd2
          clear hsm hy
          go_wp2_with fail
          go_quiet (fail)
          go_wp2_with fail
          go_roundg (m - (j + 1))
          case measure => have := Hk2.out; omega
          case rel => exact ⟨j + 1, by omega, rfl, by go_num, Hsm2.out.trans (Same.of_drewN _ _)⟩
        · clear hsm
          go_wp2_with fail
          go_ret
          exact ⟨rfl, Hsm2.out⟩
end Go.Proofs.YtopkdiiigidfdaaGreat
