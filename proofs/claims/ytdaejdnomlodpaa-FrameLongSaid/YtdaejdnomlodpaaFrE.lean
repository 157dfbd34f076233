/-
  The document's Wrap tells what the plain wrapFrom tells. Conditions: the rows are read as lists, lengths are below 2^20.
-/
import Derived.Test.YtdaejdnomlodpaaFrD
namespace Go.Proofs.Ytdaejdnomlodpaa
open Go.RowKit Go.Al Go.Al.Fr
set_option linter.unusedVariables false
attribute [local go_sem ↓] Go.wp_at_zero Go.wp_at_succ

theorem quo_head (n : Nat) (h : n ≤ 65535) : IntKind.i64.wrap ((n : Int) / 256) % 256 = (n : Int) / 256 := by
  have h1 : (n : Int) / 256 ≤ 255 := by omega
  have h0 : 0 ≤ (n : Int) / 256 := by omega
  rw [IntWalk.i64_in _ (by omega)]
  omega
theorem rem_head (n : Nat) : ((n : Int)).tmod 256 % 256 = (n : Int) % 256 := by
  rw [Int.tmod_eq_emod_of_nonneg (by omega)]
  omega
set_option maxRecDepth 100000 in
set_option maxHeartbeats 2000000 in
theorem refWrap_any (B : Nat) (e5 : TypeId) (A : Option Addr) (n c : Nat) (xs : List Value) (ls : List (List UInt8)) (w : World) (hr : Rd w A xs) (hx : Rows2 B e5 w xs (ls.map bs)) (hn : ls.length = n) (hn2 : n ≤ 1048576) (hl : ∀ l ∈ ls, l.length ≤ 1048576) :
    Calls Try.prog 9 #[.slice A n c] w (WrapTold w (wrapFrom [] ls)) := by
  have Hr := hide hr
  have Hx := hide hx
  have Hn := hide hn
  have Hl := hide hl
  clear hr hx hn hl
  go_enter Try.func9, Try.ntmps9
  go_wp2_with fail
  go_loopg [4, 5] n (fun k out vi wr => WrapRel w ls n k out vi wr)
  case atStart => exact ⟨0, [], _, 0, Nat.zero_le _, rfl, rfl, rfl, own_lit w w.heap.size _ 1 #[] 0 (Nat.le_refl _) (by decide) rfl, (Chg.refl _ _).alloc _, Nat.zero_le _, rfl⟩
  case round =>
    obtain ⟨i, acc, A0, c0, hi, hk, rfl, rfl, hown, hsame, hacc, heq⟩ := hrel
    have Hk := hide hk
    have Hown := hide hown
    have Hsame := hide hsame
    have Heq := hide heq
    have hsz := hsame.size
    clear hk hown hsame heq
    by_cases hlt : i < n
    · have hxl : i < xs.length := by rw [Hx.out.1]; simp [Hn.out]; exact hlt
      obtain ⟨Ai, ci, li, hx, hl, hci, hri, _⟩ := Hx.out.at_ hxl
      obtain ⟨bo, off, rfl, hcw⟩ := Hr.out.at_ hxl
      rw [List.getElem?_eq_getElem hxl] at hx
      rw [Option.some.inj hx] at hcw
      have hil : i < ls.length := by rw [Hn.out]; exact hlt
      rw [List.getElem?_map, List.getElem?_eq_getElem hil] at hl
      obtain rfl := Option.some.inj hl
      have hb := Hl.out ls[i] (List.getElem_mem hil)
      have hg : ls[i]? = some ls[i] := List.getElem?_eq_getElem hil
      rw [bs_length] at hcw hci
      have Hg := hide hg
      have Hri := hide hri
      have hbo : bo < w.heap.size := World.block_lt_of_cell? w _ hcw
      have hcell : wr.cell? ⟨bo, off + i, none⟩ = _ := (Hsame.out.cell (p := ⟨bo, off + i, none⟩) hbo (fun h => h)).trans hcw
      have Hcw := hide hcw
      clear hx hl hg hri hcw
      generalize ls[i] = b at *
      have i0 : (0 : Int) ≤ (i : Int) := by omega
      have i1 : (i : Int) < (n : Int) := by omega
      by_cases hbig : 65535 < b.length
      · go_wp2_with fail
        go_ret2
        exact ⟨((Hsame.out).alloc _), .inr ⟨_, _, by rw [Heq.out]; exact wrapFrom_bad Hg.out (.inl hbig), rfl⟩⟩
      · go_wp2_with fail
        go_region_held3 (fun w' => w'.cell? ⟨bo, off + i, none⟩ = some (.slice Ai b.length ci)) (first | go_keep | exact hk5 | exact hk6)
          (first
           | (refine step_appS (by rfl) (.tmp 20) (.tmp 35) _ (by rfl) slB (by rfl) (base := w.heap.size) ((Hown.out.alloc _).drew) (by rfl) (by rfl) ((rd_two wr _ _ _).drew) (one_two _ _ _ _) (by omega) (by omega) (by simp; omega) ?_
              intro A5 c5 w5 hown5 hchg5 hat5
              have hs5 : Same w w5 := Hsame.out.app1 Hown.out (Nat.le_refl _) (Chg.undrew hchg5)
              have hk5 : w5.cell? ⟨bo, off + i, none⟩ = some (.slice Ai b.length ci) := (hs5.cell (p := ⟨bo, off + i, none⟩) hbo (fun h => h)).trans Hcw.out
              have hsz5 := hs5.size
              have Hown5 := hide hown5
              have Hs5 := hide hs5
              clear hown5 hchg5 hat5 hs5)
           | (refine step_appS (by rfl) (.tmp 36) (.tmp 40) _ (by rfl) slB (by rfl) (base := w.heap.size) (by exact Hown5.out) (by rfl) (by simp) (Hri.out.same Hs5.out) (one_bs b) (by omega) (by omega) (by exact hsz5) ?_
              intro A6 c6 w6 hown6 hchg6 hat6
              have hs6 := Hs5.out.app Hown5.out (Nat.le_refl _) hchg6
              have hk6 : w6.cell? ⟨bo, off + i, none⟩ = some (.slice Ai b.length ci) := (hs6.cell (p := ⟨bo, off + i, none⟩) hbo (fun h => h)).trans Hcw.out
              have Hown6 := hide hown6
              have Hs6 := hide hs6
              clear hown6 hchg6 hat6 hs6))
        have hl6 : (acc ++ head b.length ++ b).length = acc.length + 2 + b.length := by simp [head_length]; omega
        have hown6 : w6.ownsRow w.heap.size 5 1 (.slice A6 (acc ++ head b.length ++ b).length c6) (acc ++ head b.length ++ b).length (bs (acc ++ head b.length ++ b)) := by
          rw [hl6, bs_append, bs_append, bs_head _ (by omega)]
          have := Hown6.out
          simp [IntKind.wrap_u8] at this
          rw [quo_head _ (by omega), rem_head] at this
          simpa using this
        have Hown := hide hown6
        have Hl6 := hide hl6
        clear hown6 hl6
        by_cases hfull : 65536 < acc.length + 2 + b.length
        · go_wp2_with fail
          go_ret2
          exact ⟨((Hs6.out).alloc _), .inr ⟨_, _, by rw [Heq.out]; exact wrapFrom_bad Hg.out (.inr hfull), rfl⟩⟩
        · go_wp2_with fail
          go_roundg (n - (i + 1))
          case measure => have := Hk.out; omega
          case rel => exact ⟨i + 1, acc ++ head b.length ++ b, A6, c6, by omega, rfl, by go_num, by rw [Hl6.out], Hown.out, Hs6.out, by rw [Hl6.out]; omega, by rw [Heq.out]; exact wrapFrom_step Hg.out (by omega) (by omega)⟩
    · go_wp2_with fail
      go_ret2
      have e : ls.drop i = [] := List.drop_of_length_le (by rw [Hn.out]; omega)
      have h := Heq.out
      rw [e, wrapFrom] at h
      exact ⟨Hsame.out, .inl ⟨acc, A0, c0, h, rfl, Hown.out⟩⟩
end Go.Proofs.Ytdaejdnomlodpaa
