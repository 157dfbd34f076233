/-
  Operations that came in, as a reading tells them. No conditions.
-/
import Derived.Test.YtenkdjfikppkdaaGreatDoorLnA
import Derived.Test.YtenkdjfikppkdaaGreatDoorCgIn
namespace Go.Proofs.YtenkdjfikppkdaaGreatDoor
open Go.Al Go.RowKit Go.ChangeShapes Go.WideShapes
set_option linter.unusedVariables false
section
variable {H : Type} {enc : TypeId × Value → H} {w : World} {base : Nat} {spare : Nat → Bool} {held : Bool} {n : Nat} {cs : List Value} {x : DataW H × List MemPlace}
set_option maxRecDepth 100000 in
theorem trod_box (h : DataW.trod enc Tryz.prog w base spare held n 32 cs = some x) : ∃ a b c d : Int, cs = [.int .i64 a, .int .i64 b, .int .i64 c, .int .i64 d] := by
  obtain ⟨xs, m, _, _, hl, hlen, hf⟩ := DataW.trod_struct Tryz.underlying32 h
  rw [show Tryz.prog.cellsOf 32 = 4 by kernel_rfl] at hl
  match cs, hl with
  | [c0, c1, c2, c3], _ =>
    match xs, hlen with
    | [y0, y1, y2, y3], _ =>
      have g0 := hf 0 _ rfl
      have g1 := hf 1 _ rfl
      have g2 := hf 2 _ rfl
      have g3 := hf 3 _ rfl
      simp [show Tryz.prog.cellsOf 3 = 1 by kernel_rfl] at g0
      simp [show Tryz.prog.cellsOf 3 = 1 by kernel_rfl] at g1
      simp [show Tryz.prog.cellsOf 3 = 1 by kernel_rfl] at g2
      simp [show Tryz.prog.cellsOf 3 = 1 by kernel_rfl] at g3
      obtain ⟨a, e0, _⟩ := trod_i1 Tryz.underlying3 g0
      obtain ⟨b, e1, _⟩ := trod_i1 Tryz.underlying3 g1
      obtain ⟨c, e2, _⟩ := trod_i1 Tryz.underlying3 g2
      obtain ⟨d, e3, _⟩ := trod_i1 Tryz.underlying3 g3
      simp at e0 e1 e2 e3
      subst e0
      subst e1
      subst e2
      subst e3
      exact ⟨a, b, c, d, rfl⟩
set_option maxRecDepth 100000 in
theorem trod_win (h : DataW.trod enc Tryz.prog w base spare held n 34 cs = some x) : ∃ a b c : Int, cs = [.int .i64 a, .int .i64 b, .int .i64 c] := by
  obtain ⟨xs, m, _, _, hl, hlen, hf⟩ := DataW.trod_struct Tryz.underlying34 h
  rw [show Tryz.prog.cellsOf 34 = 3 by kernel_rfl] at hl
  match cs, hl with
  | [c0, c1, c2], _ =>
    match xs, hlen with
    | [y0, y1, y2], _ =>
      have g0 := hf 0 _ rfl
      have g1 := hf 1 _ rfl
      have g2 := hf 2 _ rfl
      simp [show Tryz.prog.cellsOf 3 = 1 by kernel_rfl] at g0
      simp [show Tryz.prog.cellsOf 3 = 1 by kernel_rfl] at g1
      simp [show Tryz.prog.cellsOf 3 = 1 by kernel_rfl] at g2
      obtain ⟨a, e0, _⟩ := trod_i1 Tryz.underlying3 g0
      obtain ⟨b, e1, _⟩ := trod_i1 Tryz.underlying3 g1
      obtain ⟨c, e2, _⟩ := trod_i1 Tryz.underlying3 g2
      simp at e0 e1 e2
      subst e0
      subst e1
      subst e2
      exact ⟨a, b, c, rfl⟩
set_option maxRecDepth 100000 in
theorem trod_query (h : DataW.trod enc Tryz.prog w base spare held n 36 cs = some x) : ∃ q : Qy, cs = qL q := by
  obtain ⟨xs, m, _, _, hl, hlen, hf⟩ := DataW.trod_struct Tryz.underlying36 h
  rw [show Tryz.prog.cellsOf 36 = 10 by kernel_rfl] at hl
  match cs, hl with
  | [c0, c1, c2, c3, c4, c5, c6, c7, c8, c9], _ =>
    match xs, hlen with
    | [y0, y1, y2, y3, y4], _ =>
      have g0 := hf 0 _ rfl
      have g1 := hf 1 _ rfl
      have g2 := hf 2 _ rfl
      have g3 := hf 3 _ rfl
      have g4 := hf 4 _ rfl
      simp [show Tryz.prog.cellsOf 3 = 1 by kernel_rfl] at g0
      simp [show Tryz.prog.cellsOf 32 = 4 by kernel_rfl] at g1
      simp [show Tryz.prog.cellsOf 34 = 3 by kernel_rfl] at g2
      simp [show Tryz.prog.cellsOf 3 = 1 by kernel_rfl] at g3
      simp [show Tryz.prog.cellsOf 3 = 1 by kernel_rfl] at g4
      obtain ⟨k, e0, _⟩ := trod_i1 Tryz.underlying3 g0
      obtain ⟨a, b, c, d, e1⟩ := trod_box g1
      obtain ⟨e, f, g, e2⟩ := trod_win g2
      obtain ⟨u, e3, _⟩ := trod_i1 Tryz.underlying3 g3
      obtain ⟨v, e4, _⟩ := trod_i1 Tryz.underlying3 g4
      simp at e0 e1 e2 e3 e4
      subst e0
      obtain ⟨rfl, rfl, rfl, rfl⟩ := e1
      obtain ⟨rfl, rfl, rfl⟩ := e2
      subst e3
      subst e4
      exact ⟨⟨k, a, b, c, d, e, f, g, u, v⟩, rfl⟩
set_option maxRecDepth 100000 in
theorem trod_req (h : DataW.trod enc Tryz.prog w base spare held n 38 cs = some x) : ∃ r : Rq, cs = rqL r ∧ WfCg r.c := by
  obtain ⟨xs, m, _, _, hl, hlen, hf⟩ := DataW.trod_struct Tryz.underlying38 h
  rw [show Tryz.prog.cellsOf 38 = 18 by kernel_rfl] at hl
  match cs, hl with
  | [c0, c1, c2, c3, c4, c5, c6, c7, c8, c9, c10, c11, c12, c13, c14, c15, c16, c17], _ =>
    match xs, hlen with
    | [y0, y1, y2], _ =>
      have g0 := hf 0 _ rfl
      have g1 := hf 1 _ rfl
      have g2 := hf 2 _ rfl
      simp [show Tryz.prog.cellsOf 3 = 1 by kernel_rfl] at g0
      simp [show Tryz.prog.cellsOf 30 = 7 by kernel_rfl] at g1
      simp [show Tryz.prog.cellsOf 36 = 10 by kernel_rfl] at g2
      obtain ⟨k, e0, _⟩ := trod_i1 Tryz.underlying3 g0
      obtain ⟨c, e1, wc⟩ := trod_change g1
      obtain ⟨q, e2⟩ := trod_query g2
      unfold qL at e2
      simp at e0 e1 e2
      subst e0
      obtain ⟨rfl, rfl, rfl, rfl, rfl, rfl, rfl⟩ := e1
      obtain ⟨rfl, rfl, rfl, rfl, rfl, rfl, rfl, rfl, rfl, rfl⟩ := e2
      exact ⟨⟨k, c, q⟩, rfl, wc⟩
theorem trod_list (h : DataW.trod enc Tryz.prog w base spare held n 40 cs = some x) : ∃ (A : Option Addr) (c : Nat) (l : List Int), cs = [.slice A l.length c] ∧ Rd w A (is l) ∧ l.length ≤ c ∧ c ≤ maxLen := by
  rcases open_ints Tryz.underlying40 Tryz.underlying3 (by kernel_rfl) h with ⟨hcs, _⟩ | ⟨a, len, cap, zs, hcs, _, hl, hm, hz, _, hcell, hwz⟩
  · exact ⟨none, 0, [], by simpa using hcs, Rd.nil _ _, Nat.le_refl _, Nat.zero_le _⟩
  · have hzl : len ≤ zs.length := by
      rw [hz]; split <;> omega
    refine ⟨some a, cap, zs.take len, by rw [List.length_take, Nat.min_eq_left hzl]; simpa using hcs, ?_, by rw [List.length_take, Nat.min_eq_left hzl]; exact hl, hm⟩
    by_cases h0 : len = 0
    · subst h0; simpa [is] using Rd.nil w (some a)
    · have hc0 := hcell 0 (by omega)
      have hs := World.cell?_spot hc0
      obtain ⟨xb, xo, xs⟩ := a
      have hs' : xs = none := by simpa [Addr.add] using hs
      subst hs'
      intro _
      refine ⟨xb, xo, rfl, fun i v hv => ?_⟩
      have hi : i < len := by
        have := (List.getElem?_eq_some_iff.1 hv).1
        simpa [List.length_take, Nat.min_eq_left hzl] using this
      have := hcell i (by omega)
      rw [add_lit] at this
      rw [this, ← hv]
      simp [is, hi, List.getD_eq_getElem?_getD, show i < zs.length by omega]
set_option maxRecDepth 100000 in
theorem trod_ans (h : DataW.trod enc Tryz.prog w base spare held n 42 cs = some x) : ∃ (k : Int) (A : Option Addr) (c : Nat) (l : List Int), cs = [.int .i64 k, .slice A l.length c] ∧ Rd w A (is l) ∧ l.length ≤ c ∧ c ≤ maxLen := by
  obtain ⟨xs, m, _, _, hl, hlen, hf⟩ := DataW.trod_struct Tryz.underlying42 h
  rw [show Tryz.prog.cellsOf 42 = 2 by kernel_rfl] at hl
  match cs, hl with
  | [c0, c1], _ =>
    match xs, hlen with
    | [y0, y1], _ =>
      have g0 := hf 0 _ rfl
      have g1 := hf 1 _ rfl
      simp [show Tryz.prog.cellsOf 3 = 1 by kernel_rfl] at g0
      simp [show Tryz.prog.cellsOf 40 = 1 by kernel_rfl] at g1
      obtain ⟨k, e0, _⟩ := trod_i1 Tryz.underlying3 g0
      obtain ⟨A, c, l, e1, hr, h1, h2⟩ := trod_list g1
      simp at e0 e1
      subst e0
      subst e1
      exact ⟨k, A, c, l, rfl, hr, h1, h2⟩
set_option maxRecDepth 100000 in
theorem trod_rep (h : DataW.trod enc Tryz.prog w base spare held n 44 cs = some x) : ∃ t : Rp, cs = rpL t ∧ RpAt w t := by
  obtain ⟨xs, m, _, _, hl, hlen, hf⟩ := DataW.trod_struct Tryz.underlying44 h
  rw [show Tryz.prog.cellsOf 44 = 5 by kernel_rfl] at hl
  match cs, hl with
  | [c0, c1, c2, c3, c4], _ =>
    match xs, hlen with
    | [y0, y1, y2, y3], _ =>
      have g0 := hf 0 _ rfl
      have g1 := hf 1 _ rfl
      have g2 := hf 2 _ rfl
      have g3 := hf 3 _ rfl
      simp [show Tryz.prog.cellsOf 39 = 1 by kernel_rfl] at g0
      simp [show Tryz.prog.cellsOf 4 = 1 by kernel_rfl] at g1
      simp [show Tryz.prog.cellsOf 4 = 1 by kernel_rfl] at g2
      simp [show Tryz.prog.cellsOf 42 = 2 by kernel_rfl] at g3
      obtain ⟨e, e0, _⟩ := trod_i1 Tryz.underlying39 g0
      obtain ⟨a, e1, _⟩ := DataW.trod_bool Tryz.underlying4 g1
      obtain ⟨b, e2, _⟩ := DataW.trod_bool Tryz.underlying4 g2
      obtain ⟨k, A, c, l, e3, hr, h1, h2⟩ := trod_ans g3
      simp at e0 e1 e2 e3
      subst e0
      subst e1
      subst e2
      obtain ⟨rfl, rfl⟩ := e3
      exact ⟨⟨e, a, b, k, A, c, l⟩, rfl, hr, h1, h2⟩
set_option maxRecDepth 100000 in
theorem trod_deed (h : DataW.trod enc Tryz.prog w base spare held n 116 cs = some x) : ∃ d : Dd, cs = ddL d ∧ WfCg d.r.c ∧ RpAt w d.t := by
  obtain ⟨xs, m, _, _, hl, hlen, hf⟩ := DataW.trod_struct Tryz.underlying116 h
  rw [show Tryz.prog.cellsOf 116 = 29 by kernel_rfl] at hl
  obtain ⟨c0, c1, c2, c3, c4, c5, R, rfl⟩ : ∃ c0 c1 c2 c3 c4 c5 R, cs = c0 :: c1 :: c2 :: c3 :: c4 :: c5 :: R := by
    match cs, hl with
    | c0 :: c1 :: c2 :: c3 :: c4 :: c5 :: R, _ => exact ⟨c0, c1, c2, c3, c4, c5, R, rfl⟩
  have hR : R.length = 23 := by simpa using hl
  match xs, hlen with
  | [y0, y1, y2, y3, y4, y5, y6, y7], _ =>
    have g0 := hf 0 _ rfl
    have g1 := hf 1 _ rfl
    have g2 := hf 2 _ rfl
    have g3 := hf 3 _ rfl
    have g4 := hf 4 _ rfl
    have g5 := hf 5 _ rfl
    have g6 := hf 6 _ rfl
    have g7 := hf 7 _ rfl
    simp [show Tryz.prog.cellsOf 3 = 1 by kernel_rfl] at g0 g1 g2 g3 g4 g5
    simp [show Tryz.prog.cellsOf 38 = 18 by kernel_rfl] at g6
    simp [show Tryz.prog.cellsOf 44 = 5 by kernel_rfl] at g7
    obtain ⟨iv, e0, _⟩ := trod_i1 Tryz.underlying3 g0
    obtain ⟨tk, e1, _⟩ := trod_i1 Tryz.underlying3 g1
    obtain ⟨rp, e2, _⟩ := trod_i1 Tryz.underlying3 g2
    obtain ⟨ab, e3, _⟩ := trod_i1 Tryz.underlying3 g3
    obtain ⟨rf, e4, _⟩ := trod_i1 Tryz.underlying3 g4
    obtain ⟨ss, e5, _⟩ := trod_i1 Tryz.underlying3 g5
    obtain ⟨r, e6, wc⟩ := trod_req g6
    obtain ⟨t, e7, ht⟩ := trod_rep g7
    simp at e0 e1 e2 e3 e4 e5
    subst e0 e1 e2 e3 e4 e5
    refine ⟨⟨iv, tk, rp, ab, rf, ss, r, t⟩, ?_, wc, ht⟩
    have e8 : R = rqL r ++ rpL t := by
      rw [← e6]
      have h7 : R.drop 18 = rpL t := by
        rw [← e7]
        first | rfl | (rw [List.take_of_length_le (by simp; omega)])
      rw [← h7, List.take_append_drop]
    rw [e8]
    rfl
end
end Go.Proofs.YtenkdjfikppkdaaGreatDoor
