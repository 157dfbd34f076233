/-
  Events that came in, as a reading tells them. No conditions.
-/
import Derived.Test.YtenkdjfikppkdaaGreatDoorHyG
import Derived.Test.YtenkdjfikppkdaaGreatDoorDdIn
namespace Go.Proofs.YtenkdjfikppkdaaGreatDoor
open Go.Al Go.RowKit Go.ChangeShapes Go.WideShapes
set_option linter.unusedVariables false
theorem inI_wf {n : Int} (h : (Lit.int .i64 n).wf = true) : inI n := by
  simp [Lit.wf, IntKind.min, IntKind.max, IntKind.signed, IntKind.bits] at h
  unfold inI
  omega
section
variable {H : Type} {enc : TypeId × Value → H} {w : World} {base : Nat} {spare : Nat → Bool} {held : Bool} {n : Nat} {cs : List Value} {x : DataW H × List MemPlace}
set_option maxRecDepth 100000 in
theorem trod_ansW (h : DataW.trod enc Tryz.prog w base spare held n 42 cs = some x) : ∃ (k : Int) (A : Option Addr) (c : Nat) (l : List Int), cs = [.int .i64 k, .slice A l.length c] ∧ Rd w A (is l) ∧ l.length ≤ c ∧ c ≤ maxLen ∧ inI k := by
  obtain ⟨xs, m, _, _, hl, hlen, hf⟩ := DataW.trod_struct Tryz.underlying42 h
  rw [show Tryz.prog.cellsOf 42 = 2 by kernel_rfl] at hl
  match cs, hl with
  | [c0, c1], _ =>
    match xs, hlen with
    | [y0, y1], _ =>
      have g0 := hf 0 _ rfl
      have g1 := hf 1 _ rfl
      simp [show Tryz.prog.cellsOf 3 = 1 by kernel_rfl] at g0
      simp [show Tryz.prog.cellsOf 40 = 1 by kernel_rfl] at g1
      obtain ⟨k, e0, wk⟩ := trod_i1 Tryz.underlying3 g0
      obtain ⟨A, c, l, e1, hr, h1, h2⟩ := trod_list g1
      simp at e0 e1
      subst e0
      subst e1
      exact ⟨k, A, c, l, rfl, hr, h1, h2, inI_wf wk⟩
set_option maxRecDepth 100000 in
theorem trod_repW (h : DataW.trod enc Tryz.prog w base spare held n 44 cs = some x) : ∃ t : Rp, cs = rpL t ∧ RpAt w t ∧ inI t.e ∧ inI t.n := by
  obtain ⟨xs, m, _, _, hl, hlen, hf⟩ := DataW.trod_struct Tryz.underlying44 h
  rw [show Tryz.prog.cellsOf 44 = 5 by kernel_rfl] at hl
  match cs, hl with
  | [c0, c1, c2, c3, c4], _ =>
    match xs, hlen with
    | [y0, y1, y2, y3], _ =>
      have g0 := hf 0 _ rfl
      have g1 := hf 1 _ rfl
      have g2 := hf 2 _ rfl
      have g3 := hf 3 _ rfl
      simp [show Tryz.prog.cellsOf 39 = 1 by kernel_rfl] at g0
      simp [show Tryz.prog.cellsOf 4 = 1 by kernel_rfl] at g1
      simp [show Tryz.prog.cellsOf 4 = 1 by kernel_rfl] at g2
      simp [show Tryz.prog.cellsOf 42 = 2 by kernel_rfl] at g3
      obtain ⟨e, e0, we⟩ := trod_i1 Tryz.underlying39 g0
      obtain ⟨a, e1, _⟩ := DataW.trod_bool Tryz.underlying4 g1
      obtain ⟨b, e2, _⟩ := DataW.trod_bool Tryz.underlying4 g2
      obtain ⟨k, A, c, l, e3, hr, h1, h2, wk⟩ := trod_ansW g3
      simp at e0 e1 e2 e3
      subst e0
      subst e1
      subst e2
      obtain ⟨rfl, rfl⟩ := e3
      exact ⟨⟨e, a, b, k, A, c, l⟩, rfl, ⟨hr, h1, h2⟩, inI_wf we, wk⟩
set_option maxRecDepth 100000 in
theorem trod_event (h : DataW.trod enc Tryz.prog w base spare held n 46 cs = some x) : ∃ d : Ev, cs = evL d ∧ WfCg d.r.c ∧ RpAt w d.t ∧ WfEv d := by
  obtain ⟨xs, m, _, _, hl, hlen, hf⟩ := DataW.trod_struct Tryz.underlying46 h
  rw [show Tryz.prog.cellsOf 46 = 27 by kernel_rfl] at hl
  obtain ⟨c0, c1, c2, c3, R, rfl⟩ : ∃ c0 c1 c2 c3 R, cs = c0 :: c1 :: c2 :: c3 :: R := by
    match cs, hl with
    | c0 :: c1 :: c2 :: c3 :: R, _ => exact ⟨c0, c1, c2, c3, R, rfl⟩
  have hR : R.length = 23 := by simpa using hl
  match xs, hlen with
  | [y0, y1, y2, y3, y4, y5], _ =>
    have g0 := hf 0 _ rfl
    have g1 := hf 1 _ rfl
    have g2 := hf 2 _ rfl
    have g3 := hf 3 _ rfl
    have g4 := hf 4 _ rfl
    have g5 := hf 5 _ rfl
    simp [show Tryz.prog.cellsOf 3 = 1 by kernel_rfl] at g0 g1 g2 g3
    simp [show Tryz.prog.cellsOf 38 = 18 by kernel_rfl] at g4
    simp [show Tryz.prog.cellsOf 44 = 5 by kernel_rfl] at g5
    obtain ⟨k, e0, _⟩ := trod_i1 Tryz.underlying3 g0
    obtain ⟨st, e1, w1⟩ := trod_i1 Tryz.underlying3 g1
    obtain ⟨ss, e2, w2⟩ := trod_i1 Tryz.underlying3 g2
    obtain ⟨op, e3, w3⟩ := trod_i1 Tryz.underlying3 g3
    obtain ⟨r, e6, wc⟩ := trod_req g4
    obtain ⟨t, e7, ht, we, wn⟩ := trod_repW g5
    simp at e0 e1 e2 e3
    subst e0 e1 e2 e3
    refine ⟨⟨k, st, ss, op, r, t⟩, ?_, wc, ht, ⟨inI_wf w1, inI_wf w2, inI_wf w3, we, wn⟩⟩
    have e8 : R = rqL r ++ rpL t := by
      rw [← e6]
      have h7 : R.drop 18 = rpL t := by
        rw [← e7]
        first | rfl | (rw [List.take_of_length_le (by simp; omega)])
      rw [← h7, List.take_append_drop]
    rw [e8]
    rfl
end
def IsEvents (w : World) (a : Option Addr) (len cap : Nat) (l : List Ev) : Prop := l.length = len ∧ Evs w a l ∧ (∀ d ∈ l, WfC d.r.c ∧ WfEv d) ∧ len ≤ cap ∧ cap ≤ maxLen
def evz : Ev := ⟨0, 0, 0, 0, ⟨0, ⟨0, (0, 0, 0), (0, 0, 0)⟩, ⟨0, 0, 0, 0, 0, 0, 0, 0, 0, 0⟩⟩, ⟨0, false, false, 0, none, 0, []⟩⟩
theorem open_events {H : Type} {enc : TypeId × Value → H} {w : World} {base fuel : Nat} {spare : Nat → Bool} {held : Bool} {a : Option Addr} {len cap : Nat} {x : DataW H × List MemPlace}
    (h : DataW.trod enc Tryz.prog w base spare held fuel 22 [.slice a len cap] = some x) : ∃ l, IsEvents w a len cap l := by
  rcases Deep.open_slice Tryz.underlying22 h with ⟨h0, _⟩ | ⟨A, l, c, m, n, D, Pl, hcs, _, hl, hm, hmm, _, hx⟩
  · simp at h0
    obtain ⟨rfl, rfl, rfl⟩ := h0
    exact ⟨[], rfl, ⟨fun h => absurd rfl h, by simp⟩, by simp, Nat.le_refl _, Nat.zero_le _⟩
  · simp at hcs
    obtain ⟨rfl, rfl, rfl⟩ := hcs
    have hlm : len ≤ m := by rw [hmm]; split <;> omega
    have each : ∀ i, ∃ d : Ev, i < len → WfCg d.r.c ∧ RpAt w d.t ∧ WfEv d ∧ ∀ j v, (evL d)[j]? = some v → w.cell? (A.add (i * 27 + j)) = some v := fun i => by
      by_cases hi : i < len
      · obtain ⟨cs', h1, h2⟩ := hx i (Nat.lt_of_lt_of_le hi hlm)
        rw [show Tryz.prog.cellsOf 46 = 27 by kernel_rfl] at h1
        obtain ⟨_, hlen, hcell⟩ := World.cells?_some h1
        obtain ⟨d, rfl, hw, hr, hv0⟩ := trod_event h2
        refine ⟨d, fun _ => ⟨hw, hr, hv0, fun j v hv => ?_⟩⟩
        have hj := (List.getElem?_eq_some_iff.1 hv).1
        have := hcell j (by rw [evL_length] at hj; exact hj)
        rw [Deep.add_add] at this
        rw [this]
        first | exact hv | (rw [← hv, List.getElem?_eq_getElem hj])
      · exact ⟨evz, fun h => absurd h hi⟩
    obtain ⟨f, hf⟩ := Classical.skolem.1 each
    refine ⟨(List.range len).map f, by simp, ⟨fun hne => ?_, ?_⟩, ?_, hl, hm⟩
    · have h0 : 0 < len := by
        rcases Nat.eq_zero_or_pos len with e | e
        · subst e; simp at hne
        · exact e
      have hz := (hf 0 h0).2.2.2 0 _ (show (evL (f 0))[0]? = some (.int .i64 (f 0).k) from rfl)
      have hlt := World.block_lt_of_cell? w _ hz
      obtain ⟨xb, xo, xs⟩ := A
      have hs : xs = none := by simpa [Addr.add] using World.cell?_spot hz
      subst hs
      rw [add_lit] at hlt
      refine ⟨xb, xo, rfl, hlt, fun i hi j v hv => ?_⟩
      have hi' : i < len := by simpa using hi
      have hv' : (evL (f i))[j]? = some v := by simpa using hv
      have := (hf i hi').2.2.2 j v hv'
      rw [add_lit] at this
      rw [← this, ← Nat.add_assoc]
    · intro d hd
      obtain ⟨i, hi, rfl⟩ := List.mem_map.1 hd
      exact (hf i (List.mem_range.1 hi)).2.1
    · intro d hd
      obtain ⟨i, hi, rfl⟩ := List.mem_map.1 hd
      have h3 := hf i (List.mem_range.1 hi)
      exact ⟨⟨h3.1.2.1.1, h3.1.2.2.1⟩, h3.2.2.1⟩

end Go.Proofs.YtenkdjfikppkdaaGreatDoor
