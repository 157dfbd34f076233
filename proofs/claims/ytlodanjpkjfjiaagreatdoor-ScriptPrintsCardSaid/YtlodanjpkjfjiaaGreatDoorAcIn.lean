/-
  An act, and a slice of acts, that came in, as a reading tells them. No conditions.
-/
import Derived.Test.YtlodanjpkjfjiaaGreatDoorReA
import Derived.Deep.Slices
import Derived.Lib.SmallJoins
import Derived.OpenShut
import Derived.ChangeOld
namespace Go.Proofs.YtlodanjpkjfjiaaGreatDoor
open Go.Al Go.RowKit Go.ChangeShapes Go.WideShapes
set_option linter.unusedVariables false

theorem inI_wf' {n : Int} (h : (Lit.int .i64 n).wf = true) : inI' n := by
  simp [Lit.wf, IntKind.min, IntKind.max, IntKind.signed, IntKind.bits] at h
  unfold inI'
  omega
section
variable {H : Type} {enc : TypeId × Value → H} {w : World} {base : Nat} {spare : Nat → Bool} {held : Bool} {n : Nat} {cs : List Value} {x : DataW H × List MemPlace}
theorem trod_j1 (h : DataW.trod enc Tryz.prog w base spare held n 3 cs = some x) : ∃ a, cs = [.int .i64 a] ∧ inI' a := by
  obtain ⟨k, hk, _, wk⟩ := DataW.trod_int Tryz.underlying3 h
  exact ⟨k, hk, inI_wf' wk⟩
set_option maxRecDepth 100000 in
theorem trod_pt (h : DataW.trod enc Tryz.prog w base spare held n 23 cs = some x) : ∃ p : P3, cs = [.int .i64 p.1, .int .i64 p.2.1, .int .i64 p.2.2] ∧ inI' p.1 ∧ inI' p.2.1 ∧ inI' p.2.2 := by
  obtain ⟨xs, m, _, _, hl, hlen, hf⟩ := DataW.trod_struct Tryz.underlying23 h
  rw [show Tryz.prog.cellsOf 23 = 3 by kernel_rfl] at hl
  match cs, hl with
  | [c0, c1, c2], _ =>
    match xs, hlen with
    | [y0, y1, y2], _ =>
      have g0 := hf 0 _ rfl
      have g1 := hf 1 _ rfl
      have g2 := hf 2 _ rfl
      simp [show Tryz.prog.cellsOf 3 = 1 by kernel_rfl] at g0
      simp [show Tryz.prog.cellsOf 3 = 1 by kernel_rfl] at g1
      simp [show Tryz.prog.cellsOf 3 = 1 by kernel_rfl] at g2
      obtain ⟨a, e0, wa⟩ := trod_j1 g0
      obtain ⟨b, e1, wb⟩ := trod_j1 g1
      obtain ⟨c, e2, wc⟩ := trod_j1 g2
      simp at e0 e1 e2
      subst e0
      subst e1
      subst e2
      exact ⟨(a, b, c), rfl, wa, wb, wc⟩
set_option maxRecDepth 100000 in
theorem trod_sp (h : DataW.trod enc Tryz.prog w base spare held n 25 cs = some x) : ∃ p : P3, cs = [.int .i64 p.1, .int .i64 p.2.1, .int .i64 p.2.2] ∧ inI' p.1 ∧ inI' p.2.1 ∧ inI' p.2.2 := by
  obtain ⟨xs, m, _, _, hl, hlen, hf⟩ := DataW.trod_struct Tryz.underlying25 h
  rw [show Tryz.prog.cellsOf 25 = 3 by kernel_rfl] at hl
  match cs, hl with
  | [c0, c1, c2], _ =>
    match xs, hlen with
    | [y0, y1, y2], _ =>
      have g0 := hf 0 _ rfl
      have g1 := hf 1 _ rfl
      have g2 := hf 2 _ rfl
      simp [show Tryz.prog.cellsOf 3 = 1 by kernel_rfl] at g0
      simp [show Tryz.prog.cellsOf 3 = 1 by kernel_rfl] at g1
      simp [show Tryz.prog.cellsOf 3 = 1 by kernel_rfl] at g2
      obtain ⟨a, e0, wa⟩ := trod_j1 g0
      obtain ⟨b, e1, wb⟩ := trod_j1 g1
      obtain ⟨c, e2, wc⟩ := trod_j1 g2
      simp at e0 e1 e2
      subst e0
      subst e1
      subst e2
      exact ⟨(a, b, c), rfl, wa, wb, wc⟩
set_option maxRecDepth 100000 in
theorem trod_cgI (h : DataW.trod enc Tryz.prog w base spare held n 27 cs = some x) : ∃ c : Cg, cs = cgL c ∧ (inI' c.p.1 ∧ inI' c.p.2.1 ∧ inI' c.p.2.2) ∧ (inI' c.s.1 ∧ inI' c.s.2.1 ∧ inI' c.s.2.2) := by
  obtain ⟨xs, m, _, _, hl, hlen, hf⟩ := DataW.trod_struct Tryz.underlying27 h
  rw [show Tryz.prog.cellsOf 27 = 7 by kernel_rfl] at hl
  match cs, hl with
  | [c0, c1, c2, c3, c4, c5, c6], _ =>
    match xs, hlen with
    | [y0, y1, y2], _ =>
      have g0 := hf 0 _ rfl
      have g1 := hf 1 _ rfl
      have g2 := hf 2 _ rfl
      simp [show Tryz.prog.cellsOf 3 = 1 by kernel_rfl] at g0
      simp [show Tryz.prog.cellsOf 23 = 3 by kernel_rfl] at g1
      simp [show Tryz.prog.cellsOf 25 = 3 by kernel_rfl] at g2
      obtain ⟨k, e0, wk⟩ := trod_j1 g0
      obtain ⟨p, e1, wp⟩ := trod_pt g1
      obtain ⟨q, e2, wq⟩ := trod_sp g2
      simp at e0 e1 e2
      subst e0
      obtain ⟨rfl, rfl, rfl⟩ := e1
      obtain ⟨rfl, rfl, rfl⟩ := e2
      exact ⟨⟨k, p, q⟩, rfl, wp, wq⟩
set_option maxRecDepth 100000 in
theorem trod_bx (h : DataW.trod enc Tryz.prog w base spare held n 29 cs = some x) : ∃ a b c d : Int, cs = [.int .i64 a, .int .i64 b, .int .i64 c, .int .i64 d] ∧ inI' a ∧ inI' b ∧ inI' c ∧ inI' d := by
  obtain ⟨xs, m, _, _, hl, hlen, hf⟩ := DataW.trod_struct Tryz.underlying29 h
  rw [show Tryz.prog.cellsOf 29 = 4 by kernel_rfl] at hl
  match cs, hl with
  | [c0, c1, c2, c3], _ =>
    match xs, hlen with
    | [y0, y1, y2, y3], _ =>
      have g0 := hf 0 _ rfl
      have g1 := hf 1 _ rfl
      have g2 := hf 2 _ rfl
      have g3 := hf 3 _ rfl
      simp [show Tryz.prog.cellsOf 3 = 1 by kernel_rfl] at g0
      simp [show Tryz.prog.cellsOf 3 = 1 by kernel_rfl] at g1
      simp [show Tryz.prog.cellsOf 3 = 1 by kernel_rfl] at g2
      simp [show Tryz.prog.cellsOf 3 = 1 by kernel_rfl] at g3
      obtain ⟨a, e0, wa⟩ := trod_j1 g0
      obtain ⟨b, e1, wb⟩ := trod_j1 g1
      obtain ⟨c, e2, wc⟩ := trod_j1 g2
      obtain ⟨d, e3, wd⟩ := trod_j1 g3
      simp at e0 e1 e2 e3
      subst e0
      subst e1
      subst e2
      subst e3
      exact ⟨a, b, c, d, rfl, wa, wb, wc, wd⟩
set_option maxRecDepth 100000 in
theorem trod_wn (h : DataW.trod enc Tryz.prog w base spare held n 31 cs = some x) : ∃ a b c : Int, cs = [.int .i64 a, .int .i64 b, .int .i64 c] ∧ inI' a ∧ inI' b ∧ inI' c := by
  obtain ⟨xs, m, _, _, hl, hlen, hf⟩ := DataW.trod_struct Tryz.underlying31 h
  rw [show Tryz.prog.cellsOf 31 = 3 by kernel_rfl] at hl
  match cs, hl with
  | [c0, c1, c2], _ =>
    match xs, hlen with
    | [y0, y1, y2], _ =>
      have g0 := hf 0 _ rfl
      have g1 := hf 1 _ rfl
      have g2 := hf 2 _ rfl
      simp [show Tryz.prog.cellsOf 3 = 1 by kernel_rfl] at g0
      simp [show Tryz.prog.cellsOf 3 = 1 by kernel_rfl] at g1
      simp [show Tryz.prog.cellsOf 3 = 1 by kernel_rfl] at g2
      obtain ⟨a, e0, wa⟩ := trod_j1 g0
      obtain ⟨b, e1, wb⟩ := trod_j1 g1
      obtain ⟨c, e2, wc⟩ := trod_j1 g2
      simp at e0 e1 e2
      subst e0
      subst e1
      subst e2
      exact ⟨a, b, c, rfl, wa, wb, wc⟩
set_option maxRecDepth 100000 in
theorem trod_qy (h : DataW.trod enc Tryz.prog w base spare held n 33 cs = some x) : ∃ q : Qy, cs = qL q ∧ (inI' q.a ∧ inI' q.b ∧ inI' q.c ∧ inI' q.d) ∧ (inI' q.e ∧ inI' q.f ∧ inI' q.g) ∧ inI' q.x ∧ inI' q.h := by
  obtain ⟨xs, m, _, _, hl, hlen, hf⟩ := DataW.trod_struct Tryz.underlying33 h
  rw [show Tryz.prog.cellsOf 33 = 10 by kernel_rfl] at hl
  match cs, hl with
  | [c0, c1, c2, c3, c4, c5, c6, c7, c8, c9], _ =>
    match xs, hlen with
    | [y0, y1, y2, y3, y4], _ =>
      have g0 := hf 0 _ rfl
      have g1 := hf 1 _ rfl
      have g2 := hf 2 _ rfl
      have g3 := hf 3 _ rfl
      have g4 := hf 4 _ rfl
      simp [show Tryz.prog.cellsOf 3 = 1 by kernel_rfl] at g0
      simp [show Tryz.prog.cellsOf 29 = 4 by kernel_rfl] at g1
      simp [show Tryz.prog.cellsOf 31 = 3 by kernel_rfl] at g2
      simp [show Tryz.prog.cellsOf 3 = 1 by kernel_rfl] at g3
      simp [show Tryz.prog.cellsOf 3 = 1 by kernel_rfl] at g4
      obtain ⟨k, e0, wk⟩ := trod_j1 g0
      obtain ⟨a, b, c, d, e1, wb⟩ := trod_bx g1
      obtain ⟨e, f, g, e2, ww⟩ := trod_wn g2
      obtain ⟨u, e3, wu⟩ := trod_j1 g3
      obtain ⟨v, e4, wv⟩ := trod_j1 g4
      simp at e0 e1 e2 e3 e4
      subst e0
      obtain ⟨rfl, rfl, rfl, rfl⟩ := e1
      obtain ⟨rfl, rfl, rfl⟩ := e2
      subst e3
      subst e4
      exact ⟨⟨k, a, b, c, d, e, f, g, u, v⟩, rfl, wb, ww, wu, wv⟩
set_option maxRecDepth 100000 in
theorem trod_rq (h : DataW.trod enc Tryz.prog w base spare held n 35 cs = some x) : ∃ r : Rq, cs = rqL r ∧ WfR r := by
  obtain ⟨xs, m, _, _, hl, hlen, hf⟩ := DataW.trod_struct Tryz.underlying35 h
  rw [show Tryz.prog.cellsOf 35 = 18 by kernel_rfl] at hl
  match cs, hl with
  | [c0, c1, c2, c3, c4, c5, c6, c7, c8, c9, c10, c11, c12, c13, c14, c15, c16, c17], _ =>
    match xs, hlen with
    | [y0, y1, y2], _ =>
      have g0 := hf 0 _ rfl
      have g1 := hf 1 _ rfl
      have g2 := hf 2 _ rfl
      simp [show Tryz.prog.cellsOf 3 = 1 by kernel_rfl] at g0
      simp [show Tryz.prog.cellsOf 27 = 7 by kernel_rfl] at g1
      simp [show Tryz.prog.cellsOf 33 = 10 by kernel_rfl] at g2
      obtain ⟨k, e0, wk⟩ := trod_j1 g0
      obtain ⟨c, e1, wc⟩ := trod_cgI g1
      obtain ⟨q, e2, wq⟩ := trod_qy g2
      unfold cgL at e1
      unfold qL at e2
      simp at e0 e1 e2
      subst e0
      obtain ⟨rfl, rfl, rfl, rfl, rfl, rfl, rfl⟩ := e1
      obtain ⟨rfl, rfl, rfl, rfl, rfl, rfl, rfl, rfl, rfl, rfl⟩ := e2
      exact ⟨⟨k, c, q⟩, rfl, ⟨fun m hm => by
        simp only [List.mem_cons, List.not_mem_nil, or_false] at hm
        rcases hm with rfl | rfl | rfl | rfl | rfl | rfl | rfl | rfl | rfl | rfl | rfl | rfl | rfl | rfl | rfl
        · exact wc.1.1
        · exact wc.1.2.1
        · exact wc.1.2.2
        · exact wc.2.1
        · exact wc.2.2.1
        · exact wc.2.2.2
        · exact wq.1.1
        · exact wq.1.2.1
        · exact wq.1.2.2.1
        · exact wq.1.2.2.2
        · exact wq.2.1.1
        · exact wq.2.1.2.1
        · exact wq.2.1.2.2
        · exact wq.2.2.1
        · exact wq.2.2.2⟩⟩
theorem trod_by (h : DataW.trod enc Tryz.prog w base spare held n 36 cs = some x) : ∃ (A : Option Addr) (c : Nat) (l : List UInt8), cs = [.slice A l.length c] ∧ Rd w A (bs l) ∧ l.length ≤ c ∧ c ≤ maxLen := by
  rcases open_ints Tryz.underlying36 Tryz.underlying5 (by kernel_rfl) h with ⟨hcs, _⟩ | ⟨a, len, cap, zs, hcs, _, hl, hm, hz, _, hcell, hwz⟩
  · exact ⟨none, 0, [], by simpa using hcs, Rd.nil _ _, Nat.le_refl _, Nat.zero_le _⟩
  · have hzl : len ≤ zs.length := by
      rw [hz]; split <;> omega
    obtain ⟨l, h1, h2, _⟩ := bytes_in hzl hcell hwz
    exact ⟨some a, cap, l, by rw [h1]; simpa using hcs, h2, by omega, hm⟩
set_option maxRecDepth 100000 in
theorem trod_act (h : DataW.trod enc Tryz.prog w base spare held n 38 cs = some x) : ∃ d : La, cs = laL d ∧ LaAt w d ∧ WfA d.a := by
  obtain ⟨xs, m, _, _, hl, hlen, hf⟩ := DataW.trod_struct Tryz.underlying38 h
  rw [show Tryz.prog.cellsOf 38 = 22 by kernel_rfl] at hl
  obtain ⟨c0, c1, c2, R, rfl⟩ : ∃ c0 c1 c2 R, cs = c0 :: c1 :: c2 :: R := by
    match cs, hl with
    | c0 :: c1 :: c2 :: R, _ => exact ⟨c0, c1, c2, R, rfl⟩
  have hR : R.length = 19 := by simpa using hl
  match xs, hlen with
  | [y0, y1, y2, y3, y4], _ =>
    have g0 := hf 0 _ rfl
    have g1 := hf 1 _ rfl
    have g2 := hf 2 _ rfl
    have g3 := hf 3 _ rfl
    have g4 := hf 4 _ rfl
    simp [show Tryz.prog.cellsOf 3 = 1 by kernel_rfl] at g0 g1 g2
    simp [show Tryz.prog.cellsOf 35 = 18 by kernel_rfl] at g3
    simp [show Tryz.prog.cellsOf 36 = 1 by kernel_rfl] at g4
    obtain ⟨k, e0, _⟩ := trod_j1 g0
    obtain ⟨id, e1, w1⟩ := trod_j1 g1
    obtain ⟨nn, e2, w2⟩ := trod_j1 g2
    obtain ⟨r, e3, wr⟩ := trod_rq g3
    obtain ⟨A, c, l, e4, hr, h1, h2⟩ := trod_by g4
    simp at e0 e1 e2
    subst e0 e1 e2
    refine ⟨⟨⟨k, id, nn, r, l⟩, A, c⟩, ?_, ⟨hr, h1, h2⟩, ⟨w1, w2, wr⟩⟩
    have e8 : R = rqL r ++ [.slice A l.length c] := by
      rw [← e3]
      have h7 : R.drop 18 = [.slice A l.length c] := by
        rw [← e4]
        first | rfl | (rw [List.take_of_length_le (by simp; omega)])
      rw [← h7, List.take_append_drop]
    rw [e8]
    rfl
end
set_option maxRecDepth 100000 in
/-- an act by value -/
theorem open_act {H : Type} {enc : TypeId × Value → H} {w : World} {base b0 : Nat} {spare : Nat → Bool} {held : Bool} {r : Reach} {v : Value} {d : DataW H} {p : List MemPlace}
    (hv : Value.okWide Tryz.prog w r b0 38 v) (h : DataW.Trod enc Tryz.prog w base spare held 38 v d p) : ∃ (a : Ac) (A : Option Addr) (c : Nat), v = acV a A c ∧ ActAt w a A c ∧ WfA a := by
  obtain ⟨cs, rfl, hsz⟩ := okWide_struct Tryz.underlying38 hv
  obtain ⟨n, hn⟩ := h
  obtain ⟨d, hc, hl, hw⟩ := trod_act hn
  refine ⟨d.a, d.A, d.c, ?_, hl, hw⟩
  have : cs.toList = laL d := hc
  unfold acV
  rw [show acL d.a d.A d.c = laL d from rfl, ← this]
def IsActsA (w : World) (a : Option Addr) (len cap : Nat) (l : List La) : Prop := l.length = len ∧ Acts w a l ∧ (∀ d ∈ l, WfA d.a) ∧ len ≤ cap ∧ cap ≤ maxLen
def laz : La := ⟨ac0, none, 0⟩
theorem open_actsA {H : Type} {enc : TypeId × Value → H} {w : World} {base fuel : Nat} {spare : Nat → Bool} {held : Bool} {a : Option Addr} {len cap : Nat} {x : DataW H × List MemPlace}
    (h : DataW.trod enc Tryz.prog w base spare held fuel 48 [.slice a len cap] = some x) : ∃ l, IsActsA w a len cap l := by
  rcases Deep.open_slice Tryz.underlying48 h with ⟨h0, _⟩ | ⟨A, l, c, m, n, D, Pl, hcs, _, hl, hm, hmm, _, hx⟩
  · simp at h0
    obtain ⟨rfl, rfl, rfl⟩ := h0
    exact ⟨[], rfl, ⟨fun h => absurd rfl h, by simp⟩, by simp, Nat.le_refl _, Nat.zero_le _⟩
  · simp at hcs
    obtain ⟨rfl, rfl, rfl⟩ := hcs
    have hlm : len ≤ m := by rw [hmm]; split <;> omega
    have each : ∀ i, ∃ d : La, i < len → WfA d.a ∧ LaAt w d ∧ ∀ j v, (laL d)[j]? = some v → w.cell? (A.add (i * 22 + j)) = some v := fun i => by
      by_cases hi : i < len
      · obtain ⟨cs', h1, h2⟩ := hx i (Nat.lt_of_lt_of_le hi hlm)
        rw [show Tryz.prog.cellsOf 38 = 22 by kernel_rfl] at h1
        obtain ⟨_, hlen, hcell⟩ := World.cells?_some h1
        obtain ⟨d, rfl, hr, hw⟩ := trod_act h2
        refine ⟨d, fun _ => ⟨hw, hr, fun j v hv => ?_⟩⟩
        have hj := (List.getElem?_eq_some_iff.1 hv).1
        have := hcell j (by rw [laL_len] at hj; exact hj)
        rw [Deep.add_add] at this
        rw [this]
        first | exact hv | (rw [← hv, List.getElem?_eq_getElem hj])
      · exact ⟨laz, fun h => absurd h hi⟩
    obtain ⟨f, hf⟩ := Classical.skolem.1 each
    refine ⟨(List.range len).map f, by simp, ⟨fun hne => ?_, ?_⟩, ?_, hl, hm⟩
    · have h0 : 0 < len := by
        rcases Nat.eq_zero_or_pos len with e | e
        · subst e; simp at hne
        · exact e
      have hz := (hf 0 h0).2.2 0 _ (show (laL (f 0))[0]? = some (.int .i64 (f 0).a.k) from rfl)
      have hlt := World.block_lt_of_cell? w _ hz
      obtain ⟨xb, xo, xs⟩ := A
      have hs : xs = none := by simpa [Addr.add] using World.cell?_spot hz
      subst hs
      rw [add_lit] at hlt
      refine ⟨xb, xo, rfl, hlt, fun i hi j v hv => ?_⟩
      have hi' : i < len := by simpa using hi
      have hv' : (laL (f i))[j]? = some v := by simpa using hv
      have := (hf i hi').2.2 j v hv'
      rw [add_lit] at this
      rw [← this, ← Nat.add_assoc]
    · intro d hd
      obtain ⟨i, hi, rfl⟩ := List.mem_map.1 hd
      exact (hf i (List.mem_range.1 hi)).2.1
    · intro d hd
      obtain ⟨i, hi, rfl⟩ := List.mem_map.1 hd
      exact (hf i (List.mem_range.1 hi)).1

end Go.Proofs.YtlodanjpkjfjiaaGreatDoor
