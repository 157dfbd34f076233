/-
  A change, and a slice of changes, that came in, as a reading tells them. No conditions.
  Operations that came in, as a reading tells them. No conditions.
  Events that came in, as a reading tells them. No conditions.
  Events that came in, as a reading tells them, their kinds too. No conditions.
-/
import Derived.Test.YtlimpepdelpogaaGreatDoorTbB
import Derived.Deep.Slices
import Derived.Lib.SmallJoins
import Derived.Test.YtlimpepdelpogaaGreatDoorLnB
import Derived.Test.YtlimpepdelpogaaGreatDoorHyG
/-! CgIn -/
namespace Go.Proofs.YtlimpepdelpogaaGreatDoor
open Go.Al Go.RowKit Go.ChangeShapes Go.WideShapes
set_option linter.unusedVariables false
def Wf3 (p : P3) : Prop := (Lit.int .i64 p.1).wf = true ∧ (Lit.int .i64 p.2.1).wf = true ∧ (Lit.int .i64 p.2.2).wf = true
def WfCg (c : Cg) : Prop := (Lit.int .i64 c.k).wf = true ∧ Wf3 c.p ∧ Wf3 c.s
section
variable {H : Type} {enc : TypeId × Value → H} {P : Program} {w : World} {base : Nat} {spare : Nat → Bool} {held : Bool}
theorem trod_i1 {t : TypeId} {n : Nat} {cs : List Value} {x : DataW H × List MemPlace} (hu : P.underlying t = some (.int .i64)) (h : DataW.trod enc P w base spare held n t cs = some x) :
    ∃ a, cs = [.int .i64 a] ∧ (Lit.int .i64 a).wf = true := by
  obtain ⟨k, hk, _, wk⟩ := DataW.trod_int hu h
  exact ⟨k, hk, wk⟩
theorem trod_i3 {t : TypeId} {f0 f1 f2 : Field} {n : Nat} {cs : List Value} {x : DataW H × List MemPlace} (hs : P.underlying t = some (.struct #[f0, f1, f2])) (hC : P.cellsOf t = 3)
    (o0 : f0.offset = 0) (o1 : f1.offset = 1) (o2 : f2.offset = 2) (u0 : P.underlying f0.type = some (.int .i64)) (u1 : P.underlying f1.type = some (.int .i64)) (u2 : P.underlying f2.type = some (.int .i64))
    (k0 : P.cellsOf f0.type = 1) (k1 : P.cellsOf f1.type = 1) (k2 : P.cellsOf f2.type = 1) (h : DataW.trod enc P w base spare held n t cs = some x) :
    ∃ p : P3, cs = [.int .i64 p.1, .int .i64 p.2.1, .int .i64 p.2.2] ∧ Wf3 p := by
  obtain ⟨xs, m, _, _, hl, hlen, hf⟩ := DataW.trod_struct hs h
  rw [hC] at hl
  match cs, hl with
  | [c0, c1, c2], _ =>
    match xs, hlen with
    | [y0, y1, y2], _ =>
      have g0 := hf 0 f0 rfl
      have g1 := hf 1 f1 rfl
      have g2 := hf 2 f2 rfl
      simp [o0, o1, o2, k0, k1, k2] at g0 g1 g2
      obtain ⟨a, ha, wa⟩ := trod_i1 u0 g0
      obtain ⟨b, hb, wb⟩ := trod_i1 u1 g1
      obtain ⟨c, hc, wc⟩ := trod_i1 u2 g2
      simp at ha hb hc
      subst ha hb hc
      exact ⟨(a, b, c), rfl, wa, wb, wc⟩
theorem trod_cg {t : TypeId} {f0 f1 f2 p0 p1 p2 s0 s1 s2 : Field} {n : Nat} {cs : List Value} {x : DataW H × List MemPlace} (hs : P.underlying t = some (.struct #[f0, f1, f2])) (hC : P.cellsOf t = 7)
    (o0 : f0.offset = 0) (o1 : f1.offset = 1) (o2 : f2.offset = 4) (u0 : P.underlying f0.type = some (.int .i64)) (k0 : P.cellsOf f0.type = 1)
    (hp : P.underlying f1.type = some (.struct #[p0, p1, p2])) (kp : P.cellsOf f1.type = 3) (hss : P.underlying f2.type = some (.struct #[s0, s1, s2])) (ks : P.cellsOf f2.type = 3)
    (hpp : p0.offset = 0 ∧ p1.offset = 1 ∧ p2.offset = 2 ∧ P.underlying p0.type = some (.int .i64) ∧ P.underlying p1.type = some (.int .i64) ∧ P.underlying p2.type = some (.int .i64) ∧ P.cellsOf p0.type = 1 ∧ P.cellsOf p1.type = 1 ∧ P.cellsOf p2.type = 1)
    (hsp : s0.offset = 0 ∧ s1.offset = 1 ∧ s2.offset = 2 ∧ P.underlying s0.type = some (.int .i64) ∧ P.underlying s1.type = some (.int .i64) ∧ P.underlying s2.type = some (.int .i64) ∧ P.cellsOf s0.type = 1 ∧ P.cellsOf s1.type = 1 ∧ P.cellsOf s2.type = 1)
    (h : DataW.trod enc P w base spare held n t cs = some x) :
    ∃ c : Cg, cs = [.int .i64 c.k, .int .i64 c.p.1, .int .i64 c.p.2.1, .int .i64 c.p.2.2, .int .i64 c.s.1, .int .i64 c.s.2.1, .int .i64 c.s.2.2] ∧ WfCg c := by
  obtain ⟨xs, m, _, _, hl, hlen, hf⟩ := DataW.trod_struct hs h
  rw [hC] at hl
  match cs, hl with
  | [c0, c1, c2, c3, c4, c5, c6], _ =>
    match xs, hlen with
    | [y0, y1, y2], _ =>
      have g0 := hf 0 f0 rfl
      have g1 := hf 1 f1 rfl
      have g2 := hf 2 f2 rfl
      simp [o0, o1, o2, k0, kp, ks] at g0 g1 g2
      obtain ⟨a, ha, wa⟩ := trod_i1 u0 g0
      obtain ⟨p, hb, wb⟩ := trod_i3 hp kp hpp.1 hpp.2.1 hpp.2.2.1 hpp.2.2.2.1 hpp.2.2.2.2.1 hpp.2.2.2.2.2.1 hpp.2.2.2.2.2.2.1 hpp.2.2.2.2.2.2.2.1 hpp.2.2.2.2.2.2.2.2 g1
      obtain ⟨q, hc, wc⟩ := trod_i3 hss ks hsp.1 hsp.2.1 hsp.2.2.1 hsp.2.2.2.1 hsp.2.2.2.2.1 hsp.2.2.2.2.2.1 hsp.2.2.2.2.2.2.1 hsp.2.2.2.2.2.2.2.1 hsp.2.2.2.2.2.2.2.2 g2
      simp at ha hb hc
      obtain ⟨rfl, rfl, rfl⟩ := hb
      obtain ⟨rfl, rfl, rfl⟩ := hc
      subst ha
      exact ⟨⟨a, p, q⟩, rfl, wa, wb, wc⟩
end
/-- the program's own change -/
theorem trod_change {H : Type} {enc : TypeId × Value → H} {w : World} {base : Nat} {spare : Nat → Bool} {held : Bool} {n : Nat} {cs : List Value} {x : DataW H × List MemPlace} (h : DataW.trod enc Tryz.prog w base spare held n 29 cs = some x) :
    ∃ c : Cg, cs = [.int .i64 c.k, .int .i64 c.p.1, .int .i64 c.p.2.1, .int .i64 c.p.2.2, .int .i64 c.s.1, .int .i64 c.s.2.1, .int .i64 c.s.2.2] ∧ WfCg c :=
  trod_cg Tryz.underlying29 (by kernel_rfl) rfl rfl rfl Tryz.underlying3 (by kernel_rfl) Tryz.underlying25 (by kernel_rfl) Tryz.underlying27 (by kernel_rfl)
    ⟨rfl, rfl, rfl, Tryz.underlying3, Tryz.underlying3, Tryz.underlying3, by kernel_rfl, by kernel_rfl, by kernel_rfl⟩ ⟨rfl, rfl, rfl, Tryz.underlying3, Tryz.underlying3, Tryz.underlying3, by kernel_rfl, by kernel_rfl, by kernel_rfl⟩ h
/-- a slice of changes that came in -/
def ActsC (w : World) (A : Option Addr) (n : Nat) (l : List Cg) : Prop :=
  l.length = n ∧ (l ≠ [] → ∃ b off, A = some ⟨b, off, none⟩ ∧ b < w.heap.size ∧ ∀ i (h : i < l.length),
    w.cell? ⟨b, off + i * 7, none⟩ = some (.int .i64 l[i].k) ∧ w.cell? ⟨b, off + i * 7 + 1, none⟩ = some (.int .i64 l[i].p.1) ∧ w.cell? ⟨b, off + i * 7 + 2, none⟩ = some (.int .i64 l[i].p.2.1) ∧ w.cell? ⟨b, off + i * 7 + 3, none⟩ = some (.int .i64 l[i].p.2.2) ∧
    w.cell? ⟨b, off + i * 7 + 4, none⟩ = some (.int .i64 l[i].s.1) ∧ w.cell? ⟨b, off + i * 7 + 5, none⟩ = some (.int .i64 l[i].s.2.1) ∧ w.cell? ⟨b, off + i * 7 + 6, none⟩ = some (.int .i64 l[i].s.2.2))
def CellsC (w : World) (b o : Nat) (c : Cg) : Prop :=
  w.cell? ⟨b, o, none⟩ = some (.int .i64 c.k) ∧ w.cell? ⟨b, o + 1, none⟩ = some (.int .i64 c.p.1) ∧ w.cell? ⟨b, o + 2, none⟩ = some (.int .i64 c.p.2.1) ∧ w.cell? ⟨b, o + 3, none⟩ = some (.int .i64 c.p.2.2) ∧
    w.cell? ⟨b, o + 4, none⟩ = some (.int .i64 c.s.1) ∧ w.cell? ⟨b, o + 5, none⟩ = some (.int .i64 c.s.2.1) ∧ w.cell? ⟨b, o + 6, none⟩ = some (.int .i64 c.s.2.2)
theorem ActsC.at_ {w wr : World} {A : Option Addr} {n i : Nat} {l : List Cg} (h : ActsC w A n l) (hw : ∀ c ∈ l, WfCg c) (hs : Same w wr) (hi : i < n) :
    ∃ b off c, A = some ⟨b, off, none⟩ ∧ b < w.heap.size ∧ l[i]? = some c ∧ WfCg c ∧ CellsC wr b (off + i * 7) c := by
  have hl : i < l.length := by rw [h.1]; exact hi
  obtain ⟨b, off, e, hb, hc⟩ := h.2 (fun e => by rw [e] at hl; simp at hl)
  obtain ⟨h0, h1, h2, h3, h4, h5, h6⟩ := hc i hl
  have k : ∀ j, wr.cell? ⟨b, j, none⟩ = w.cell? ⟨b, j, none⟩ := fun j => hs.cell (p := ⟨b, j, none⟩) hb (fun h => h)
  exact ⟨b, off, l[i], e, hb, List.getElem?_eq_getElem hl, hw _ (List.getElem_mem hl), (k _).trans h0, (k _).trans h1, (k _).trans h2, (k _).trans h3, (k _).trans h4, (k _).trans h5, (k _).trans h6⟩
end Go.Proofs.YtlimpepdelpogaaGreatDoor
/-! DdIn -/
namespace Go.Proofs.YtlimpepdelpogaaGreatDoor
open Go.Al Go.RowKit Go.ChangeShapes Go.WideShapes
set_option linter.unusedVariables false
section
variable {H : Type} {enc : TypeId × Value → H} {w : World} {base : Nat} {spare : Nat → Bool} {held : Bool} {n : Nat} {cs : List Value} {x : DataW H × List MemPlace}
set_option maxRecDepth 100000 in
theorem trod_box (h : DataW.trod enc Tryz.prog w base spare held n 31 cs = some x) : ∃ a b c d : Int, cs = [.int .i64 a, .int .i64 b, .int .i64 c, .int .i64 d] := by
  obtain ⟨xs, m, _, _, hl, hlen, hf⟩ := DataW.trod_struct Tryz.underlying31 h
  rw [show Tryz.prog.cellsOf 31 = 4 by kernel_rfl] at hl
  match cs, hl with
  | [c0, c1, c2, c3], _ =>
    match xs, hlen with
    | [y0, y1, y2, y3], _ =>
      have g0 := hf 0 _ rfl
      have g1 := hf 1 _ rfl
      have g2 := hf 2 _ rfl
      have g3 := hf 3 _ rfl
      simp [show Tryz.prog.cellsOf 3 = 1 by kernel_rfl] at g0
      simp [show Tryz.prog.cellsOf 3 = 1 by kernel_rfl] at g1
      simp [show Tryz.prog.cellsOf 3 = 1 by kernel_rfl] at g2
      simp [show Tryz.prog.cellsOf 3 = 1 by kernel_rfl] at g3
      obtain ⟨a, e0, _⟩ := trod_i1 Tryz.underlying3 g0
      obtain ⟨b, e1, _⟩ := trod_i1 Tryz.underlying3 g1
      obtain ⟨c, e2, _⟩ := trod_i1 Tryz.underlying3 g2
      obtain ⟨d, e3, _⟩ := trod_i1 Tryz.underlying3 g3
      simp at e0 e1 e2 e3
      subst e0
      subst e1
      subst e2
      subst e3
      exact ⟨a, b, c, d, rfl⟩
set_option maxRecDepth 100000 in
theorem trod_win (h : DataW.trod enc Tryz.prog w base spare held n 33 cs = some x) : ∃ a b c : Int, cs = [.int .i64 a, .int .i64 b, .int .i64 c] := by
  obtain ⟨xs, m, _, _, hl, hlen, hf⟩ := DataW.trod_struct Tryz.underlying33 h
  rw [show Tryz.prog.cellsOf 33 = 3 by kernel_rfl] at hl
  match cs, hl with
  | [c0, c1, c2], _ =>
    match xs, hlen with
    | [y0, y1, y2], _ =>
      have g0 := hf 0 _ rfl
      have g1 := hf 1 _ rfl
      have g2 := hf 2 _ rfl
      simp [show Tryz.prog.cellsOf 3 = 1 by kernel_rfl] at g0
      simp [show Tryz.prog.cellsOf 3 = 1 by kernel_rfl] at g1
      simp [show Tryz.prog.cellsOf 3 = 1 by kernel_rfl] at g2
      obtain ⟨a, e0, _⟩ := trod_i1 Tryz.underlying3 g0
      obtain ⟨b, e1, _⟩ := trod_i1 Tryz.underlying3 g1
      obtain ⟨c, e2, _⟩ := trod_i1 Tryz.underlying3 g2
      simp at e0 e1 e2
      subst e0
      subst e1
      subst e2
      exact ⟨a, b, c, rfl⟩
set_option maxRecDepth 100000 in
theorem trod_query (h : DataW.trod enc Tryz.prog w base spare held n 35 cs = some x) : ∃ q : Qy, cs = qL q := by
  obtain ⟨xs, m, _, _, hl, hlen, hf⟩ := DataW.trod_struct Tryz.underlying35 h
  rw [show Tryz.prog.cellsOf 35 = 10 by kernel_rfl] at hl
  match cs, hl with
  | [c0, c1, c2, c3, c4, c5, c6, c7, c8, c9], _ =>
    match xs, hlen with
    | [y0, y1, y2, y3, y4], _ =>
      have g0 := hf 0 _ rfl
      have g1 := hf 1 _ rfl
      have g2 := hf 2 _ rfl
      have g3 := hf 3 _ rfl
      have g4 := hf 4 _ rfl
      simp [show Tryz.prog.cellsOf 3 = 1 by kernel_rfl] at g0
      simp [show Tryz.prog.cellsOf 31 = 4 by kernel_rfl] at g1
      simp [show Tryz.prog.cellsOf 33 = 3 by kernel_rfl] at g2
      simp [show Tryz.prog.cellsOf 3 = 1 by kernel_rfl] at g3
      simp [show Tryz.prog.cellsOf 3 = 1 by kernel_rfl] at g4
      obtain ⟨k, e0, _⟩ := trod_i1 Tryz.underlying3 g0
      obtain ⟨a, b, c, d, e1⟩ := trod_box g1
      obtain ⟨e, f, g, e2⟩ := trod_win g2
      obtain ⟨u, e3, _⟩ := trod_i1 Tryz.underlying3 g3
      obtain ⟨v, e4, _⟩ := trod_i1 Tryz.underlying3 g4
      simp at e0 e1 e2 e3 e4
      subst e0
      obtain ⟨rfl, rfl, rfl, rfl⟩ := e1
      obtain ⟨rfl, rfl, rfl⟩ := e2
      subst e3
      subst e4
      exact ⟨⟨k, a, b, c, d, e, f, g, u, v⟩, rfl⟩
set_option maxRecDepth 100000 in
theorem trod_req (h : DataW.trod enc Tryz.prog w base spare held n 37 cs = some x) : ∃ r : Rq, cs = rqL r ∧ WfCg r.c := by
  obtain ⟨xs, m, _, _, hl, hlen, hf⟩ := DataW.trod_struct Tryz.underlying37 h
  rw [show Tryz.prog.cellsOf 37 = 18 by kernel_rfl] at hl
  match cs, hl with
  | [c0, c1, c2, c3, c4, c5, c6, c7, c8, c9, c10, c11, c12, c13, c14, c15, c16, c17], _ =>
    match xs, hlen with
    | [y0, y1, y2], _ =>
      have g0 := hf 0 _ rfl
      have g1 := hf 1 _ rfl
      have g2 := hf 2 _ rfl
      simp [show Tryz.prog.cellsOf 3 = 1 by kernel_rfl] at g0
      simp [show Tryz.prog.cellsOf 29 = 7 by kernel_rfl] at g1
      simp [show Tryz.prog.cellsOf 35 = 10 by kernel_rfl] at g2
      obtain ⟨k, e0, _⟩ := trod_i1 Tryz.underlying3 g0
      obtain ⟨c, e1, wc⟩ := trod_change g1
      obtain ⟨q, e2⟩ := trod_query g2
      unfold qL at e2
      simp at e0 e1 e2
      subst e0
      obtain ⟨rfl, rfl, rfl, rfl, rfl, rfl, rfl⟩ := e1
      obtain ⟨rfl, rfl, rfl, rfl, rfl, rfl, rfl, rfl, rfl, rfl⟩ := e2
      exact ⟨⟨k, c, q⟩, rfl, wc⟩
theorem trod_list (h : DataW.trod enc Tryz.prog w base spare held n 39 cs = some x) : ∃ (A : Option Addr) (c : Nat) (l : List Int), cs = [.slice A l.length c] ∧ Rd w A (is l) ∧ l.length ≤ c ∧ c ≤ maxLen := by
  rcases open_ints Tryz.underlying39 Tryz.underlying3 (by kernel_rfl) h with ⟨hcs, _⟩ | ⟨a, len, cap, zs, hcs, _, hl, hm, hz, _, hcell, hwz⟩
  · exact ⟨none, 0, [], by simpa using hcs, Rd.nil _ _, Nat.le_refl _, Nat.zero_le _⟩
  · have hzl : len ≤ zs.length := by
      rw [hz]; split <;> omega
    refine ⟨some a, cap, zs.take len, by rw [List.length_take, Nat.min_eq_left hzl]; simpa using hcs, ?_, by rw [List.length_take, Nat.min_eq_left hzl]; exact hl, hm⟩
    by_cases h0 : len = 0
    · subst h0; simpa [is] using Rd.nil w (some a)
    · have hc0 := hcell 0 (by omega)
      have hs := World.cell?_spot hc0
      obtain ⟨xb, xo, xs⟩ := a
      have hs' : xs = none := by simpa [Addr.add] using hs
      subst hs'
      intro _
      refine ⟨xb, xo, rfl, fun i v hv => ?_⟩
      have hi : i < len := by
        have := (List.getElem?_eq_some_iff.1 hv).1
        simpa [List.length_take, Nat.min_eq_left hzl] using this
      have := hcell i (by omega)
      rw [add_lit] at this
      rw [this, ← hv]
      simp [is, hi, List.getD_eq_getElem?_getD, show i < zs.length by omega]
end
end Go.Proofs.YtlimpepdelpogaaGreatDoor
/-! EvIn -/
namespace Go.Proofs.YtlimpepdelpogaaGreatDoor
open Go.Al Go.RowKit Go.ChangeShapes Go.WideShapes
set_option linter.unusedVariables false
theorem inI_wf {n : Int} (h : (Lit.int .i64 n).wf = true) : inI n := by
  simp [Lit.wf, IntKind.min, IntKind.max, IntKind.signed, IntKind.bits] at h
  unfold inI
  omega
section
variable {H : Type} {enc : TypeId × Value → H} {w : World} {base : Nat} {spare : Nat → Bool} {held : Bool} {n : Nat} {cs : List Value} {x : DataW H × List MemPlace}
set_option maxRecDepth 100000 in
theorem trod_ansW (h : DataW.trod enc Tryz.prog w base spare held n 41 cs = some x) : ∃ (k : Int) (A : Option Addr) (c : Nat) (l : List Int), cs = [.int .i64 k, .slice A l.length c] ∧ Rd w A (is l) ∧ l.length ≤ c ∧ c ≤ maxLen ∧ inI k := by
  obtain ⟨xs, m, _, _, hl, hlen, hf⟩ := DataW.trod_struct Tryz.underlying41 h
  rw [show Tryz.prog.cellsOf 41 = 2 by kernel_rfl] at hl
  match cs, hl with
  | [c0, c1], _ =>
    match xs, hlen with
    | [y0, y1], _ =>
      have g0 := hf 0 _ rfl
      have g1 := hf 1 _ rfl
      simp [show Tryz.prog.cellsOf 3 = 1 by kernel_rfl] at g0
      simp [show Tryz.prog.cellsOf 39 = 1 by kernel_rfl] at g1
      obtain ⟨k, e0, wk⟩ := trod_i1 Tryz.underlying3 g0
      obtain ⟨A, c, l, e1, hr, h1, h2⟩ := trod_list g1
      simp at e0 e1
      subst e0
      subst e1
      exact ⟨k, A, c, l, rfl, hr, h1, h2, inI_wf wk⟩
set_option maxRecDepth 100000 in
theorem trod_repW (h : DataW.trod enc Tryz.prog w base spare held n 43 cs = some x) : ∃ t : Rp, cs = rpL t ∧ RpAt w t ∧ inI t.e ∧ inI t.n := by
  obtain ⟨xs, m, _, _, hl, hlen, hf⟩ := DataW.trod_struct Tryz.underlying43 h
  rw [show Tryz.prog.cellsOf 43 = 5 by kernel_rfl] at hl
  match cs, hl with
  | [c0, c1, c2, c3, c4], _ =>
    match xs, hlen with
    | [y0, y1, y2, y3], _ =>
      have g0 := hf 0 _ rfl
      have g1 := hf 1 _ rfl
      have g2 := hf 2 _ rfl
      have g3 := hf 3 _ rfl
      simp [show Tryz.prog.cellsOf 38 = 1 by kernel_rfl] at g0
      simp [show Tryz.prog.cellsOf 4 = 1 by kernel_rfl] at g1
      simp [show Tryz.prog.cellsOf 4 = 1 by kernel_rfl] at g2
      simp [show Tryz.prog.cellsOf 41 = 2 by kernel_rfl] at g3
      obtain ⟨e, e0, we⟩ := trod_i1 Tryz.underlying38 g0
      obtain ⟨a, e1, _⟩ := DataW.trod_bool Tryz.underlying4 g1
      obtain ⟨b, e2, _⟩ := DataW.trod_bool Tryz.underlying4 g2
      obtain ⟨k, A, c, l, e3, hr, h1, h2, wk⟩ := trod_ansW g3
      simp at e0 e1 e2 e3
      subst e0
      subst e1
      subst e2
      obtain ⟨rfl, rfl⟩ := e3
      exact ⟨⟨e, a, b, k, A, c, l⟩, rfl, ⟨hr, h1, h2⟩, inI_wf we, wk⟩
end
end Go.Proofs.YtlimpepdelpogaaGreatDoor
/-! EvW -/
namespace Go.Proofs.YtlimpepdelpogaaGreatDoor
open Go.Al Go.RowKit Go.ChangeShapes Go.WideShapes
set_option linter.unusedVariables false
section
variable {H : Type} {enc : TypeId × Value → H} {w : World} {base : Nat} {spare : Nat → Bool} {held : Bool} {n : Nat} {cs : List Value} {x : DataW H × List MemPlace}
set_option maxRecDepth 100000 in
theorem trod_eventK (h : DataW.trod enc Tryz.prog w base spare held n 45 cs = some x) : ∃ d : Ev, cs = evL d ∧ WfCg d.r.c ∧ RpAt w d.t ∧ WfEv d ∧ inI d.k := by
  obtain ⟨xs, m, _, _, hl, hlen, hf⟩ := DataW.trod_struct Tryz.underlying45 h
  rw [show Tryz.prog.cellsOf 45 = 27 by kernel_rfl] at hl
  obtain ⟨c0, c1, c2, c3, R, rfl⟩ : ∃ c0 c1 c2 c3 R, cs = c0 :: c1 :: c2 :: c3 :: R := by
    match cs, hl with
    | c0 :: c1 :: c2 :: c3 :: R, _ => exact ⟨c0, c1, c2, c3, R, rfl⟩
  have hR : R.length = 23 := by simpa using hl
  match xs, hlen with
  | [y0, y1, y2, y3, y4, y5], _ =>
    have g0 := hf 0 _ rfl
    have g1 := hf 1 _ rfl
    have g2 := hf 2 _ rfl
    have g3 := hf 3 _ rfl
    have g4 := hf 4 _ rfl
    have g5 := hf 5 _ rfl
    simp [show Tryz.prog.cellsOf 3 = 1 by kernel_rfl] at g0 g1 g2 g3
    simp [show Tryz.prog.cellsOf 37 = 18 by kernel_rfl] at g4
    simp [show Tryz.prog.cellsOf 43 = 5 by kernel_rfl] at g5
    obtain ⟨k, e0, w0⟩ := trod_i1 Tryz.underlying3 g0
    obtain ⟨st, e1, w1⟩ := trod_i1 Tryz.underlying3 g1
    obtain ⟨ss, e2, w2⟩ := trod_i1 Tryz.underlying3 g2
    obtain ⟨op, e3, w3⟩ := trod_i1 Tryz.underlying3 g3
    obtain ⟨r, e6, wc⟩ := trod_req g4
    obtain ⟨t, e7, ht, we, wn⟩ := trod_repW g5
    simp at e0 e1 e2 e3
    subst e0 e1 e2 e3
    refine ⟨⟨k, st, ss, op, r, t⟩, ?_, wc, ht, ⟨inI_wf w1, inI_wf w2, inI_wf w3, we, wn⟩, inI_wf w0⟩
    have e8 : R = rqL r ++ rpL t := by
      rw [← e6]
      have h7 : R.drop 18 = rpL t := by
        rw [← e7]
        first | rfl | (rw [List.take_of_length_le (by simp; omega)])
      rw [← h7, List.take_append_drop]
    rw [e8]
    rfl
end
def IsEventsK (w : World) (a : Option Addr) (len cap : Nat) (l : List Ev) : Prop := l.length = len ∧ Evs w a l ∧ (∀ d ∈ l, WfC d.r.c ∧ WfEv d ∧ inI d.k) ∧ len ≤ cap ∧ cap ≤ maxLen
def evzK : Ev := ⟨0, 0, 0, 0, ⟨0, ⟨0, (0, 0, 0), (0, 0, 0)⟩, ⟨0, 0, 0, 0, 0, 0, 0, 0, 0, 0⟩⟩, ⟨0, false, false, 0, none, 0, []⟩⟩
theorem open_eventsK {H : Type} {enc : TypeId × Value → H} {w : World} {base fuel : Nat} {spare : Nat → Bool} {held : Bool} {a : Option Addr} {len cap : Nat} {x : DataW H × List MemPlace}
    (h : DataW.trod enc Tryz.prog w base spare held fuel 22 [.slice a len cap] = some x) : ∃ l, IsEventsK w a len cap l := by
  rcases Deep.open_slice Tryz.underlying22 h with ⟨h0, _⟩ | ⟨A, l, c, m, n, D, Pl, hcs, _, hl, hm, hmm, _, hx⟩
  · simp at h0
    obtain ⟨rfl, rfl, rfl⟩ := h0
    exact ⟨[], rfl, ⟨fun h => absurd rfl h, by simp⟩, by simp, Nat.le_refl _, Nat.zero_le _⟩
  · simp at hcs
    obtain ⟨rfl, rfl, rfl⟩ := hcs
    have hlm : len ≤ m := by rw [hmm]; split <;> omega
    have each : ∀ i, ∃ d : Ev, i < len → WfCg d.r.c ∧ RpAt w d.t ∧ (WfEv d ∧ inI d.k) ∧ ∀ j v, (evL d)[j]? = some v → w.cell? (A.add (i * 27 + j)) = some v := fun i => by
      by_cases hi : i < len
      · obtain ⟨cs', h1, h2⟩ := hx i (Nat.lt_of_lt_of_le hi hlm)
        rw [show Tryz.prog.cellsOf 45 = 27 by kernel_rfl] at h1
        obtain ⟨_, hlen, hcell⟩ := World.cells?_some h1
        obtain ⟨d, rfl, hw, hr, hv0⟩ := trod_eventK h2
        refine ⟨d, fun _ => ⟨hw, hr, hv0, fun j v hv => ?_⟩⟩
        have hj := (List.getElem?_eq_some_iff.1 hv).1
        have := hcell j (by rw [evL_length] at hj; exact hj)
        rw [Deep.add_add] at this
        rw [this]
        first | exact hv | (rw [← hv, List.getElem?_eq_getElem hj])
      · exact ⟨evzK, fun h => absurd h hi⟩
    obtain ⟨f, hf⟩ := Classical.skolem.1 each
    refine ⟨(List.range len).map f, by simp, ⟨fun hne => ?_, ?_⟩, ?_, hl, hm⟩
    · have h0 : 0 < len := by
        rcases Nat.eq_zero_or_pos len with e | e
        · subst e; simp at hne
        · exact e
      have hz := (hf 0 h0).2.2.2 0 _ (show (evL (f 0))[0]? = some (.int .i64 (f 0).k) from rfl)
      have hlt := World.block_lt_of_cell? w _ hz
      obtain ⟨xb, xo, xs⟩ := A
      have hs : xs = none := by simpa [Addr.add] using World.cell?_spot hz
      subst hs
      rw [add_lit] at hlt
      refine ⟨xb, xo, rfl, hlt, fun i hi j v hv => ?_⟩
      have hi' : i < len := by simpa using hi
      have hv' : (evL (f i))[j]? = some v := by simpa using hv
      have := (hf i hi').2.2.2 j v hv'
      rw [add_lit] at this
      rw [← this, ← Nat.add_assoc]
    · intro d hd
      obtain ⟨i, hi, rfl⟩ := List.mem_map.1 hd
      exact (hf i (List.mem_range.1 hi)).2.1
    · intro d hd
      obtain ⟨i, hi, rfl⟩ := List.mem_map.1 hd
      have h3 := hf i (List.mem_range.1 hi)
      exact ⟨⟨h3.1.2.1.1, h3.1.2.2.1⟩, h3.2.2.1⟩
end Go.Proofs.YtlimpepdelpogaaGreatDoor
