/-
  A change, and a slice of changes, that came in, as a reading tells them. No conditions.
-/
import Derived.Test.YthjnecicagmdeaaGreatTbA
import Derived.Deep.Slices
import Derived.Lib.SmallJoins
namespace Go.Proofs.YthjnecicagmdeaaGreat
open Go.Al Go.RowKit Go.ChangeShapes Go.WideShapes
set_option linter.unusedVariables false

def Wf3 (p : P3) : Prop := (Lit.int .i64 p.1).wf = true ∧ (Lit.int .i64 p.2.1).wf = true ∧ (Lit.int .i64 p.2.2).wf = true
def WfCg (c : Cg) : Prop := (Lit.int .i64 c.k).wf = true ∧ Wf3 c.p ∧ Wf3 c.s
section
variable {H : Type} {enc : TypeId × Value → H} {P : Program} {w : World} {base : Nat} {spare : Nat → Bool} {held : Bool}
theorem trod_i1 {t : TypeId} {n : Nat} {cs : List Value} {x : DataW H × List MemPlace} (hu : P.underlying t = some (.int .i64)) (h : DataW.trod enc P w base spare held n t cs = some x) :
    ∃ a, cs = [.int .i64 a] ∧ (Lit.int .i64 a).wf = true := by
  obtain ⟨k, hk, _, wk⟩ := DataW.trod_int hu h
  exact ⟨k, hk, wk⟩
theorem trod_i3 {t : TypeId} {f0 f1 f2 : Field} {n : Nat} {cs : List Value} {x : DataW H × List MemPlace} (hs : P.underlying t = some (.struct #[f0, f1, f2])) (hC : P.cellsOf t = 3)
    (o0 : f0.offset = 0) (o1 : f1.offset = 1) (o2 : f2.offset = 2) (u0 : P.underlying f0.type = some (.int .i64)) (u1 : P.underlying f1.type = some (.int .i64)) (u2 : P.underlying f2.type = some (.int .i64))
    (k0 : P.cellsOf f0.type = 1) (k1 : P.cellsOf f1.type = 1) (k2 : P.cellsOf f2.type = 1) (h : DataW.trod enc P w base spare held n t cs = some x) :
    ∃ p : P3, cs = [.int .i64 p.1, .int .i64 p.2.1, .int .i64 p.2.2] ∧ Wf3 p := by
  obtain ⟨xs, m, _, _, hl, hlen, hf⟩ := DataW.trod_struct hs h
  rw [hC] at hl
  match cs, hl with
  | [c0, c1, c2], _ =>
    match xs, hlen with
    | [y0, y1, y2], _ =>
      have g0 := hf 0 f0 rfl
      have g1 := hf 1 f1 rfl
      have g2 := hf 2 f2 rfl
      simp [o0, o1, o2, k0, k1, k2] at g0 g1 g2
      obtain ⟨a, ha, wa⟩ := trod_i1 u0 g0
      obtain ⟨b, hb, wb⟩ := trod_i1 u1 g1
      obtain ⟨c, hc, wc⟩ := trod_i1 u2 g2
      simp at ha hb hc
      subst ha hb hc
      exact ⟨(a, b, c), rfl, wa, wb, wc⟩
theorem trod_cg {t : TypeId} {f0 f1 f2 p0 p1 p2 s0 s1 s2 : Field} {n : Nat} {cs : List Value} {x : DataW H × List MemPlace} (hs : P.underlying t = some (.struct #[f0, f1, f2])) (hC : P.cellsOf t = 7)
    (o0 : f0.offset = 0) (o1 : f1.offset = 1) (o2 : f2.offset = 4) (u0 : P.underlying f0.type = some (.int .i64)) (k0 : P.cellsOf f0.type = 1)
    (hp : P.underlying f1.type = some (.struct #[p0, p1, p2])) (kp : P.cellsOf f1.type = 3) (hss : P.underlying f2.type = some (.struct #[s0, s1, s2])) (ks : P.cellsOf f2.type = 3)
    (hpp : p0.offset = 0 ∧ p1.offset = 1 ∧ p2.offset = 2 ∧ P.underlying p0.type = some (.int .i64) ∧ P.underlying p1.type = some (.int .i64) ∧ P.underlying p2.type = some (.int .i64) ∧ P.cellsOf p0.type = 1 ∧ P.cellsOf p1.type = 1 ∧ P.cellsOf p2.type = 1)
    (hsp : s0.offset = 0 ∧ s1.offset = 1 ∧ s2.offset = 2 ∧ P.underlying s0.type = some (.int .i64) ∧ P.underlying s1.type = some (.int .i64) ∧ P.underlying s2.type = some (.int .i64) ∧ P.cellsOf s0.type = 1 ∧ P.cellsOf s1.type = 1 ∧ P.cellsOf s2.type = 1)
    (h : DataW.trod enc P w base spare held n t cs = some x) :
    ∃ c : Cg, cs = [.int .i64 c.k, .int .i64 c.p.1, .int .i64 c.p.2.1, .int .i64 c.p.2.2, .int .i64 c.s.1, .int .i64 c.s.2.1, .int .i64 c.s.2.2] ∧ WfCg c := by
  obtain ⟨xs, m, _, _, hl, hlen, hf⟩ := DataW.trod_struct hs h
  rw [hC] at hl
  match cs, hl with
  | [c0, c1, c2, c3, c4, c5, c6], _ =>
    match xs, hlen with
    | [y0, y1, y2], _ =>
      have g0 := hf 0 f0 rfl
      have g1 := hf 1 f1 rfl
      have g2 := hf 2 f2 rfl
      simp [o0, o1, o2, k0, kp, ks] at g0 g1 g2
      obtain ⟨a, ha, wa⟩ := trod_i1 u0 g0
      obtain ⟨p, hb, wb⟩ := trod_i3 hp kp hpp.1 hpp.2.1 hpp.2.2.1 hpp.2.2.2.1 hpp.2.2.2.2.1 hpp.2.2.2.2.2.1 hpp.2.2.2.2.2.2.1 hpp.2.2.2.2.2.2.2.1 hpp.2.2.2.2.2.2.2.2 g1
      obtain ⟨q, hc, wc⟩ := trod_i3 hss ks hsp.1 hsp.2.1 hsp.2.2.1 hsp.2.2.2.1 hsp.2.2.2.2.1 hsp.2.2.2.2.2.1 hsp.2.2.2.2.2.2.1 hsp.2.2.2.2.2.2.2.1 hsp.2.2.2.2.2.2.2.2 g2
      simp at ha hb hc
      obtain ⟨rfl, rfl, rfl⟩ := hb
      obtain ⟨rfl, rfl, rfl⟩ := hc
      subst ha
      exact ⟨⟨a, p, q⟩, rfl, wa, wb, wc⟩
end

/-- the program's own change -/
theorem trod_change {H : Type} {enc : TypeId × Value → H} {w : World} {base : Nat} {spare : Nat → Bool} {held : Bool} {n : Nat} {cs : List Value} {x : DataW H × List MemPlace} (h : DataW.trod enc Tryz.prog w base spare held n 113 cs = some x) :
    ∃ c : Cg, cs = [.int .i64 c.k, .int .i64 c.p.1, .int .i64 c.p.2.1, .int .i64 c.p.2.2, .int .i64 c.s.1, .int .i64 c.s.2.1, .int .i64 c.s.2.2] ∧ WfCg c :=
  trod_cg Tryz.underlying113 (by kernel_rfl) rfl rfl rfl Tryz.underlying3 (by kernel_rfl) Tryz.underlying40 (by kernel_rfl) Tryz.underlying42 (by kernel_rfl)
    ⟨rfl, rfl, rfl, Tryz.underlying3, Tryz.underlying3, Tryz.underlying3, by kernel_rfl, by kernel_rfl, by kernel_rfl⟩ ⟨rfl, rfl, rfl, Tryz.underlying3, Tryz.underlying3, Tryz.underlying3, by kernel_rfl, by kernel_rfl, by kernel_rfl⟩ h

set_option maxRecDepth 100000 in
/-- a change by value -/
theorem open_change {H : Type} {enc : TypeId × Value → H} {w : World} {base b0 : Nat} {spare : Nat → Bool} {held : Bool} {r : Reach} {v : Value} {d : DataW H} {p : List MemPlace}
    (hv : Value.okWide Tryz.prog w r b0 113 v) (h : DataW.Trod enc Tryz.prog w base spare held 113 v d p) : ∃ c : Cg, v = cgV c ∧ WfCg c := by
  obtain ⟨cs, rfl, hsz⟩ := okWide_struct Tryz.underlying113 hv
  obtain ⟨n, hn⟩ := h
  obtain ⟨c, hc, hw⟩ := trod_change hn
  refine ⟨c, ?_, hw⟩
  have : cs.toList = _ := hc
  rw [← Array.toArray_toList (xs := cs), this]
  rfl

/-- a slice of changes that came in -/
def ActsC (w : World) (A : Option Addr) (n : Nat) (l : List Cg) : Prop :=
  l.length = n ∧ (l ≠ [] → ∃ b off, A = some ⟨b, off, none⟩ ∧ b < w.heap.size ∧ ∀ i (h : i < l.length),
    w.cell? ⟨b, off + i * 7, none⟩ = some (.int .i64 l[i].k) ∧ w.cell? ⟨b, off + i * 7 + 1, none⟩ = some (.int .i64 l[i].p.1) ∧ w.cell? ⟨b, off + i * 7 + 2, none⟩ = some (.int .i64 l[i].p.2.1) ∧ w.cell? ⟨b, off + i * 7 + 3, none⟩ = some (.int .i64 l[i].p.2.2) ∧
    w.cell? ⟨b, off + i * 7 + 4, none⟩ = some (.int .i64 l[i].s.1) ∧ w.cell? ⟨b, off + i * 7 + 5, none⟩ = some (.int .i64 l[i].s.2.1) ∧ w.cell? ⟨b, off + i * 7 + 6, none⟩ = some (.int .i64 l[i].s.2.2))
def CellsC (w : World) (b o : Nat) (c : Cg) : Prop :=
  w.cell? ⟨b, o, none⟩ = some (.int .i64 c.k) ∧ w.cell? ⟨b, o + 1, none⟩ = some (.int .i64 c.p.1) ∧ w.cell? ⟨b, o + 2, none⟩ = some (.int .i64 c.p.2.1) ∧ w.cell? ⟨b, o + 3, none⟩ = some (.int .i64 c.p.2.2) ∧
    w.cell? ⟨b, o + 4, none⟩ = some (.int .i64 c.s.1) ∧ w.cell? ⟨b, o + 5, none⟩ = some (.int .i64 c.s.2.1) ∧ w.cell? ⟨b, o + 6, none⟩ = some (.int .i64 c.s.2.2)
theorem ActsC.at_ {w wr : World} {A : Option Addr} {n i : Nat} {l : List Cg} (h : ActsC w A n l) (hw : ∀ c ∈ l, WfCg c) (hs : Same w wr) (hi : i < n) :
    ∃ b off c, A = some ⟨b, off, none⟩ ∧ b < w.heap.size ∧ l[i]? = some c ∧ WfCg c ∧ CellsC wr b (off + i * 7) c := by
  have hl : i < l.length := by rw [h.1]; exact hi
  obtain ⟨b, off, e, hb, hc⟩ := h.2 (fun e => by rw [e] at hl; simp at hl)
  obtain ⟨h0, h1, h2, h3, h4, h5, h6⟩ := hc i hl
  have k : ∀ j, wr.cell? ⟨b, j, none⟩ = w.cell? ⟨b, j, none⟩ := fun j => hs.cell (p := ⟨b, j, none⟩) hb (fun h => h)
  exact ⟨b, off, l[i], e, hb, List.getElem?_eq_getElem hl, hw _ (List.getElem_mem hl), (k _).trans h0, (k _).trans h1, (k _).trans h2, (k _).trans h3, (k _).trans h4, (k _).trans h5, (k _).trans h6⟩
def IsActsC (w : World) (a : Option Addr) (len cap : Nat) (l : List Cg) : Prop := ActsC w a len l ∧ (∀ c ∈ l, WfCg c) ∧ len ≤ cap ∧ cap ≤ maxLen
end Go.Proofs.YthjnecicagmdeaaGreat
