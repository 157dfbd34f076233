/-
  Points and intervals that came in together, as a reading tells them. No conditions.
-/
import Derived.Test.YthjnecicagmdeaaGreatPtIn
namespace Go.Proofs.YthjnecicagmdeaaGreat
open Go.Al Go.RowKit Go.ChangeShapes Go.WideShapes
set_option linter.unusedVariables false

theorem trod_slice_is {H : Type} {enc : TypeId × Value → H} {P : Program} {w : World} {base fuel : Nat} {spare : Nat → Bool} {held : Bool} {t e : TypeId} {c : Value} {x : DataW H × List MemPlace} (ht : P.underlying t = some (.slice e)) (h : DataW.trod enc P w base spare held fuel t [c] = some x) : ∃ a len cap, c = .slice a len cap := by
  rcases Deep.open_slice ht h with ⟨h0, _⟩ | ⟨A, l, k, m, n, D, Pl, hcs, _⟩
  · exact ⟨none, 0, 0, by simpa using h0⟩
  · exact ⟨some A, l, k, by simpa using hcs⟩
def gvV (a0 : Option Addr) (len0 cap0 : Nat) (a1 : Option Addr) (len1 cap1 : Nat) : Value := .agg #[.slice a0 len0 cap0, .slice a1 len1 cap1]
set_option maxRecDepth 100000 in
theorem open_given {H : Type} {enc : TypeId × Value → H} {w : World} {base b0 : Nat} {spare : Nat → Bool} {held : Bool} {r : Reach} {v : Value} {d : DataW H} {p : List MemPlace}
    (hv : Value.okWide Tryz.prog w r b0 25 v) (h : DataW.Trod enc Tryz.prog w base spare held 25 v d p) : ∃ a0 len0 cap0 l0 a1 len1 cap1 l1, v = gvV a0 len0 cap0 a1 len1 cap1 ∧ Row3 w a0 len0 cap0 l0 ∧ Row3 w a1 len1 cap1 l1 := by
  simp only [Value.okWide, Tryz.underlying25] at hv
  obtain ⟨cs, rfl, hsz, ts, hts, _, hcell⟩ := hv
  have e : Tryz.prog.cellTypes Tryz.prog.depth 25 = some [22, 23] := by kernel_rfl
  rw [e] at hts
  cases hts
  obtain ⟨n, hn⟩ := h
  obtain ⟨xs, m, _, _, hl, hlen, hf⟩ := DataW.trod_struct Tryz.underlying25 hn
  obtain ⟨l, rfl⟩ : ∃ l : List Value, cs = l.toArray := ⟨cs.toList, by simp⟩
  have hc2 : Tryz.prog.cellsOf 25 = 2 := by kernel_rfl
  rw [hc2] at hl hsz
  have hf : ∀ j f, _ := hf
  match l, xs, hsz, hlen, hf, hcell with
  | [c0, c1], [y0, y1], _, _, hf, hcell =>
    have g0 := hf 0 _ rfl
    have g1 := hf 1 _ rfl
    simp [Value.cells, show Tryz.prog.cellsOf 22 = 1 by kernel_rfl] at g0
    simp [Value.cells, show Tryz.prog.cellsOf 23 = 1 by kernel_rfl] at g1
    obtain ⟨a0, len0, cap0, rfl⟩ := trod_slice_is Tryz.underlying22 g0
    obtain ⟨a1, len1, cap1, rfl⟩ := trod_slice_is Tryz.underlying23 g1
    obtain ⟨u0, hu0, k0⟩ := hcell 0 _ rfl
    obtain ⟨u1, hu1, k1⟩ := hcell 1 _ rfl
    cases hu0
    cases hu1
    obtain ⟨l0, r0, _⟩ := open_pts (r := r) (b0 := b0) (by simp only [Value.okWide, Tryz.underlying22]; exact k0) g0
    obtain ⟨l1, r1, _⟩ := open_sps (r := r) (b0 := b0) (by simp only [Value.okWide, Tryz.underlying23]; exact k1) g1
    exact ⟨a0, len0, cap0, l0, a1, len1, cap1, l1, rfl, r0, r1⟩
end Go.Proofs.YthjnecicagmdeaaGreat
