/-
  Loads and stores of rows of cells as arms that fail at once where they do not fit. No conditions.
-/
import Derived.Test.YtlodanjpkjfjiaaGreatDoorAcW
namespace Go.Proofs.YtlodanjpkjfjiaaGreatDoor
open Go.RowKit Go.Al
set_option linter.unusedVariables false

/-- a type of rows of n cells -/
structure RowTy (P : Program) (ty : TypeId) (n : Nat) : Prop where
  d : ∃ d, P.underlying ty = some d ∧ d.isRow = true
  sz : (P.info? ty).map (·.size) = some n
theorem rowReq : RowTy Tryz.prog 35 18 := ⟨⟨_, Tryz.underlying35, rfl⟩, infoRqE⟩
theorem rowAct : RowTy Tryz.prog 38 22 := ⟨⟨_, Tryz.underlying38, rfl⟩, infoAct⟩
variable {P : Program} {ops : Array Oper} {rest : List Oper} {a : Act} {w : World} {Q : Exit → Act → World → Prop} {dst : Option Tmp} {type : TypeId} {pos : String} {after : Array Edge} {guard : Option (Nat × Bool)}
theorem ldR (ty : TypeId) {x : Operand} (b o n : Nat) (cs : List Value) (hT : RowTy P ty n) (hn : cs.length = n) (hc : w.rangeAt b o cs)
    (hgd : Region.wanted { dst := dst, op := .load ty x, type := type, pos := pos, after := after, guard := guard } (yielded ops a.tmps) = true) (hx : a.eval x = .pointer (some ⟨b, o, none⟩))
    (h : wpList P ops Q rest (a.put dst (.agg cs.toArray)) w) : wpList P ops Q ({ dst := dst, op := .load ty x, type := type, pos := pos, after := after, guard := guard } :: rest) a w := by
  obtain ⟨⟨d, hu, hd⟩, hs⟩ := hT
  exact wpList_ld hgd ty x rfl b o hx cs d hc hu hd (by rw [hn]; exact hs) h
/-- into a block that is known whole -/
theorem stR (ty : TypeId) {x y : Operand} (g n : Nat) (cs : List Value) (t : TypeId) (old : Array Value) (hT : RowTy P ty n) (hn : cs.length = n) (ho : old.size = n) (hb : Blk w g t old) (h1 : ∀ u ∈ cs, u.oneCell' = true)
    (hx : a.eval x = .pointer (some ⟨g, 0, none⟩)) (hy : a.eval y = .agg cs.toArray)
    (h : wpList P ops Q rest (a.put dst undef) (w.setRow g cs.toArray)) : wpList P ops Q ({ dst := dst, op := .store ty x y, type := type, pos := pos, after := after, guard := none } :: rest) a w :=
  wpList_store_row rfl ty x y rfl g cs.toArray hx hy t old hb (by rw [List.size_toArray, hn]; exact hT.sz) (by simp [hn, ho]) (all_oneCell_toArray h1) h
/-- into a block just laid -/
theorem stN (ty : TypeId) {x y : Operand} (n : Nat) (cs : List Value) (t : TypeId) (old : Array Value) (hT : RowTy P ty n) (hn : cs.length = n) (ho : old.size = n) (h1 : ∀ u ∈ cs, u.oneCell' = true)
    (hx : a.eval x = .pointer (some ⟨w.heap.size, 0, none⟩)) (hy : a.eval y = .agg cs.toArray)
    (h : wpList P ops Q rest (a.put dst undef) (w.alloc (.cells cs.toArray t))) : wpList P ops Q ({ dst := dst, op := .store ty x y, type := type, pos := pos, after := after, guard := none } :: rest) a (w.alloc (.cells old t)) :=
  wpList_st rfl ty x y rfl hx cs hy t old (by rw [hn]; exact hT.sz) (by rw [hn]; exact ho) h1 h
/-- into the middle of a block -/
theorem stM (ty : TypeId) {x y : Operand} (b o n : Nat) (cs : List Value) (hT : RowTy P ty n) (hn : cs.length = n) (ht : w.there b o n) (h1 : ∀ u ∈ cs, u.oneCell' = true)
    (hx : a.eval x = .pointer (some ⟨b, o, none⟩)) (hy : a.eval y = .agg cs.toArray)
    (h : wpList P ops Q rest (a.put dst undef) (w.setCells b o cs)) : wpList P ops Q ({ dst := dst, op := .store ty x y, type := type, pos := pos, after := after, guard := none } :: rest) a w :=
  wpList_store_mid rfl ty x y rfl b o cs.toArray hx hy (by rw [List.size_toArray, hn]; exact ht) (by rw [List.size_toArray, hn]; exact hT.sz) (all_oneCell_toArray h1) h
end Go.Proofs.YtlodanjpkjfjiaaGreatDoor
