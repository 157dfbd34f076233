/-
  Rows of cells: loads and stores as arms that fail at once where they do not fit; the world behind a store is a letter. No conditions.
-/
import Derived.Test.YthjnecicagmdeaaGreatQs
namespace Go.Proofs.YthjnecicagmdeaaGreat
open Go.RowKit Go.Al
set_option linter.unusedVariables false

theorem Chg.setRow {S : Nat → Prop} {a w : World} {g : Nat} (h : Chg S a w) (hg : S g ∨ a.heap.size ≤ g) (cs : Array Value) : Chg S a (w.setRow g cs) :=
  ⟨h.os, h.tape, h.output, by rw [setRow_size]; exact h.size, fun k hk => by rw [ty_setRow]; exact h.tys k hk, fun k hk hn => by
    have hne : k ≠ g := fun e => by
      subst e
      rcases hg with h | h
      · exact hn h
      · omega
    rw [setRow_other _ _ _ _ hne]
    exact h.block k hk hn⟩
theorem Blk.setRow_ {w : World} {g : Nat} {t : TypeId} {cs : Array Value} (h : Blk w g t cs) (cs' : Array Value) : Blk (w.setRow g cs') g t cs' := setRow_heap w g cs cs' t (0, 0) h
theorem Blk.setRow_ne {w : World} {g g' : Nat} {t : TypeId} {cs : Array Value} (h : Blk w g t cs) (hne : g ≠ g') (cs' : Array Value) : Blk (w.setRow g' cs') g t cs := (setRow_other w g' g cs' hne).trans h
theorem blk_range {w : World} {g : Nat} {t : TypeId} {L : List Value} (h : Blk w g t L.toArray) : w.rangeAt g 0 L := fun j v hv => by
  rw [Nat.zero_add, h.cell]
  simpa using hv
theorem Chg.setCells {S : Nat → Prop} {a : World} {g : Nat} : ∀ (vs : List Value) (o : Nat) {w : World}, Chg S a w → (S g ∨ a.heap.size ≤ g) → Chg S a (w.setCells g o vs)
  | [], o, w, h, _ => h
  | v :: vs, o, w, h, hg => by
    rw [World.setCells]
    exact Chg.setCells vs (o + 1) (h.setCell (p := ⟨g, o, none⟩) hg v) hg
theorem Blk.setCells_ {g : Nat} {t : TypeId} : ∀ (vs xs ys zs : List Value) {w : World}, ys.length = vs.length → Blk w g t (xs ++ ys ++ zs).toArray → Blk (w.setCells g xs.length vs) g t (xs ++ vs ++ zs).toArray
  | [], xs, ys, zs, w, hl, h => by
    have : ys = [] := List.eq_nil_of_length_eq_zero hl
    subst this
    exact h
  | v :: vs, xs, [], zs, w, hl, h => by simp at hl
  | v :: vs, xs, y :: ys, zs, w, hl, h => by
    rw [World.setCells]
    have h1 := h.set_ xs.length v
    have e : (xs ++ y :: ys ++ zs).toArray.setIfInBounds xs.length v = (xs ++ [v] ++ ys ++ zs).toArray := by simp
    rw [e] at h1
    have h2 := Blk.setCells_ vs (xs ++ [v]) ys zs (by simpa using hl) h1
    simpa using h2
theorem Blk.far_cells {w : World} {g g' : Nat} {t : TypeId} {cs : Array Value} (h : Blk w g t cs) (hne : g ≠ g') (o : Nat) (vs : List Value) : Blk (w.setCells g' o vs) g t cs :=
  h.chg (Chg.setCells (S := fun k => k = g') vs o (Chg.refl _ _) (.inl rfl)) hne
/-- a type of rows of n cells -/
structure RowTy (P : Program) (ty : TypeId) (n : Nat) : Prop where
  d : ∃ d, P.underlying ty = some d ∧ d.isRow = true
  sz : (P.info? ty).map (·.size) = some n
variable {P : Program} {ops : Array Oper} {rest : List Oper} {a : Act} {w : World} {Q : Exit → Act → World → Prop} {dst : Option Tmp} {type : TypeId} {pos : String} {after : Array Edge} {guard : Option (Nat × Bool)}
theorem ldR (ty : TypeId) {x : Operand} (b o n : Nat) (cs : List Value) (hT : RowTy P ty n) (hn : cs.length = n) (hc : w.rangeAt b o cs)
    (hgd : Region.wanted { dst := dst, op := .load ty x, type := type, pos := pos, after := after, guard := guard } (yielded ops a.tmps) = true) (hx : a.eval x = .pointer (some ⟨b, o, none⟩))
    (h : wpList P ops Q rest (a.put dst (.agg cs.toArray)) w) : wpList P ops Q ({ dst := dst, op := .load ty x, type := type, pos := pos, after := after, guard := guard } :: rest) a w := by
  obtain ⟨⟨d, hu, hd⟩, hs⟩ := hT
  exact wpList_ld hgd ty x rfl b o hx cs d hc hu hd (by rw [hn]; exact hs) h
/-- into a block that is known whole -/
theorem stR (ty : TypeId) {x y : Operand} (g n : Nat) (cs : List Value) (t : TypeId) (old : Array Value) (hT : RowTy P ty n) (hn : cs.length = n) (ho : old.size = n) (hb : Blk w g t old) (h1 : ∀ u ∈ cs, u.oneCell' = true)
    (hx : a.eval x = .pointer (some ⟨g, 0, none⟩)) (hy : a.eval y = .agg cs.toArray)
    (h : wpList P ops Q rest (a.put dst undef) (w.setRow g cs.toArray)) : wpList P ops Q ({ dst := dst, op := .store ty x y, type := type, pos := pos, after := after, guard := none } :: rest) a w :=
  wpList_store_row rfl ty x y rfl g cs.toArray hx hy t old hb (by rw [List.size_toArray, hn]; exact hT.sz) (by simp [hn, ho]) (all_oneCell_toArray h1) h
/-- into a block just laid -/
theorem stN (ty : TypeId) {x y : Operand} (n : Nat) (cs : List Value) (t : TypeId) (old : Array Value) (hT : RowTy P ty n) (hn : cs.length = n) (ho : old.size = n) (h1 : ∀ u ∈ cs, u.oneCell' = true)
    (hx : a.eval x = .pointer (some ⟨w.heap.size, 0, none⟩)) (hy : a.eval y = .agg cs.toArray)
    (h : wpList P ops Q rest (a.put dst undef) (w.alloc (.cells cs.toArray t))) : wpList P ops Q ({ dst := dst, op := .store ty x y, type := type, pos := pos, after := after, guard := none } :: rest) a (w.alloc (.cells old t)) :=
  wpList_st rfl ty x y rfl hx cs hy t old (by rw [hn]; exact hT.sz) (by rw [hn]; exact ho) h1 h
/-- into the middle of a block -/
theorem stM (ty : TypeId) {x y : Operand} (b o n : Nat) (cs : List Value) (hT : RowTy P ty n) (hn : cs.length = n) (ht : w.there b o n) (h1 : ∀ u ∈ cs, u.oneCell' = true)
    (hx : a.eval x = .pointer (some ⟨b, o, none⟩)) (hy : a.eval y = .agg cs.toArray)
    (h : wpList P ops Q rest (a.put dst undef) (w.setCells b o cs)) : wpList P ops Q ({ dst := dst, op := .store ty x y, type := type, pos := pos, after := after, guard := none } :: rest) a w :=
  wpList_store_mid rfl ty x y rfl b o cs.toArray hx hy (by rw [List.size_toArray, hn]; exact ht) (by rw [List.size_toArray, hn]; exact hT.sz) (all_oneCell_toArray h1) h
/-- into a block just laid -/
theorem stNg (ty : TypeId) {x y : Operand} (n : Nat) (cs : List Value) (t : TypeId) (old : Array Value) (hT : RowTy P ty n) (hn : cs.length = n) (ho : old.size = n) (h1 : ∀ u ∈ cs, u.oneCell' = true)
    (hx : a.eval x = .pointer (some ⟨w.heap.size, 0, none⟩)) (hy : a.eval y = .agg cs.toArray)
    (h : ∀ w', Same w w' → w'.heap.size = w.heap.size + 1 → Blk w' w.heap.size t cs.toArray → wpList P ops Q rest (a.put dst undef) w') : wpList P ops Q ({ dst := dst, op := .store ty x y, type := type, pos := pos, after := after, guard := none } :: rest) a (w.alloc (.cells old t)) :=
  stN ty n cs t old hT hn ho h1 hx hy (h _ ((Chg.refl _ w).alloc _) (World.size_alloc _ _) (Blk.new w t cs.toArray))
/-- into a block that is known whole -/
theorem stRg (ty : TypeId) {x y : Operand} (g n : Nat) (cs : List Value) (t : TypeId) (old : Array Value) (hT : RowTy P ty n) (hn : cs.length = n) (ho : old.size = n) (hb : Blk w g t old) (h1 : ∀ u ∈ cs, u.oneCell' = true)
    (hx : a.eval x = .pointer (some ⟨g, 0, none⟩)) (hy : a.eval y = .agg cs.toArray)
    (h : ∀ w', Chg (· = g) w w' → w'.heap.size = w.heap.size → Blk w' g t cs.toArray → wpList P ops Q rest (a.put dst undef) w') : wpList P ops Q ({ dst := dst, op := .store ty x y, type := type, pos := pos, after := after, guard := none } :: rest) a w :=
  stR ty g n cs t old hT hn ho hb h1 hx hy (h _ (Chg.setRow (S := fun k => k = g) (Chg.refl _ w) (.inl rfl) _) (setRow_size _ _ _) (Blk.setRow_ hb _))
/-- into the middle of a block that is known whole -/
theorem stMg (ty : TypeId) {x y : Operand} (g o n : Nat) (xs ys zs vs : List Value) (t : TypeId) (hT : RowTy P ty n) (hn : vs.length = n) (hl : ys.length = n) (ho : xs.length = o) (hb : Blk w g t (xs ++ ys ++ zs).toArray) (h1 : ∀ u ∈ vs, u.oneCell' = true)
    (hx : a.eval x = .pointer (some ⟨g, o, none⟩)) (hy : a.eval y = .agg vs.toArray)
    (h : ∀ w', Chg (· = g) w w' → Blk w' g t (xs ++ vs ++ zs).toArray → wpList P ops Q rest (a.put dst undef) w') : wpList P ops Q ({ dst := dst, op := .store ty x y, type := type, pos := pos, after := after, guard := none } :: rest) a w := by
  subst ho
  refine stM ty g xs.length n vs hT hn (fun j hj => ⟨?_, hb.frozen _⟩) h1 hx hy (h _ (Chg.setCells vs _ (Chg.refl _ w) (.inl rfl)) (Blk.setCells_ vs xs ys zs (by rw [hl, hn]) hb))
  rw [hb.cell]
  have : xs.length + j < (xs ++ ys ++ zs).length := by simp; omega
  simp only [List.getElem?_toArray, List.getElem?_eq_getElem this]
  rfl
/-- a row of n plain cells -/
structure RowL (cs : List Value) (n : Nat) : Prop where
  len : cs.length = n
  one : ∀ u ∈ cs, u.oneCell' = true
theorem RowL.lit {cs : List Value} {n : Nat} (h : cs.length = n) (h1 : cs.all (·.oneCell') = true) : RowL cs n := ⟨h, fun u hu => List.all_eq_true.1 h1 u hu⟩
/-- a plain cell at a place of a row -/
structure CellL (cs : List Value) (o : Nat) (v : Value) : Prop where
  lt : o < cs.length
  one : v.oneCell' = true
theorem cells_1 {v : Value} (h : v.oneCell' = true) : v.cells = #[v] := by
  cases v <;> first | rfl | simp [Value.oneCell'] at h
theorem run_storeVar_c (ty : TypeId) (g o : Nat) (v : Value) (t : TypeId) (cs : List Value) (hi : (P.info? ty).map (·.size) = some 1) (h1 : v.oneCell' = true) (hb : Blk w g t cs.toArray) (ho : o < cs.length) :
    (storeVar ty ⟨g, o, none⟩ v).run P w = .ok () (w.setCell ⟨g, o, none⟩ v) := by
  have hc : w.cell? ⟨g, o, none⟩ = some cs[o] := by rw [hb.cell, List.getElem?_toArray, List.getElem?_eq_getElem ho]
  have hf : w.frozen? ⟨g, o, none⟩ = false := hb.frozen _
  have ha : (⟨g, o, none⟩ : Addr).add 0 = ⟨g, o, none⟩ := by unfold Addr.add; split <;> simp_all
  cases hq : P.info? ty with
  | none => simp [hq] at hi
  | some i =>
    have hs : i.size = 1 := by simpa [hq] using hi
    simp [storeVar, cells_1 h1, sizeOf, typeInfo, hq, hs, storeCells, run_store P _ _ v _ h1, ha, hc, hf, Result.andThen]
/-- one cell of a block that is known whole -/
theorem stCg (ty : TypeId) {x y : Operand} (g o : Nat) (v : Value) (t : TypeId) (cs : List Value) (hi : (P.info? ty).map (·.size) = some 1) (h1 : v.oneCell' = true) (hb : Blk w g t cs.toArray) (ho : o < cs.length)
    (hx : a.eval x = .pointer (some ⟨g, o, none⟩)) (hy : a.eval y = v)
    (h : ∀ w', Chg (· = g) w w' → Blk w' g t (cs.set o v).toArray → wpList P ops Q rest (a.put dst undef) w') : wpList P ops Q ({ dst := dst, op := .store ty x y, type := type, pos := pos, after := after, guard := none } :: rest) a w := by
  refine wpList_plain rfl fun K hK => ?_
  unfold Oper.wp execOp
  simp only [hx, hy, Instr.storeAt, Instr.sureAddr, Sem.run_bind, Sem.run_pure, Result.andThen_ok, run_storeVar_c ty g o v t cs hi h1 hb ho]
  refine hK _ _ (h _ ((Chg.refl _ w).set1 _ _) ?_)
  have := hb.set_ o v
  simpa using this
end Go.Proofs.YthjnecicagmdeaaGreat
