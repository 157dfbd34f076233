/-
  A region that draws its order, whose own operations only read, and whose calls may lay new blocks: one walk in the order of the text serves every order. The class of worlds: those in which nothing that was there has changed. No conditions: nothing of the program is named here.
-/
import Derived.Test.YthjnecicagmdeaaGreatMp
import Derived.Deep.MidRow
import Derived.Deep.WholeRow
namespace Go.Al
open Go.RowKit

/-- a world in which nothing of w has changed -/
structure SameW (w : World) where
  x : World
  h : Same w x
instance (w : World) : Inhabited (SameW w) := ⟨⟨w, Chg.refl _ w⟩⟩

theorem wp_region_quiet_same {P : Program} {id : Nat} {Q : Exit → Act → World → Prop} {a : Act} {w : World} {l : List Oper} (hm : P.follows .mixedOrders = true) (hB : Region.lexB .any l.toArray = true)
    (h : wpQuiet P l.toArray (fun w' => ∃ p : SameW w, w' = p.x) (fun a' => ∀ w', (∃ p : SameW w, w' = p.x) → Q .normal a' w') l a) : (Code.region id l.toArray true).wp P Q a w :=
  wp_region_quiet (C := fun w' => ∃ p : SameW w, w' = p.x) hm hB ⟨⟨w.drew, (Chg.refl _ w).drew⟩, rfl⟩ (by simpa using h)
theorem quiet_sameW {P : Program} {f : FuncId} {args : Array Value} {w : World} {p : SameW w} {v : Value}
    (h : Calls P f args p.x fun e w' => e = .returned v ∧ Same p.x w') : Calls P f args p.x fun e w'' => e = .returned v ∧ ∃ q : SameW w, w'' = q.x :=
  h.mono fun _ w' ⟨he, hs⟩ => ⟨he, ⟨w', Same.trans p.h hs⟩, rfl⟩
theorem quiet_sameW_eq {P : Program} {f : FuncId} {args : Array Value} {w : World} {p : SameW w} {v : Value}
    (h : Calls P f args p.x fun e w' => e = .returned v ∧ p.x = w') : Calls P f args p.x fun e w'' => e = .returned v ∧ ∃ q : SameW w, w'' = q.x :=
  h.mono fun _ _ ⟨he, hs⟩ => ⟨he, p, hs.symm⟩

/-- cells at a place, as a slice reads -/
theorem rangeAt_of {w : World} {b o : Nat} {cs : List Value} (h : ∀ i x, cs[i]? = some x → w.cell? ⟨b, o + i, none⟩ = some x) : w.rangeAt b o cs := h
theorem rangeAt_blk {w : World} {g : Nat} {t : TypeId} (xs ys zs : List Value) (h : Blk w g t (xs ++ ys ++ zs).toArray) : w.rangeAt g xs.length ys := fun j v hv => by
  rw [h.cell]
  have hj : j < ys.length := (List.getElem?_eq_some_iff.1 hv).1
  simpa [List.getElem?_append, hj] using hv
theorem rangeAt_chg {S : Nat → Prop} {w w' : World} {b o : Nat} {cs : List Value} (h : w.rangeAt b o cs) (hc : Chg S w w') (hs : ¬ S b) : w'.rangeAt b o cs := fun j v hv => by
  have h1 := h j v hv
  rw [hc.cell (p := ⟨b, o + j, none⟩) (World.block_lt_of_cell? (a := ⟨b, o + j, none⟩) w h1) hs]
  exact h1
theorem rangeAt_same {w w' : World} {b o : Nat} {cs : List Value} (h : w.rangeAt b o cs) (hc : Same w w') : w'.rangeAt b o cs := rangeAt_chg h hc fun h => h

/-- a load of several cells, at a plain region's list, guarded or not -/
theorem wpList_ld {P : Program} {ops : Array Oper} {rest : List Oper} {op : Oper} {a : Act} {w : World} {Q : Exit → Act → World → Prop} (hgd : Region.wanted op (yielded ops a.tmps) = true) (ty : TypeId) (x : Operand) (ho : op.op = .load ty x)
    (b o : Nat) (hx : a.eval x = .pointer (some ⟨b, o, none⟩)) (cs : List Value) (d : TypeDesc) (hc : w.rangeAt b o cs)
    (hu : P.underlying ty = some d) (hd : d.isRow = true) (hi : (P.info? ty).map (·.size) = some cs.length)
    (h : wpList P ops Q rest (a.put op.dst (.agg cs.toArray)) w) : wpList P ops Q (op :: rest) a w :=
  wpList_step fun _ hK => by
    rw [if_pos hgd]
    exact wp_load_mid ty x ho b o hx cs d hc hu hd hi (hK _ _ h)
/-- a load of several cells, at a quiet walk -/
theorem wpQuiet_ld {P : Program} {ops : Array Oper} {C : World → Prop} {Q : Act → Prop} {rest : List Oper} {op : Oper} {a : Act} (hgd : Region.wanted op (yielded ops a.tmps) = true) (ty : TypeId) (x : Operand) (ho : op.op = .load ty x)
    (b o : Nat) (hx : a.eval x = .pointer (some ⟨b, o, none⟩)) (cs : List Value) (d : TypeDesc) (hc : ∀ w, C w → w.rangeAt b o cs)
    (hu : P.underlying ty = some d) (hd : d.isRow = true) (hi : (P.info? ty).map (·.size) = some cs.length)
    (h : wpQuiet P ops C Q rest (a.put op.dst (.agg cs.toArray))) : wpQuiet P ops C Q (op :: rest) a :=
  wpQuiet_step fun K hK => by
    rw [if_pos hgd]
    refine ⟨.agg cs.toArray, fun w hw => ?_, hK _ h⟩
    unfold Oper.quietAt execOp
    simp only [ho, hx, Instr.loadAt, Instr.sureAddr, Sem.run_bind, Sem.run_pure, Result.andThen_ok, run_loadVar_mid w b o ty cs d (hc w hw) hu hd hi]
    exact ⟨rfl, rfl⟩
/-- a store of several cells into the block that was made last -/
theorem wpList_st {P : Program} {ops : Array Oper} {rest : List Oper} {o : Oper} {a : Act} {w : World} {Q : Exit → Act → World → Prop} (hgd : o.guard = none) (ty : TypeId) (x y : Operand) (ho : o.op = .store ty x y)
    (hx : a.eval x = .pointer (some ⟨w.heap.size, 0, none⟩)) (cells : List Value) (hy : a.eval y = .agg cells.toArray)
    (t : TypeId) (old : Array Value) (hi : (P.info? ty).map (·.size) = some cells.length) (hold : old.size = cells.length) (h1 : ∀ u ∈ cells, u.oneCell' = true)
    (h : wpList P ops Q rest (a.put o.dst undef) (w.alloc (.cells cells.toArray t))) : wpList P ops Q (o :: rest) a (w.alloc (.cells old t)) :=
  wpList_store_row hgd ty x y ho w.heap.size cells.toArray hx hy t old (heap_alloc_new w _) (by simpa using hi) (by simpa using hold) (all_oneCell_toArray h1) (by rw [World.setRow_alloc_new]; exact h)
end Go.Al
