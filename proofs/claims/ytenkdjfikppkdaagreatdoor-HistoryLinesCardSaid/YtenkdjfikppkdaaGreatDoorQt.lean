/-
  A slice literal whose elements are structs known as lists of cells. No conditions: nothing of the program is named here.
-/
import Derived.Test.YtenkdjfikppkdaaGreatDoorQs
import Derived.Great.BuildSlice
import Derived.Great.FillDense
namespace Go.Al
open Go.RowKit

/-- '[]T{x}', x a struct -/
theorem wpList_bs1 {P : Program} {ops : Array Oper} {rest : List Oper} {o : Oper} {a : Act} {w : World} {Q : Exit → Act → World → Prop} (hg : o.guard = none) (t e : TypeId) (x : Operand) (ho : o.op = .buildSlice t 1 #[(0, x)])
    (cs : List Value) (hx : a.eval x = .agg cs.toArray) (z : Value) (n bytes : Nat) (hu : P.underlying t = some (.slice e)) (hi : (P.info? e).map (fun i => (i.zero, i.size, i.bytes)) = some (some z, n, bytes)) (hn : cs.length = n) (h0 : 0 < n) (hs : n ≤ 1000)
    (h : wpList P ops Q rest (a.put o.dst (.slice (some ⟨w.heap.size, 0, none⟩) 1 1)) (w.alloc (.cells cs.toArray e))) : wpList P ops Q (o :: rest) a w := by
  obtain ⟨ie, hie, hz, hsz, _⟩ := info_parts hi
  subst hsz
  refine wpList_buildSlice hg t e 1 _ ho cs.toArray ie z hu hie hz (by omega) (by omega) ?_ h
  have h2 := Go.Great.fill_whole h0 [.agg cs.toArray] ((Array.range (1 * ie.size)).map (z.cells[· % z.cells.size]!)) (by intro v hv; simp at hv; subst hv; simpa [Value.cells] using hn) (by simp)
  have h3 : (((#[(0, x)] : Array (Nat × Operand)).map fun (i, x) => (i, a.eval x)).toList) = (([Value.agg cs.toArray].zipIdx 0).map fun x => (x.2, x.1)) := by simp [hx]
  have h4 : ([Value.agg cs.toArray].flatMap fun v => v.cells.toList).toArray = cs.toArray := by simp [Value.cells]
  rw [h3, h2, h4]
end Go.Al
