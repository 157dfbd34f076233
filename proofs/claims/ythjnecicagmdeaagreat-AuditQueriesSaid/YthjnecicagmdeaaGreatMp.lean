/-
  Words for a map from numbers to structs of three numbers, whose first is the key: what it holds, as a list in rising order. No program is named here. Condition: keys are numbers that an int holds.
-/
import Derived.Test.YthjnecicagmdeaaGreatLib
import Derived.Maps.OwnSet
import Derived.Maps.OwnOps
namespace Go.Al
open Go.RowKit Go.Maps
set_option linter.unusedVariables false

abbrev P3 := Int × Int × Int
def agg3 (p : P3) : Value := .agg #[.int .i64 p.1, .int .i64 p.2.1, .int .i64 p.2.2]
def dat3 (p : P3) : DataW Unit := .agg [.lit (.int .i64 p.1), .lit (.int .i64 p.2.1), .lit (.int .i64 p.2.2)]
/-- how such a struct reads -/
def r3 : Value → Option (DataW Unit × List MemPlace)
  | .agg cs => match cs.toList with
    | [.int .i64 a, .int .i64 b, .int .i64 c] => some (dat3 (a, b, c), [])
    | _ => none
  | _ => none
theorem r3_mk (p : P3) : r3 (agg3 p) = some (dat3 p, []) := rfl
theorem dat3_inj {p q : P3} (h : dat3 p = dat3 q) : p = q := by
  obtain ⟨a, b, c⟩ := p
  obtain ⟨d, e, f⟩ := q
  simp [dat3] at h
  simp [h]
theorem r3_inv {v : Value} {p : P3} {ps : List MemPlace} (h : r3 v = some (dat3 p, ps)) : v = agg3 p := by
  unfold r3 at h
  split at h
  · split at h
    · rename_i cs _ a b c hc
      have h1 := dat3_inj (congrArg Prod.fst (Option.some.inj h))
      subst h1
      have : cs = #[.int .i64 a, .int .i64 b, .int .i64 c] := by rw [← Array.toArray_toList (xs := cs), hc]
      rw [this]
      rfl
    · cases h
  · cases h

/-- rising keys -/
def Srt (l : List P3) : Prop := l.Pairwise fun p q => p.1 < q.1
def ent (p : P3) : Lit × DataW Unit := (.int .i64 p.1, dat3 p)
def mapD (l : List P3) : DataW Unit := .map (l.map ent)
def find3 (l : List P3) (k : Int) : Option P3 := l.find? fun p => p.1 == k
def hasK (l : List P3) (k : Int) : Bool := l.any fun p => p.1 == k
def ins3 (p : P3) : List P3 → List P3
  | [] => [p]
  | q :: r => if p.1 < q.1 then p :: q :: r else q :: ins3 p r
def del3 (k : Int) (l : List P3) : List P3 := l.filter fun q => !(q.1 == k)
def put3 (p : P3) (l : List P3) : List P3 := ins3 p (del3 p.1 l)

theorem same_int (a b : Int) : (Lit.int .i64 a).sameKey (.int .i64 b) = (a == b) := by
  simp [Lit.sameKey]
  rfl
theorem mapD_has (l : List P3) (k : Int) : Maps.has (mapD l) (.int .i64 k) = hasK l k := by
  simp only [mapD, Maps.has_eq, hasK, List.any_map]
  congr 1
  funext p
  exact same_int p.1 k
theorem mapD_size (l : List P3) : Maps.size (mapD l) = l.length := by simp [mapD, Maps.size]
theorem filter_ent (l : List P3) (k : Int) : (l.map ent).filter (fun p => !p.1.sameKey (.int .i64 k)) = (del3 k l).map ent := by
  rw [List.filter_map, del3]
  congr 1
  apply List.filter_congr
  intro p _
  simp [ent, same_int]
theorem mapD_del (l : List P3) (k : Int) : (mapD l).del (.int .i64 k) = mapD (del3 k l) := congrArg DataW.map (filter_ent l k)
theorem insert_ent (p : P3) : ∀ l : List P3, DataW.insert (ent p) (l.map ent) = (ins3 p l).map ent
  | [] => rfl
  | q :: r => by
    rw [List.map_cons, DataW.insert, ins3]
    by_cases h : p.1 < q.1
    · rw [if_pos h, if_pos (by simp [ent, Lit.before, h])]; rfl
    · rw [if_neg h, if_neg (by simp [ent, Lit.before, h]), List.map_cons, insert_ent p r]
theorem mapD_put (l : List P3) (p : P3) : (mapD l).put (.int .i64 p.1) (dat3 p) = mapD (put3 p l) := by
  show DataW.map (DataW.insert (ent p) ((l.map ent).filter fun q => !q.1.sameKey (.int .i64 p.1))) = _
  rw [filter_ent, insert_ent]
  rfl
theorem mapD_at (l : List P3) (k : Int) (z : P3) : (mapD l).atKey (.int .i64 k) (dat3 z) = dat3 ((find3 l k).getD z) := by
  unfold mapD DataW.atKey
  simp only
  rw [List.find?_map]
  have : ((fun p => p.1.sameKey (Lit.int .i64 k)) ∘ ent) = fun p : P3 => p.1 == k := by
    funext p
    exact same_int p.1 k
  rw [this, find3]
  cases l.find? (fun p => p.1 == k) <;> rfl

theorem Srt.del {l : List P3} (h : Srt l) (k : Int) : Srt (del3 k l) := List.Pairwise.filter _ h
theorem mem_ins3 {p q : P3} : ∀ {l : List P3}, q ∈ ins3 p l ↔ q = p ∨ q ∈ l
  | [] => by simp [ins3]
  | x :: r => by
    rw [ins3]
    by_cases h : p.1 < x.1
    · rw [if_pos h]; simp
    · rw [if_neg h]
      simp only [List.mem_cons, mem_ins3 (l := r)]
      constructor
      · rintro (h | h | h) <;> simp [h]
      · rintro (h | h | h) <;> simp [h]
theorem mem_del3 {k : Int} {q : P3} {l : List P3} : q ∈ del3 k l ↔ q ∈ l ∧ ¬ q.1 = k := by simp [del3]
theorem Srt.ins {p : P3} : ∀ {l : List P3}, Srt l → (∀ q ∈ l, ¬ q.1 = p.1) → Srt (ins3 p l)
  | [], _, _ => by simp [ins3, Srt]
  | x :: r, h, hn => by
    rw [ins3]
    have h1 := List.pairwise_cons.1 h
    by_cases hx : p.1 < x.1
    · rw [if_pos hx]
      refine List.pairwise_cons.2 ⟨fun q hq => ?_, h⟩
      rcases List.mem_cons.1 hq with rfl | hq
      · exact hx
      · exact Int.lt_trans hx (h1.1 q hq)
    · rw [if_neg hx]
      refine List.pairwise_cons.2 ⟨fun q hq => ?_, Srt.ins h1.2 fun q hq => hn q (List.mem_cons_of_mem _ hq)⟩
      rcases mem_ins3.1 hq with rfl | hq
      · have := hn x (List.mem_cons_self ..)
        omega
      · exact h1.1 q hq
theorem Srt.put {l : List P3} (h : Srt l) (p : P3) : Srt (put3 p l) := (h.del p.1).ins fun q hq => (mem_del3.1 hq).2
theorem len_ins3 (p : P3) : ∀ l : List P3, (ins3 p l).length = l.length + 1
  | [] => rfl
  | x :: r => by
    rw [ins3]
    split
    · rfl
    · simp [len_ins3 p r]
theorem del3_none {k : Int} {l : List P3} (h : hasK l k = false) : del3 k l = l := by
  rw [del3, List.filter_eq_self]
  intro q hq
  have := (List.any_eq_false.1 h) q hq
  simpa using this
theorem len_put3 {p : P3} {l : List P3} (h : hasK l p.1 = false) : (put3 p l).length = l.length + 1 := by rw [put3, len_ins3, del3_none h]
theorem hasK_iff {l : List P3} {k : Int} : hasK l k = true ↔ ∃ p ∈ l, p.1 = k := by simp [hasK]
theorem len_del3 {k : Int} : ∀ {l : List P3}, Srt l → hasK l k = true → (del3 k l).length + 1 = l.length
  | [], _, h => by simp [hasK] at h
  | x :: r, hs, h => by
    have h1 := List.pairwise_cons.1 hs
    by_cases hx : x.1 = k
    · have : hasK r k = false := by
        rw [Bool.eq_false_iff]
        intro hc
        obtain ⟨q, hq, e⟩ := hasK_iff.1 hc
        have := h1.1 q hq
        omega
      have e1 : del3 k (x :: r) = del3 k r := by simp [del3, hx]
      rw [e1, del3_none this]
      rfl
    · have e1 : del3 k (x :: r) = x :: del3 k r := by simp [del3, hx]
      have hr : hasK r k = true := by
        obtain ⟨q, hq, e⟩ := hasK_iff.1 h
        rcases List.mem_cons.1 hq with rfl | hq
        · exact absurd e hx
        · exact hasK_iff.2 ⟨q, hq, e⟩
      rw [e1, List.length_cons, len_del3 h1.2 hr]
      rfl

/-! the map's block -/
section
variable {P : Program} {kt : TypeId} {w : World} {b : Nat} {l : List P3}
/-- block b is a map that holds just l -/
def MapAt (P : Program) (kt : TypeId) (w : World) (b : Nat) (l : List P3) : Prop := w.ownsMap P kt r3 b l.length (mapD l) ∧ Srt l
theorem owns_tight {n : Nat} {D : DataW Unit} (h : w.ownsMap P kt r3 b n D) : w.ownsMap P kt r3 b (Maps.size D) D := by
  obtain ⟨es, clock, hb, F, hs, rfl⟩ := h
  refine ⟨es, clock, hb, F, ?_, rfl⟩
  simp [Maps.size, length_sorted]
theorem mapAt_of {n : Nat} (h : w.ownsMap P kt r3 b n (mapD l)) (hs : Srt l) : MapAt P kt w b l := by
  have := owns_tight h
  rw [mapD_size] at this
  exact ⟨this, hs⟩
theorem MapAt.lt (h : MapAt P kt w b l) : b < w.heap.size := h.1.lt
theorem MapAt.made (P : Program) (kt : TypeId) (w : World) : MapAt P kt (w.alloc (.map #[] 0)) w.heap.size [] := ⟨World.ownsMap_made w P kt r3, List.Pairwise.nil⟩
theorem MapAt.chg {S : Nat → Prop} {w' : World} (h : MapAt P kt w b l) (hc : Chg S w w') (hS : ¬ S b) : MapAt P kt w' b l := by
  have hlt := h.lt
  obtain ⟨⟨es, clock, hb, r⟩, hs⟩ := h
  exact ⟨⟨es, clock, (hc.block b hlt hS).trans hb, r⟩, hs⟩
theorem MapAt.same {w' : World} (h : MapAt P kt w b l) (hc : Same w w') : MapAt P kt w' b l := h.chg hc fun h => h
theorem ty_map {w : World} {b : Nat} {es : Array MapEntry} {clock : Nat} (h : w.heap[b]? = some (.map es clock)) : ty w b = none := by
  simp [ty, World.shape?, h]
theorem chg_turned {w' : World} (h : w.mapTurned w' b) : Chg (fun k => k = b) w w' := by
  obtain ⟨es, clock, es', clock', hb, rfl⟩ := h
  have h0 := ChangeMaps.heap_setBlock_same (w := w) hb (.map es' clock')
  refine ⟨rfl, rfl, rfl, by simp [ChangeMaps.setBlock], fun k hk => ?_, fun k hk hn => ChangeMaps.heap_setBlock_other hb _ hn⟩
  by_cases e : k = b
  · subst e
    rw [ty_map hb, ty_map h0]
  · simp [ty, World.shape?, ChangeMaps.heap_setBlock_other hb _ e]
variable {t e : TypeId} {k : Int}
/-- 'v, ok := m[k]' -/
theorem MapAt.look (h : MapAt P kt w b l) (hk : P.underlying kt = some (.int .i64)) (ht : P.underlying t = some (.map kt e)) (hz : (zeroValue e).run P w = .ok (agg3 (0, 0, 0)) w) (hw : (Lit.int .i64 k).wf = true) :
    (Instr.lookup t (.map (some b)) (.int .i64 k) true).run P w = .ok (.tuple #[agg3 ((find3 l k).getD (0, 0, 0)), .bool (hasK l k)]) w := by
  obtain ⟨v, ps, hrun, hv⟩ := h.1.look_ok (int_keyed hk) ht hz (r3_mk (0, 0, 0)) (keyOf_int_mk hk hw)
  rw [mapD_at] at hv
  rw [mapD_has] at hrun
  rw [hrun, r3_inv hv]
/-- 'v := m[k]' -/
theorem MapAt.look1 (h : MapAt P kt w b l) (hk : P.underlying kt = some (.int .i64)) (ht : P.underlying t = some (.map kt e)) (hz : (zeroValue e).run P w = .ok (agg3 (0, 0, 0)) w) (hw : (Lit.int .i64 k).wf = true) :
    (Instr.lookup t (.map (some b)) (.int .i64 k) false).run P w = .ok (agg3 ((find3 l k).getD (0, 0, 0))) w := by
  obtain ⟨v, ps, hrun, hv⟩ := h.1.lookup (int_keyed hk) ht hz (r3_mk (0, 0, 0)) (keyOf_int_mk hk hw)
  rw [mapD_at] at hv
  rw [hrun, r3_inv hv]
/-- 'len(m)' -/
theorem MapAt.len (h : MapAt P kt w b l) (ht : P.underlying t = some (.map kt e)) (ty : TypeId) : (Builtin.len_ #[t] ty #[.map (some b)]).run P w = .ok (.int .i64 l.length) w := by
  have := h.1.len ht ty
  rw [mapD_size] at this
  exact this
/-- 'm[k] = v' -/
theorem MapAt.store (h : MapAt P kt w b l) (hk : P.underlying kt = some (.int .i64)) (ht : P.underlying t = some (.map kt e)) (hn : l.length < maxLen) (p : P3) (hw : (Lit.int .i64 p.1).wf = true) :
    ∃ w', (Instr.mapUpdate t (.map (some b)) (.int .i64 p.1) (agg3 p)).run P w = .ok () w' ∧ MapAt P kt w' b (put3 p l) ∧ Chg (fun k => k = b) w w' := by
  obtain ⟨w', hrun, ho, hturn⟩ := h.1.store (int_keyed hk) ht hn (keyOf_int_mk hk hw) (r3_mk p)
  rw [mapD_put] at ho
  exact ⟨w', hrun, mapAt_of ho (h.2.put p), chg_turned hturn⟩
/-- 'delete(m, k)' -/
theorem MapAt.drop (h : MapAt P kt w b l) (hk : P.underlying kt = some (.int .i64)) (ht : P.underlying t = some (.map kt e)) (hw : (Lit.int .i64 k).wf = true) (ty : TypeId) :
    ∃ w', (Builtin.delete_ #[t, kt] ty #[.map (some b), .int .i64 k]).run P w = .ok (.tuple #[]) w' ∧ MapAt P kt w' b (del3 k l) ∧ Chg (fun k => k = b) w w' := by
  obtain ⟨w', hrun, ho, hturn⟩ := h.1.drop (int_keyed hk) ht (keyOf_int_mk hk hw) ty
  rw [mapD_del] at ho
  exact ⟨w', hrun, mapAt_of ho (h.2.del k), chg_turned hturn⟩

/-- 'v, ok := m[k]' at the operation -/
theorem wpList_look3 {ops : Array Oper} {rest : List Oper} {o : Oper} {a : Act} {Q : Exit → Act → World → Prop} (w : World)
    (hg : o.guard = none) (m x : Operand) (t : TypeId) (hop : o.op = Op.lookup t m x true) (hk : P.underlying kt = some (.int .i64)) (ht : P.underlying t = some (.map kt e)) (hz : (zeroValue e).run P w = .ok (agg3 (0, 0, 0)) w)
    (hm : a.eval m = .map (some b)) (hx : a.eval x = .int .i64 k) (hw : (Lit.int .i64 k).wf = true) (h : MapAt P kt w b l)
    (hK : wpList P ops Q rest (a.put o.dst (.tuple #[agg3 ((find3 l k).getD (0, 0, 0)), .bool (hasK l k)])) w) : wpList P ops Q (o :: rest) a w := by
  refine wpList_plain hg fun K' hK' => ?_
  unfold Oper.wp
  simp [execOp, hop, hm, hx, h.look hk ht hz hw, Result.andThen]
  exact hK' _ _ hK
end
/-! blocks written whole; a struct handed back out of a named result's block -/
section
variable {S : Nat → Prop} {a w : World} {g : Nat} {t : TypeId} {b0 b1 b2 b3 b4 b5 b6 : Value}
theorem Blk.put3 (h : Blk w g t #[b0, b1, b2]) (u0 u1 u2 : Value) : Blk (((w.setCell ⟨g, 0, none⟩ u0).setCell ⟨g, 1, none⟩ u1).setCell ⟨g, 2, none⟩ u2) g t #[u0, u1, u2] := by
  have := ((h.set_ 0 u0).set_ 1 u1).set_ 2 u2
  simpa using this
theorem Blk.put7 (h : Blk w g t #[b0, b1, b2, b3, b4, b5, b6]) (u0 u1 u2 u3 u4 u5 u6 : Value) : Blk (((((((w.setCell ⟨g, 0, none⟩ u0).setCell ⟨g, 1, none⟩ u1).setCell ⟨g, 2, none⟩ u2).setCell ⟨g, 3, none⟩ u3).setCell ⟨g, 4, none⟩ u4).setCell ⟨g, 5, none⟩ u5).setCell ⟨g, 6, none⟩ u6) g t #[u0, u1, u2, u3, u4, u5, u6] := by
  have := ((((((h.set_ 0 u0).set_ 1 u1).set_ 2 u2).set_ 3 u3).set_ 4 u4).set_ 5 u5).set_ 6 u6
  simpa using this
theorem Chg.put3 (h : Chg S a w) (hg : S g ∨ a.heap.size ≤ g) (u0 u1 u2 : Value) : Chg S a (((w.setCell ⟨g, 0, none⟩ u0).setCell ⟨g, 1, none⟩ u1).setCell ⟨g, 2, none⟩ u2) :=
  ((h.setCell (p := ⟨g, 0, none⟩) hg u0).setCell (p := ⟨g, 1, none⟩) hg u1).setCell (p := ⟨g, 2, none⟩) hg u2
theorem Chg.put7 (h : Chg S a w) (hg : S g ∨ a.heap.size ≤ g) (u0 u1 u2 u3 u4 u5 u6 : Value) : Chg S a (((((((w.setCell ⟨g, 0, none⟩ u0).setCell ⟨g, 1, none⟩ u1).setCell ⟨g, 2, none⟩ u2).setCell ⟨g, 3, none⟩ u3).setCell ⟨g, 4, none⟩ u4).setCell ⟨g, 5, none⟩ u5).setCell ⟨g, 6, none⟩ u6) :=
  ((((((h.setCell (p := ⟨g, 0, none⟩) hg u0).setCell (p := ⟨g, 1, none⟩) hg u1).setCell (p := ⟨g, 2, none⟩) hg u2).setCell (p := ⟨g, 3, none⟩) hg u3).setCell (p := ⟨g, 4, none⟩) hg u4).setCell (p := ⟨g, 5, none⟩) hg u5).setCell (p := ⟨g, 6, none⟩) hg u6
theorem results_cell2 {P : Program} {fn : Func} {x u : Tmp} {ty : TypeId} (hf : fn.results = #[.cell x ty, .tmp u]) {tmps : Array Value} {cs : Array Value} {d : TypeDesc}
    (ha : tmps.getD x undef = .pointer (some ⟨g, 0, none⟩)) (hb : Blk w g t cs) (hu : P.underlying ty = some d) (hd : (match d with | .struct _ | .array _ _ => true | _ => false) = true) (hi : (P.info? ty).map (·.size) = some cs.size) :
    (results fn tmps).run P w = .ok (.tuple #[.agg cs, tmps.getD u undef]) w := by
  rw [Array.getD_eq_getD_getElem?] at ha
  simp [results, hf, asAddr, ha, run_loadVar_row w g t ty cs (0, 0) d hb hu hd hi, Result.andThen]
end
end Go.Al
