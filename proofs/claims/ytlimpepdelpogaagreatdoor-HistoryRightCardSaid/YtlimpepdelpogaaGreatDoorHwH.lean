/-
  history's reader: take: what the reader is, where nothing has changed. Conditions: 64 events at most; numbers that an int holds.
  A region that draws its order and one of whose operations appends to a row of the call's own: what each operation changes; what the reader is behind an append. No conditions.
-/
import Derived.Test.YtlimpepdelpogaaGreatDoorHwC
import Derived.Test.YtlimpepdelpogaaGreatDoorHwN
import Derived.Test.YtlimpepdelpogaaGreatDoorMy

/-! HwS -/
namespace Go.Proofs.YtlimpepdelpogaaGreatDoor
open Go.RowKit Go.Al
set_option linter.unusedVariables false
theorem RSt.same2 {u0 u1 w w' : World} {g : Nat} {A0 Ad : Option Addr} {N C n c : Nat} {st : Int} {ds : List Dd} (h : RSt u0 u1 w g A0 N C st Ad n c ds) (hs : Same w w') : RSt u0 u1 w' g A0 N C st Ad n c ds :=
  ⟨h.blk.same hs, own_chg h.own hs fun _ _ f => f, h.len, Same.trans h.same hs, h.frm.same hs, h.rep⟩
theorem TakeBadS.mk {u0 u1 w : World} {g : Nat} {A0 Ad : Option Addr} {N C n c : Nat} {st : Int} {ds : List Dd} {k : Int} (h : RSt u0 u1 w g A0 N C st Ad n c ds) : TakeBad u0 u1 g (.panicked (fault 0 k)) w := ⟨⟨k, rfl⟩, h.same, h.frm⟩
theorem setD_t (d : Dd) (k i : Int) : (setD d k i).t = d.t := by
  unfold setD
  split
  · rfl
  · split
    · rfl
    · split
      · rfl
      · split <;> rfl
end Go.Proofs.YtlimpepdelpogaaGreatDoor
/-! HwH -/
namespace Go.Proofs.YtlimpepdelpogaaGreatDoor
open Go.RowKit Go.Al
set_option linter.unusedVariables false
theorem step_bs1 {P : Program} {ops : Array Oper} {o : Oper} {a : Act} {w : World} {K : Act → World → Prop} {Q : Exit → Act → World → Prop} {E : Prop} (hg : o.guard = none) (t e : TypeId) (x : Operand) (ho : o.op = .buildSlice t 1 #[(0, x)])
    (cs : List Value) (hx : a.eval x = .agg cs.toArray) (z : Value) (n bytes : Nat) (hu : P.underlying t = some (.slice e)) (hi : (P.info? e).map (fun i => (i.zero, i.size, i.bytes)) = some (some z, n, bytes)) (hn : cs.length = n) (h0 : 0 < n) (hs : n ≤ 1000)
    (h : K (a.put o.dst (.slice (some ⟨w.heap.size, 0, none⟩) 1 1)) (w.alloc (.cells cs.toArray e))) : if Region.wanted o (yielded ops a.tmps) = true then Oper.wp P o a w K Q else E := by
  have hw : Region.wanted o (yielded ops a.tmps) = true := by simp [Region.wanted, hg]
  rw [if_pos hw]
  obtain ⟨ie, hie, hz, hsz, _⟩ := info_parts hi
  subst hsz
  refine wp_buildSlice t e 1 _ ho cs.toArray ie z hu hie hz (by omega) (by omega) ?_ h
  have h2 := Go.Great.fill_whole h0 [.agg cs.toArray] ((Array.range (1 * ie.size)).map (z.cells[· % z.cells.size]!)) (by intro v hv; simp at hv; subst hv; simpa [Value.cells] using hn) (by simp)
  have h3 : (((#[(0, x)] : Array (Nat × Operand)).map fun (i, x) => (i, a.eval x)).toList) = (([Value.agg cs.toArray].zipIdx 0).map fun x => (x.2, x.1)) := by simp [hx]
  have h4 : ([Value.agg cs.toArray].flatMap fun v => v.cells.toList).toArray = cs.toArray := by simp [Value.cells]
  rw [h3, h2, h4]
theorem slD : SlTy Tryz.prog 75 79 29 240 := SlTy.of (z := ddV ⟨0, 0, 0, 0, 0, 0, ⟨0, ⟨0, (0, 0, 0), (0, 0, 0)⟩, ⟨0, 0, 0, 0, 0, 0, 0, 0, 0, 0⟩⟩, ⟨0, false, false, 0, none, 0, []⟩⟩) Tryz.underlying75 (by kernel_rfl) rfl (by decide)
theorem infoD3 : (Tryz.prog.info? 79).map (fun i => (i.zero, i.size, i.bytes)) = some (some (ddV ⟨0, 0, 0, 0, 0, 0, ⟨0, ⟨0, (0, 0, 0), (0, 0, 0)⟩, ⟨0, 0, 0, 0, 0, 0, 0, 0, 0, 0⟩⟩, ⟨0, false, false, 0, none, 0, []⟩⟩), 29, 240) := by kernel_rfl
/-- what operation i changes, if the q-th alone writes, and only blocks of S -/
abbrev EffQ (q : Nat) (S : Nat → Prop) (i : Nat) (w w' : World) : Prop := Chg (fun b => i = q ∧ S b) w w'
/-- what is known when operation k begins, or behind all -/
abbrev RelQ (q : Nat) (S : Nat → Prop) (k : Nat) (w w' : World) : Prop := Chg (fun b => k ≠ q ∧ S b) w w'
theorem EffQ.of_same {q : Nat} {S : Nat → Prop} {i : Nat} {w w' : World} (h : Same w w') : EffQ q S i w w' := h.to
theorem RelQ.of {q : Nat} {S : Nat → Prop} {k i : Nat} {w w' : World} (hik : i ≠ k) (h : EffQ q S i w w') : RelQ q S k w w' := h.mono fun b _ e => ⟨fun e' => hik (e.1.trans e'.symm), e.2⟩
theorem RelQ.trans {q : Nat} {S : Nat → Prop} {k : Nat} {a b c : World} (h1 : RelQ q S k a b) (h2 : RelQ q S k b c) : RelQ q S k a c := Chg.trans h1 h2 fun _ _ e => e
theorem RelQ.drew {q : Nat} {S : Nat → Prop} {k : Nat} (w : World) : RelQ q S k w w.drew := (Chg.refl _ w).drew
/-- behind an append -/
theorem RSt.push {u0 u1 w w' : World} {g : Nat} {A0 Ad A' : Option Addr} {N C n c c' : Nat} {st : Int} {ds : List Dd} {d : Dd} (h : RSt u0 u1 w g A0 N C st Ad n c ds) (hg0 : u0.heap.size ≤ g) (hg1 : g < u1.heap.size) (hc : Chg (fun k => blkOf Ad = some k) w w')
    (ho : w'.ownsRow u1.heap.size 79 29 (.slice A' (n + 1) c') (n + 1) (flatD ds ++ ddL d)) (hr : RpAt u0 d.t) : RSt u0 u1 (w'.setCell ⟨g, 1, none⟩ (.slice A' (n + 1) c')) g A0 N C st A' (n + 1) c' (ds ++ [d]) := by
  have hlt : ∀ b, blkOf Ad = some b → u1.heap.size ≤ b := fun b hb => (h.own.lt b (by rw [ownBlock_slice]; exact hb)).1
  have hlt' : ∀ b, blkOf A' = some b → u1.heap.size ≤ b := fun b hb => (ho.lt b (by rw [ownBlock_slice]; exact hb)).1
  refine ⟨?_, ?_, by rw [List.length_append, h.len]; rfl, ?_, ?_, fun d' hd => ?_⟩
  · have := (h.blk.chg hc (fun e => by have := hlt g e; omega)).set_ 1 (.slice A' (n + 1) c')
    simpa using this
  · rw [flatD_snoc]
    exact own_chg ho ((Chg.refl (fun k => k = g) w').set1 _ _) fun b hb e => by rw [ownBlock_slice] at hb; have := hlt' b hb; omega
  · exact Chg.fresh (S := fun k => u0.heap.size ≤ k) ((h.same.to.trans hc fun k _ e => by have := hlt k e; omega).setCell (p := ⟨g, 1, none⟩) (.inl hg0) _) fun _ e => e
  · exact (h.frm.trans hc fun k hk e => by have := hlt k e; omega).set1 _ _
  · rcases List.mem_append.1 hd with hd | hd
    · exact h.rep d' hd
    · rw [List.mem_singleton.1 hd]; exact hr
theorem fresh_rp (w : World) (e : Ev) : RpAt w (freshD e).t := ⟨Rd.nil _ _, Nat.le_refl _, Nat.zero_le _⟩
theorem fresh_time (e : Ev) (k : Int) : timeD (freshD e) k < 0 := by
  unfold timeD freshD
  repeat' split
  all_goals exact (by decide : (-1 : Int) < 0)
theorem get_new (ds : List Dd) (d : Dd) {n : Nat} (h : ds.length = n) : ∃ h' : n < (ds ++ [d]).length, (ds ++ [d])[n] = d := by
  subst h
  exact ⟨by simp, by simp⟩
theorem set_new (ds : List Dd) (d d' : Dd) {n : Nat} (h : ds.length = n) : (ds ++ [d]).set n d' = ds ++ [d'] := by
  subst h
  simp
end Go.Proofs.YtlimpepdelpogaaGreatDoor
