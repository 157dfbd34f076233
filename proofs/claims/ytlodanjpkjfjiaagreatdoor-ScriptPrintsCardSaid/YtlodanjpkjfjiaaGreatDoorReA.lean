/-
  A slice literal whose elements are structs known as lists of cells. No conditions: nothing of the program is named here.
  Acts in memory, each with its bytes. No conditions.
-/
import Derived.Test.YtlodanjpkjfjiaaGreatDoorQs
import Derived.Great.BuildSlice
import Derived.Great.FillDense
import Derived.Test.YtlodanjpkjfjiaaGreatDoorSaE
import Derived.Test.YtlodanjpkjfjiaaGreatDoorScQ
/-! Qt -/
namespace Go.Al
open Go.RowKit

/-- '[]T{x}', x a struct -/
theorem wpList_bs1 {P : Program} {ops : Array Oper} {rest : List Oper} {o : Oper} {a : Act} {w : World} {Q : Exit → Act → World → Prop} (hg : o.guard = none) (t e : TypeId) (x : Operand) (ho : o.op = .buildSlice t 1 #[(0, x)])
    (cs : List Value) (hx : a.eval x = .agg cs.toArray) (z : Value) (n bytes : Nat) (hu : P.underlying t = some (.slice e)) (hi : (P.info? e).map (fun i => (i.zero, i.size, i.bytes)) = some (some z, n, bytes)) (hn : cs.length = n) (h0 : 0 < n) (hs : n ≤ 1000)
    (h : wpList P ops Q rest (a.put o.dst (.slice (some ⟨w.heap.size, 0, none⟩) 1 1)) (w.alloc (.cells cs.toArray e))) : wpList P ops Q (o :: rest) a w := by
  obtain ⟨ie, hie, hz, hsz, _⟩ := info_parts hi
  subst hsz
  refine wpList_buildSlice hg t e 1 _ ho cs.toArray ie z hu hie hz (by omega) (by omega) ?_ h
  have h2 := Go.Great.fill_whole h0 [.agg cs.toArray] ((Array.range (1 * ie.size)).map (z.cells[· % z.cells.size]!)) (by intro v hv; simp at hv; subst hv; simpa [Value.cells] using hn) (by simp)
  have h3 : (((#[(0, x)] : Array (Nat × Operand)).map fun (i, x) => (i, a.eval x)).toList) = (([Value.agg cs.toArray].zipIdx 0).map fun x => (x.2, x.1)) := by simp [hx]
  have h4 : ([Value.agg cs.toArray].flatMap fun v => v.cells.toList).toArray = cs.toArray := by simp [Value.cells]
  rw [h3, h2, h4]
end Go.Al
/-! ReA -/
namespace Go.Proofs.YtlodanjpkjfjiaaGreatDoor
open Go.RowKit Go.Al
set_option linter.unusedVariables false

/-- an act as it lies: its bytes' place besides -/
structure La where
  a : Ac
  A : Option Addr
  c : Nat
def laL (d : La) : List Value := acL d.a d.A d.c
theorem laL_len (d : La) : (laL d).length = 22 := rfl
theorem one_laL (d : La) : ∀ u ∈ laL d, u.oneCell' = true := one_acL _ _ _
def LaAt (w : World) (d : La) : Prop := ActAt w d.a d.A d.c
theorem LaAt.same {w w' : World} {d : La} (h : LaAt w d) (hs : Same w w') : LaAt w' d := ActAt.same h hs
/-- a slice of acts -/
structure Acts (w : World) (A : Option Addr) (l : List La) : Prop where
  row : l ≠ [] → ∃ b off, A = some ⟨b, off, none⟩ ∧ b < w.heap.size ∧ ∀ i (h : i < l.length), w.rangeAt b (off + i * 22) (laL l[i])
  rep : ∀ d ∈ l, LaAt w d
theorem Acts.same {w w' : World} {A : Option Addr} {l : List La} (h : Acts w A l) (hs : Same w w') : Acts w' A l :=
  ⟨fun hn => by
    obtain ⟨b, off, e, hb, hc⟩ := h.row hn
    exact ⟨b, off, e, Nat.lt_of_lt_of_le hb hs.size, fun i hi => rangeAt_same (hc i hi) hs⟩, fun d hd => (h.rep d hd).same hs⟩
theorem Acts.at_ {w : World} {A : Option Addr} {l : List La} (h : Acts w A l) {i : Nat} (hi : i < l.length) :
    ∃ b off, A = some ⟨b, off, none⟩ ∧ b < w.heap.size ∧ w.rangeAt b (off + i * 22) (laL l[i]) ∧ LaAt w l[i] := by
  obtain ⟨b, off, e, hb, hc⟩ := h.row (fun e => by rw [e] at hi; simp at hi)
  exact ⟨b, off, e, hb, hc i hi, h.rep _ (List.getElem_mem hi)⟩
def flatA (l : List La) : List Value := l.flatMap laL
theorem flatA_len : ∀ l : List La, (flatA l).length = l.length * 22
  | [] => rfl
  | d :: r => by
    have := flatA_len r
    unfold flatA at this ⊢
    rw [List.flatMap_cons, List.length_append, laL_len, this, List.length_cons]
    omega
theorem flatA_snoc (l : List La) (d : La) : flatA (l ++ [d]) = flatA l ++ laL d := by simp [flatA]
theorem flatA_get : ∀ {l : List La} {i : Nat} (h : i < l.length) (j : Nat), j < 22 → (flatA l)[i * 22 + j]? = (laL l[i])[j]?
  | d :: r, 0, h, j, hj => by
    unfold flatA
    rw [List.flatMap_cons, Nat.zero_mul, Nat.zero_add, List.getElem?_append_left (by rw [laL_len]; exact hj)]
    rfl
  | d :: r, i + 1, h, j, hj => by
    have := flatA_get (l := r) (i := i) (by simpa using h) j hj
    unfold flatA at this ⊢
    rw [List.flatMap_cons, List.getElem?_append_right (by rw [laL_len]; omega), laL_len, show (i + 1) * 22 + j - 22 = i * 22 + j by omega, this]
    rfl
theorem one_flatA (l : List La) : ∀ u ∈ flatA l, u.oneCell' = true := by
  intro u hu
  obtain ⟨d, _, hu⟩ := List.mem_flatMap.1 hu
  exact one_laL d u hu
theorem slAc : SlTy Tryz.prog 48 38 22 192 := SlTy.of (z := acV ac0 none 0) Tryz.underlying48 (by kernel_rfl) rfl (by decide)
theorem infoA3 : (Tryz.prog.info? 38).map (fun i => (i.zero, i.size, i.bytes)) = some (some (acV ac0 none 0), 22, 192) := by kernel_rfl
theorem acts_own {w : World} {base c : Nat} {A : Option Addr} {l : List La} (h : w.ownsRow base 38 22 (.slice A l.length c) l.length (flatA l)) (hr : ∀ d ∈ l, LaAt w d) : Acts w A l := by
  refine ⟨fun hn => ?_, hr⟩
  obtain ⟨A', c', hv, h1, h2, h3, h4, h5, h6⟩ := own_form h
  cases hv
  have hne : flatA l ≠ [] := fun e => by
    have := flatA_len l
    rw [e] at this
    obtain ⟨x, r, rfl⟩ := List.exists_cons_of_ne_nil hn
    simp at this
  obtain ⟨b, off, e, hc⟩ := h2 hne
  obtain ⟨b', hb', hlt⟩ := h2.lt hne
  have hbb : b' = b := by rw [e] at hb'; simp [blkOf] at hb'; exact hb'.symm
  subst hbb
  refine ⟨b', off, e, hlt, fun i hi j v hv => ?_⟩
  have hj : j < 22 := by have := (List.getElem?_eq_some_iff.1 hv).1; rw [laL_len] at this; exact this
  have := hc (i * 22 + j) v (by rw [flatA_get hi j hj]; exact hv)
  rw [← Nat.add_assoc] at this
  exact this
/-- acts of one's own, in a row that grows -/
structure OwnA (w0 w : World) (A : Option Addr) (n c : Nat) (l : List La) : Prop where
  len : l.length = n
  own : w.ownsRow w0.heap.size 38 22 (.slice A n c) n (flatA l)
  rep : ∀ d ∈ l, LaAt w d
  far : ∀ d ∈ l, d.a.b ≠ [] → ∀ b, blkOf d.A = some b → w0.heap.size ≤ b ∧ b < w.heap.size ∧ blkOf A ≠ some b
  sm : Same w0 w
theorem OwnA.nil (w : World) : OwnA w w none 0 0 [] := ⟨rfl, World.ownsRow_nil _ _ _ _, by simp, by simp, Chg.refl _ _⟩
theorem OwnA.same {w0 w w' : World} {A : Option Addr} {n c : Nat} {l : List La} (h : OwnA w0 w A n c l) (hs : Same w w') : OwnA w0 w' A n c l :=
  ⟨h.len, own_chg h.own hs (fun _ _ h => h), fun d hd => (h.rep d hd).same hs, fun d hd h0 b hb => by have := h.far d hd h0 b hb; have := hs.size; exact ⟨by omega, by omega, (h.far d hd h0 b hb).2.2⟩, Same.trans h.sm hs⟩
theorem OwnA.acts {w0 w : World} {A : Option Addr} {n c : Nat} {l : List La} (h : OwnA w0 w A n c l) : Acts w A l := acts_own (by have := h.own; rw [← h.len] at this; exact this) h.rep
/-- one more -/
theorem OwnA.snoc {w0 w w' : World} {A A' : Option Addr} {n c c' : Nat} {l : List La} {d : La} (h : OwnA w0 w A n c l) (hd : LaAt w d) (hf : d.a.b ≠ [] → ∀ b, blkOf d.A = some b → w0.heap.size ≤ b ∧ b < w.heap.size ∧ blkOf A ≠ some b)
    (ho : w'.ownsRow w0.heap.size 38 22 (.slice A' (n + 1) c') (n + 1) (flatA l ++ laL d)) (hc : Chg (fun k => blkOf A = some k) w w') (hb : blkOf A' = blkOf A ∨ blkOf A' = some w.heap.size) : OwnA w0 w' A' (n + 1) c' (l ++ [d]) := by
  have hA : ∀ b, blkOf A = some b → w0.heap.size ≤ b ∧ b < w.heap.size := fun b hb => h.own.lt b (by rw [ownBlock_slice]; exact hb)
  have hz := hc.size
  have keep : ∀ x : La, LaAt w x → (x.a.b ≠ [] → ∀ b, blkOf x.A = some b → blkOf A ≠ some b) → LaAt w' x := fun x hx hn => by
    refine ⟨?_, hx.2⟩
    by_cases h0 : x.a.b = []
    · rw [h0]; exact Rd.nil _ _
    · exact hx.1.chg hc (fun b hb _ e => hn h0 b hb e)
  have ne : ∀ b, b < w.heap.size → blkOf A ≠ some b → blkOf A' ≠ some b := fun b hlt hne e => by
    rcases hb with h1 | h1
    · rw [h1] at e; exact hne e
    · rw [h1] at e; simp at e; omega
  refine ⟨by rw [List.length_append, h.len]; rfl, by rw [flatA_snoc]; exact ho, ?_, ?_, Chg.fresh (S := fun k => w0.heap.size ≤ k) (Chg.trans (Same.to h.sm) hc (fun k _ e => (hA k e).1)) (fun _ h => h)⟩
  · intro x hx
    rcases List.mem_append.1 hx with hx | hx
    · exact keep x (h.rep x hx) fun h0 b hb => (h.far x hx h0 b hb).2.2
    · simp at hx; subst hx; exact keep x hd fun h0 b hb => (hf h0 b hb).2.2
  · intro x hx h0 b hb'
    rcases List.mem_append.1 hx with hx | hx
    · have := h.far x hx h0 b hb'
      exact ⟨this.1, by omega, ne b this.2.1 this.2.2⟩
    · simp at hx; subst hx
      have := hf h0 b hb'
      exact ⟨this.1, by omega, ne b this.2.1 this.2.2⟩
/-- pieces of a sound length, their words not too many -/
def FitS (s : List UInt8) : Prop := s.length ≤ 1000000 ∧ ∀ x ∈ cutAt 10 s, (Lib.split x [32]).length ≤ 1000
theorem FitS.hit {x r : List UInt8} (h : FitS (x ++ 10 :: r)) (hx : (10 : UInt8) ∉ x) : (x.length ≤ 1000000 ∧ (Lib.split x [32]).length ≤ 1000) ∧ FitS r := by
  obtain ⟨h1, h2⟩ := h
  rw [cutAt_app 10 x r hx] at h2
  simp at h1
  exact ⟨⟨by omega, h2 x List.mem_cons_self⟩, by omega, fun y hy => h2 y (List.mem_cons_of_mem _ hy)⟩
theorem FitS.miss {x : List UInt8} (h : FitS x) (hx : (10 : UInt8) ∉ x) : x.length ≤ 1000000 ∧ (Lib.split x [32]).length ≤ 1000 := by
  refine ⟨h.1, h.2 x ?_⟩
  rw [cutAt_one 10 x hx]
  exact List.mem_cons_self
def addA (l : List Ac) : Except Nat (List Ac) → Except Nat (List Ac)
  | .ok m => .ok (l ++ m)
  | .error n => .error n
theorem addA_nil (r : Except Nat (List Ac)) : addA [] r = r := by cases r <;> rfl
theorem readB_ok {x r : List UInt8} {a : Ac} (l : List Ac) (n : Nat) (hx : (10 : UInt8) ∉ x) (hp : parseB oneW x = some a) : addA l (readB oneW (x ++ 10 :: r) n) = addA (l ++ [a]) (readB oneW r (n + 1)) := by
  rw [readB_cons hx, hp]
  cases readB oneW r (n + 1) <;> simp [addA]
theorem readB_bad {x r : List UInt8} (l : List Ac) (n : Nat) (hx : (10 : UInt8) ∉ x) (hp : parseB oneW x = none) : addA l (readB oneW (x ++ 10 :: r) n) = .error n := by
  rw [readB_cons hx, hp]
  rfl
theorem cutS_any (l : List UInt8) (w : World) (hm : ∃ m, w.cell? ⟨0, 0, none⟩ = some (.int .i64 m)) (hl : l.length ≤ 1000000) :
    Calls Tryz.prog 29 #[.string ⟨l.toArray⟩, .string ⟨#[10]⟩] w fun e w' => e = .returned (.tuple #[.string ⟨(Lib.cut l [10]).1.toArray⟩, .string ⟨(Lib.cut l [10]).2.1.toArray⟩, .bool (Lib.cut l [10]).2.2]) ∧ Same w w' := by
  obtain ⟨m, hm⟩ := hm
  exact (strings_Cut ⟨l.toArray⟩ ⟨#[10]⟩ m w (by rw [ba_size]; omega) hm).mono fun e w' ⟨he, n, hw⟩ => ⟨he, hw ▸ Same.of_drewN w n⟩
end Go.Proofs.YtlodanjpkjfjiaaGreatDoor
