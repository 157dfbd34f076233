/-
  'append([]T{}, xs...)': append onto a slice of length and capacity 0, wherever that points: what comes of it reads as xs, and nothing that was there has changed. No conditions: nothing of the program is named here.
-/
import Derived.Test.YtopkdiiigidfdaaGreatLib
namespace Go.Al
open Go.RowKit

theorem run_app0 {P : Program} (w : World) {t ty' e : TypeId} {size bytes : Nat} (hT : SlTy P t e size bytes) (A0 : Option Addr) (A : Option Addr) (m c : Nat) (news : List Value) (hl : news.length = m * size) (hr : Rd w A news)
    (hsm : m * bytes ≤ 140737488355328) (hm63 : m ≤ 140737488355328) :
    ∃ A' c' w', (Builtin.append_ #[t, t] ty' #[.slice A0 0 0, .slice A m c]).run P w = .ok (.slice A' m c') w' ∧ Rd w' A' news ∧ m ≤ c' ∧ c' ≤ maxLen ∧ Same w w' ∧ (A' = A0 ∨ A' = some ⟨w.heap.size, 0, none⟩ ∧ w.heap.size < w'.heap.size) := by
  by_cases hm : m = 0
  · subst hm
    have hn : news = [] := List.eq_nil_of_length_eq_zero (by simpa using hl)
    subst hn
    obtain ⟨ht, ⟨i, z, hi, hz, hsz, hby, hzs⟩, hpos⟩ := hT
    refine ⟨A0, 0, w, ?_, Rd.nil _ _, Nat.le_refl _, Nat.zero_le _, Chg.refl _ w, .inl rfl⟩
    cases A0 <;> cases A <;> simp [Builtin.append_, run_underlying ht, sizeOf, typeInfo, hi, Builtin.lenOf, Builtin.firstCells, storeCells, loadCells, loadCellsFrom]
  · obtain ⟨ht, ⟨i, z, hi, hz, hsz, hby, hzs⟩, hpos⟩ := hT
    have h63 : m ≤ maxLen := by simp only [maxLen]; omega
    have hne : news ≠ [] := fun h0 => by
      subst h0
      have : 0 < m * size := Nat.mul_pos (by omega) hpos
      simp at hl; omega
    obtain ⟨b, off, rfl, hc0⟩ := hr hne
    have hcell : ∀ j u, news[j]? = some u → w.cell? ((⟨b, off, none⟩ : Addr).add j) = some u := fun j u hu => by rw [add_lit]; exact hc0 j u hu
    subst hsz
    subst hby
    have fin : ∀ cap : Nat, m ≤ cap → cap ≤ maxLen →
        Rd (w.drew.alloc (.cells (news.toArray ++ Builtin.zeroCells z.cells (cap - m)) e)) (some ⟨w.heap.size, 0, none⟩) news ∧ m ≤ cap ∧ cap ≤ maxLen ∧ Same w (w.drew.alloc (.cells (news.toArray ++ Builtin.zeroCells z.cells (cap - m)) e)) ∧
          ((some ⟨w.heap.size, 0, none⟩ : Option Addr) = A0 ∨ (some ⟨w.heap.size, 0, none⟩ : Option Addr) = some ⟨w.heap.size, 0, none⟩ ∧ w.heap.size < (w.drew.alloc (.cells (news.toArray ++ Builtin.zeroCells z.cells (cap - m)) e)).heap.size) := fun cap h1 h2 => by
      refine ⟨fun _ => ⟨w.heap.size, 0, rfl, fun j u hu => ?_⟩, h1, h2, ((Chg.refl _ w).drew).alloc _, .inr ⟨rfl, by simp⟩⟩
      have hb : Blk (w.drew.alloc (.cells (news.toArray ++ Builtin.zeroCells z.cells (cap - m)) e)) w.heap.size e (news.toArray ++ Builtin.zeroCells z.cells (cap - m)) := Blk.new w.drew _ _
      rw [hb.cell]
      have hj : j < news.length := (List.getElem?_eq_some_iff.1 hu).1
      simpa [Array.getElem?_append, hj] using hu
    cases A0 with
    | none =>
      have hr := run_append_nil (P := P) w t ty' e i z ht hi hz ⟨b, off, none⟩ m c news hl hcell (by omega) (by omega) (by omega)
      exact ⟨_, _, _, hr, fin _ (grownCap_ge w m 0 e) (grownCap_le_maxLen w m 0 e h63)⟩
    | some g =>
      have hr := run_append_grow (P := P) w t ty' e i z ht hi hz g 0 0 [] (by simp) (fun j u hu => by simp at hu) ⟨b, off, none⟩ m c news hl hcell (by omega) (by omega) (growslice_fits (by omega) (by simpa using hsm))
      simp only [Nat.zero_add, Array.empty_append] at hr
      exact ⟨_, _, _, hr, fin _ (by simpa using grownCap_ge w (0 + m) 0 e) (by simpa using grownCap_le_maxLen w (0 + m) 0 e (by simpa using h63))⟩

section
variable {P : Program} (w : World)
theorem wp_app0 {o : Oper} {a : Act} {K : Act → World → Prop} {Q : Exit → Act → World → Prop} (s x : Operand) (t : TypeId)
    (ho : o.op = .call { callee := .builtin .append, args := #[s, x], argTypes := #[t, t] })
    {e : TypeId} {size bytes : Nat} (hT : SlTy P t e size bytes) {A0 : Option Addr} (hs : a.eval s = .slice A0 0 0)
    {A : Option Addr} {m c : Nat} {news : List Value} (hx : a.eval x = .slice A m c) (hl : news.length = m * size) (hr : Rd w A news)
    (hsm : m * bytes ≤ 140737488355328) (hm63 : m ≤ 140737488355328)
    (h : ∀ A' c' w', Rd w' A' news → m ≤ c' → c' ≤ maxLen → Same w w' → (A' = A0 ∨ A' = some ⟨w.heap.size, 0, none⟩ ∧ w.heap.size < w'.heap.size) → K (a.put o.dst (.slice A' m c')) w') : o.wp P a w K Q := by
  obtain ⟨A', c', w', hrun, h1, h2, h3, h4, h5⟩ := run_app0 (P := P) w (ty' := o.type) hT A0 A m c news hl hr hsm hm63
  unfold Oper.wp execOp
  simp only [ho, resolve, invoke, builtin, Sem.run_bind, Sem.run_pure, Result.andThen_ok, List.map_toArray, List.map_cons, List.map_nil, hs, hx, hrun]
  exact h A' c' w' h1 h2 h3 h4 h5
/-- at a step of a region that draws its order -/
theorem step_app0 {ops : Array Oper} {o : Oper} {a : Act} {K : Act → World → Prop} {Q : Exit → Act → World → Prop} {E : Prop} (hgd : o.guard = none) (s x : Operand) (t : TypeId)
    (ho : o.op = .call { callee := .builtin .append, args := #[s, x], argTypes := #[t, t] })
    {e : TypeId} {size bytes : Nat} (hT : SlTy P t e size bytes) {A0 : Option Addr} (hs : a.eval s = .slice A0 0 0)
    {A : Option Addr} {m c : Nat} {news : List Value} (hx : a.eval x = .slice A m c) (hl : news.length = m * size) (hr : Rd w A news)
    (hsm : m * bytes ≤ 140737488355328) (hm63 : m ≤ 140737488355328)
    (h : ∀ A' c' w', Rd w' A' news → m ≤ c' → c' ≤ maxLen → Same w w' → (A' = A0 ∨ A' = some ⟨w.heap.size, 0, none⟩ ∧ w.heap.size < w'.heap.size) → K (a.put o.dst (.slice A' m c')) w') :
    if Region.wanted o (yielded ops a.tmps) = true then Oper.wp P o a w K Q else E := by
  have hw : Region.wanted o (yielded ops a.tmps) = true := by simp [Region.wanted, hgd]
  rw [if_pos hw]
  exact wp_app0 w s x t ho hT hs hx hl hr hsm hm63 h
/-- at a plain region's list -/
theorem wpList_app0 {ops : Array Oper} {rest : List Oper} {o : Oper} {a : Act} {Q : Exit → Act → World → Prop} (hgd : Region.wanted o (yielded ops a.tmps) = true) (s x : Operand) (t : TypeId)
    (ho : o.op = .call { callee := .builtin .append, args := #[s, x], argTypes := #[t, t] })
    {e : TypeId} {size bytes : Nat} (hT : SlTy P t e size bytes) {A0 : Option Addr} (hs : a.eval s = .slice A0 0 0)
    {A : Option Addr} {m c : Nat} {news : List Value} (hx : a.eval x = .slice A m c) (hl : news.length = m * size) (hr : Rd w A news)
    (hsm : m * bytes ≤ 140737488355328) (hm63 : m ≤ 140737488355328)
    (h : ∀ A' c' w', Rd w' A' news → m ≤ c' → c' ≤ maxLen → Same w w' → (A' = A0 ∨ A' = some ⟨w.heap.size, 0, none⟩ ∧ w.heap.size < w'.heap.size) → wpList P ops Q rest (a.put o.dst (.slice A' m c')) w') : wpList P ops Q (o :: rest) a w :=
  wpList_step fun _ hK => by
    rw [if_pos hgd]
    exact wp_app0 w s x t ho hT hs hx hl hr hsm hm63 fun A' c' w' h1 h2 h3 h4 h5 => hK _ _ (h A' c' w' h1 h2 h3 h4 h5)
end
end Go.Al
