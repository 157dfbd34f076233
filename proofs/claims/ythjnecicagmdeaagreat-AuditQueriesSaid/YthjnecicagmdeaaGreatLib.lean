/-
  Words for memory that the proofs of this seat share: what has changed between two worlds, a block that is known whole, a slice that reads as a list, an owned row, append. No conditions: nothing of the program is named here.
-/
import Derived.WalkKit
import Derived.WalkSpells
import Derived.WalkLawsBesides
import Derived.Deep.QuietTactic
import Derived.BigQuiet
import Derived.Deep.Draws
import Derived.Deep.LoopGhost
import Derived.Deep.RegionHeld3
import Derived.Deep.DrawnRows
import Derived.Lib.SlBytesConst
namespace Go.Al
open Go.RowKit

theorem hide {p : Prop} (h : p) : Hid p := h
theorem ret_eq {a b : Value} (h : a = b) : Ending.returned a = Ending.returned b := by rw [h]

/-- the type of a block's cells, if it is a block of cells -/
def ty (w : World) (k : Nat) : Option TypeId := (w.shape? k).map (·.1)

/-- from w to w' only blocks of S, and new ones, have changed; no block has changed its type -/
structure Chg (S : Nat → Prop) (w w' : World) : Prop where
  os : w'.os = w.os
  tape : w'.tape = w.tape
  output : w'.output = w.output
  size : w.heap.size ≤ w'.heap.size
  tys : ∀ k, k < w.heap.size → ty w' k = ty w k
  block : ∀ k, k < w.heap.size → ¬ S k → w'.heap[k]? = w.heap[k]?

theorem ty_of_heap {w w' : World} {k : Nat} (h : w'.heap[k]? = w.heap[k]?) : ty w' k = ty w k := by
  simp [ty, World.shape?, h]
theorem ty_lt {w : World} {k : Nat} {t : TypeId} (h : ty w k = some t) : k < w.heap.size := by
  rcases Nat.lt_or_ge k w.heap.size with h' | h'
  · exact h'
  · simp [ty, World.shape?, Array.getElem?_eq_none h'] at h
theorem ty_setCell (w : World) (p : Addr) (u : Value) (k : Nat) : ty (w.setCell p u) k = ty w k := by
  unfold ty World.shape? World.setCell
  simp only [Array.getElem?_modify]
  by_cases hb : p.block = k
  · subst hb
    simp only [if_true]
    cases hh : w.heap[p.block]? with
    | none => simp
    | some x => cases x <;> simp
  · simp [hb]
theorem ty_cells {w : World} {k : Nat} {cs : Array Value} {t : TypeId} {fr : Nat × Nat} (h : w.heap[k]? = some (.cells cs t fr)) : ty w k = some t := by
  simp [ty, World.shape?, h]
theorem ty_setRow (w : World) (g : Nat) (cs : Array Value) (k : Nat) : ty (w.setRow g cs) k = ty w k := by
  unfold ty World.shape? World.setRow
  simp only [Array.getElem?_modify]
  by_cases hb : g = k
  · subst hb
    simp only [if_true]
    cases hh : w.heap[g]? with
    | none => simp
    | some x => cases x <;> simp
  · simp [hb]

section
variable {S S' : Nat → Prop} {a w w' w'' : World}
theorem Chg.refl (S : Nat → Prop) (w : World) : Chg S w w := ⟨rfl, rfl, rfl, Nat.le_refl _, fun _ _ => rfl, fun _ _ _ => rfl⟩
theorem Chg.trans (h : Chg S a w) (h' : Chg S' w w') (hS : ∀ k, k < a.heap.size → S' k → S k) : Chg S a w' :=
  ⟨h'.os.trans h.os, h'.tape.trans h.tape, h'.output.trans h.output, Nat.le_trans h.size h'.size,
   fun k hk => (h'.tys k (Nat.lt_of_lt_of_le hk h.size)).trans (h.tys k hk),
   fun k hk hn => (h'.block k (Nat.lt_of_lt_of_le hk h.size) (fun hs => hn (hS k hk hs))).trans (h.block k hk hn)⟩
theorem Chg.mono (h : Chg S a w) (hS : ∀ k, k < a.heap.size → S k → S' k) : Chg S' a w :=
  ⟨h.os, h.tape, h.output, h.size, h.tys, fun k hk hn => h.block k hk (fun hs => hn (hS k hk hs))⟩
theorem Chg.drew (h : Chg S a w) : Chg S a w.drew := ⟨h.os, h.tape, h.output, h.size, h.tys, h.block⟩
theorem Chg.undrew (h : Chg S w.drew w') : Chg S w w' := ⟨h.os, h.tape, h.output, h.size, h.tys, h.block⟩
theorem Chg.drewN (h : Chg S a w) (n : Nat) : Chg S a (w.drewN n) := ⟨h.os, h.tape, h.output, h.size, h.tys, h.block⟩
theorem Chg.alloc (h : Chg S a w) (o : Obj) : Chg S a (w.alloc o) :=
  ⟨h.os, h.tape, h.output, Nat.le_trans h.size (by simp),
   fun k hk => (ty_of_heap (Below.heap_alloc w o k (Nat.lt_of_lt_of_le hk h.size))).trans (h.tys k hk),
   fun k hk hn => (Below.heap_alloc w o k (Nat.lt_of_lt_of_le hk h.size)).trans (h.block k hk hn)⟩
theorem Chg.setCell (h : Chg S a w) {p : Addr} (hp : S p.block ∨ a.heap.size ≤ p.block) (u : Value) : Chg S a (w.setCell p u) :=
  ⟨h.os, h.tape, h.output, by simpa using h.size,
   fun k hk => (ty_setCell w p u k).trans (h.tys k hk),
   fun k hk hn => (Below.heap_setCell w p u k (by
      rintro rfl
      rcases hp with hp | hp
      · exact hn hp
      · omega)).trans (h.block k hk hn)⟩
theorem Chg.set1 {g : Nat} (h : Chg (· = g) a w) (i : Nat) (u : Value) : Chg (· = g) a (w.setCell ⟨g, i, none⟩ u) := h.setCell (p := ⟨g, i, none⟩) (.inl rfl) u
theorem Chg.cell (h : Chg S a w) {p : Addr} (hp : p.block < a.heap.size) (hn : ¬ S p.block) : w.cell? p = a.cell? p :=
  World.cell?_of_block (h.block p.block hp hn)
theorem Chg.frozen (h : Chg S a w) {p : Addr} (hp : p.block < a.heap.size) (hn : ¬ S p.block) : w.frozen? p = a.frozen? p :=
  World.frozen?_of_block (h.block p.block hp hn)
theorem Chg.below {B : Nat} (h : Chg S a w) (hB : B ≤ a.heap.size) (hS : ∀ k, S k → B ≤ k) : Below B a w :=
  ⟨h.os, h.tape, h.output, h.size, fun k hk => h.block k (by omega) (fun hs => by have := hS k hs; omega)⟩
theorem Chg.ty_eq (h : Chg S a w) {k : Nat} {t : TypeId} (ht : ty a k = some t) : ty w k = some t := (h.tys k (ty_lt ht)).trans ht
/-- nothing that was there has changed -/
abbrev Same (w w' : World) : Prop := Chg (fun _ => False) w w'
theorem Same.to (h : Same a w) : Chg S a w := h.mono fun _ _ hf => hf.elim
theorem Same.trans (h : Same a w) (h' : Same w w') : Same a w' := Chg.trans h h' fun _ _ hf => hf
theorem Chg.same (h : Chg S a w) (h' : Same w w') : Chg S a w' := h.trans h' fun _ _ hf => hf.elim
theorem Chg.of_same (h : Same a w) (h' : Chg S w w') : Chg S a w' := Chg.trans (h.to) h' fun _ _ hf => hf
theorem Same.of_drewN (w : World) (n : Nat) : Same w (w.drewN n) := (Chg.refl _ w).drewN n
theorem Chg.fresh (h : Chg S a w) (hS : ∀ k, S k → a.heap.size ≤ k) : Same a w := h.mono fun k hk hs => by have := hS k hs; omega
end

/-- block g is just these cells, none frozen -/
def Blk (w : World) (g : Nat) (t : TypeId) (cs : Array Value) : Prop := w.heap[g]? = some (.cells cs t (0, 0))
section
variable {S : Nat → Prop} {w w' : World} {g : Nat} {t : TypeId} {cs : Array Value}
theorem Blk.lt (h : Blk w g t cs) : g < w.heap.size := (Array.getElem?_eq_some_iff.1 h).1
theorem Blk.cell (h : Blk w g t cs) (i : Nat) : w.cell? ⟨g, i, none⟩ = cs[i]? := cell_of_row w g i cs t (0, 0) h
theorem Blk.frozen (h : Blk w g t cs) (i : Nat) : w.frozen? ⟨g, i, none⟩ = false := by
  unfold Blk at h
  simp [World.frozen?, h]
theorem Blk.ty (h : Blk w g t cs) : ty w g = some t := ty_cells h
theorem Blk.new (w : World) (t : TypeId) (cs : Array Value) : Blk (w.alloc (.cells cs t)) w.heap.size t cs := heap_alloc_new w _
theorem Blk.drew (h : Blk w g t cs) : Blk w.drew g t cs := h
theorem Blk.drewN (h : Blk w g t cs) (n : Nat) : Blk (w.drewN n) g t cs := h
theorem Blk.alloc (h : Blk w g t cs) (o : Obj) : Blk (w.alloc o) g t cs := (Below.heap_alloc w o g h.lt).trans h
theorem Blk.set_ (h : Blk w g t cs) (i : Nat) (u : Value) : Blk (w.setCell ⟨g, i, none⟩ u) g t (cs.setIfInBounds i u) := by
  unfold Blk at h ⊢
  simp [World.setCell, Array.getElem?_modify, h]
theorem Blk.far (h : Blk w g t cs) {p : Addr} (hp : g ≠ p.block) (u : Value) : Blk (w.setCell p u) g t cs := (Below.heap_setCell w p u g hp).trans h
theorem Blk.chg (h : Blk w g t cs) (hb : Chg S w w') (hg : ¬ S g) : Blk w' g t cs := (hb.block g h.lt hg).trans h
theorem Blk.same (h : Blk w g t cs) (hb : Same w w') : Blk w' g t cs := h.chg hb fun hf => hf
end

/-- a slice whose array begins at A reads as the cells xs -/
def Rd (w : World) (A : Option Addr) (xs : List Value) : Prop :=
  xs ≠ [] → ∃ b off, A = some ⟨b, off, none⟩ ∧ ∀ i x, xs[i]? = some x → w.cell? ⟨b, off + i, none⟩ = some x
/-- the block of a slice's array -/
def blkOf (A : Option Addr) : Option Nat := A.map (·.block)
/-- the array of a slice has cells of type e, if there is one -/
def TyA (w : World) (e : TypeId) (A : Option Addr) : Prop := ∀ b, blkOf A = some b → ty w b = some e

theorem add_lit (b off i : Nat) : (⟨b, off, none⟩ : Addr).add i = ⟨b, off + i, none⟩ := by unfold Addr.add; split <;> simp_all

section
variable {S : Nat → Prop} {w w' : World} {A : Option Addr} {xs : List Value} {e : TypeId}
theorem Rd.nil (w : World) (A : Option Addr) : Rd w A [] := fun h => absurd rfl h
theorem Rd.at_ (h : Rd w A xs) {i : Nat} (hi : i < xs.length) : ∃ b off, A = some ⟨b, off, none⟩ ∧ w.cell? ⟨b, off + i, none⟩ = some xs[i] := by
  obtain ⟨b, off, e, hc⟩ := h (fun h0 => by subst h0; simp at hi)
  exact ⟨b, off, e, hc i _ (List.getElem?_eq_getElem hi)⟩
theorem Rd.lt (h : Rd w A xs) (hx : xs ≠ []) : ∃ b, blkOf A = some b ∧ b < w.heap.size := by
  obtain ⟨b, off, rfl, hc⟩ := h hx
  obtain ⟨x, r, rfl⟩ := List.exists_cons_of_ne_nil hx
  exact ⟨b, rfl, World.block_lt_of_cell? (a := ⟨b, off + 0, none⟩) w (hc 0 x rfl)⟩
theorem Rd.keep (h : Rd w A xs) (hk : ∀ b, blkOf A = some b → b < w.heap.size → w'.heap[b]? = w.heap[b]?) : Rd w' A xs := by
  intro hx
  obtain ⟨b', hb', hlt⟩ := h.lt hx
  obtain ⟨b, off, rfl, hc⟩ := h hx
  simp [blkOf] at hb'
  subst hb'
  exact ⟨_, off, rfl, fun i x hi => (World.cell?_of_block (a := ⟨b, off + i, none⟩) (hk _ rfl hlt)).trans (hc i x hi)⟩
theorem Rd.chg (h : Rd w A xs) (hc : Chg S w w') (hs : ∀ b, blkOf A = some b → b < w.heap.size → ¬ S b) : Rd w' A xs :=
  h.keep fun b hb hlt => hc.block b hlt (hs b hb hlt)
theorem Rd.same (h : Rd w A xs) (hc : Same w w') : Rd w' A xs := h.chg hc fun _ _ _ hf => hf
theorem Rd.drew (h : Rd w A xs) : Rd w.drew A xs := h
theorem Rd.drewN (h : Rd w A xs) (n : Nat) : Rd (w.drewN n) A xs := h
theorem Rd.alloc (h : Rd w A xs) (o : Obj) : Rd (w.alloc o) A xs := h.same ((Chg.refl _ w).alloc o)
theorem Rd.setCell (h : Rd w A xs) {p : Addr} (hp : blkOf A ≠ some p.block) (u : Value) : Rd (w.setCell p u) A xs :=
  h.keep fun b hb _ => Below.heap_setCell w p u b (fun e => hp (by rw [hb, e]))
theorem Rd.take (h : Rd w A xs) (n : Nat) : Rd w A (xs.take n) := by
  intro hx
  obtain ⟨b, off, e, hc⟩ := h (fun h0 => hx (by simp [h0]))
  refine ⟨b, off, e, fun i x hi => hc i x ?_⟩
  rw [List.getElem?_take] at hi
  split at hi
  · exact hi
  · cases hi
theorem Rd.drop (h : Rd w A xs) (k : Nat) : Rd w (A.map (·.add k)) (xs.drop k) := by
  intro hx
  obtain ⟨b, off, e, hc⟩ := h (fun h0 => hx (by simp [h0]))
  refine ⟨b, off + k, by rw [e]; simp [add_lit], fun i x hi => ?_⟩
  rw [List.getElem?_drop] at hi
  have := hc _ x hi
  rwa [← Nat.add_assoc] at this
/-- the cut 's[k:]', as the walk spells it: at k = the capacity the old address stays -/
theorem Rd.cut (h : Rd w A xs) (k : Nat) {c : Nat} (hc : xs.length ≤ c) : Rd w (if c = k then A else A.map (·.add k)) (xs.drop k) := by
  by_cases hk : c = k
  · rw [if_pos hk, List.drop_of_length_le (by omega)]
    exact Rd.nil w A
  · rw [if_neg hk]
    exact h.drop k
theorem Rd.cutL {b off : Nat} (h : Rd w (some ⟨b, off, none⟩) xs) (k : Nat) {c : Nat} (hc : xs.length ≤ c) : Rd w (if c = k then some ⟨b, off, none⟩ else some ⟨b, off + k, none⟩) (xs.drop k) := by
  have := h.cut k hc
  simpa only [Option.map_some, add_lit] using this
theorem blkOf_cutL (b off k c : Nat) : blkOf (if c = k then some ⟨b, off, none⟩ else some ⟨b, off + k, none⟩) = some b := by split <;> rfl
theorem TyA.cutL {b off : Nat} (h : TyA w e (some ⟨b, off, none⟩)) (k c : Nat) : TyA w e (if c = k then some ⟨b, off, none⟩ else some ⟨b, off + k, none⟩) := fun b' hb => h b' (by rw [blkOf_cutL] at hb; exact hb)
theorem blkOf_cut (A : Option Addr) (k c : Nat) : blkOf (if c = k then A else A.map (·.add k)) = blkOf A := by
  split
  · rfl
  · cases A with
    | none => rfl
    | some a => simp only [blkOf, Option.map_some, Addr.add]; split <;> rfl
theorem TyA.none_ (w : World) (e : TypeId) : TyA w e none := fun b hb => by simp [blkOf] at hb
theorem TyA.chg (h : TyA w e A) (hc : Chg S w w') : TyA w' e A := fun b hb => hc.ty_eq (h b hb)
theorem TyA.ne {g : Nat} {t : TypeId} (h : TyA w e A) (hg : ty w g = some t) (hn : t ≠ e) : blkOf A ≠ some g := fun hb => by
  have := h g hb
  rw [hg] at this
  exact hn (Option.some.inj this)
theorem TyA.of_blk {A' : Option Addr} (h : TyA w e A) (hb : blkOf A' = blkOf A) : TyA w e A' := fun b h' => h b (by rw [← hb]; exact h')
theorem TyA.cut (h : TyA w e A) (k c : Nat) : TyA w e (if c = k then A else A.map (·.add k)) := fun b hb => h b (by rw [blkOf_cut] at hb; exact hb)
end

/-- what append needs to know of a slice's type -/
structure SlTy (P : Program) (t e : TypeId) (size bytes : Nat) : Prop where
  und : P.underlying t = some (.slice e)
  info : ∃ i z, P.info? e = some i ∧ i.zero = some z ∧ i.size = size ∧ i.bytes = bytes ∧ z.cells.size = size
  pos : 0 < size
theorem SlTy.of {P : Program} {t e : TypeId} {size bytes : Nat} {z : Value} (und : P.underlying t = some (.slice e)) (h : (P.info? e).map (fun i => (i.zero, i.size, i.bytes)) = some (some z, size, bytes)) (hz : z.cells.size = size) (pos : 0 < size) : SlTy P t e size bytes := by
  obtain ⟨i, hi, hz0, hz1, hz2⟩ := info_parts h
  exact ⟨und, ⟨i, z, hi, hz0, hz1, hz2, hz⟩, pos⟩

section
variable {w : World} {base : Nat} {e : TypeId} {size n : Nat} {v : Value} {xs : List Value}
theorem own_form (h : w.ownsRow base e size v n xs) : ∃ A c, v = .slice A n c ∧ n ≤ c ∧ Rd w A xs ∧ TyA w e A ∧ blkOf A = v.ownBlock ∧ c ≤ maxLen ∧ ∀ b, blkOf A = some b → base ≤ b := by
  have hc := @World.ownsRow.cells w base e size v n xs h
  rcases h.2 with ⟨rfl, rfl⟩ | ⟨g, cap, cur, rfl, hb, hg, hn, hm, hs, ht⟩
  · have hx : xs = [] := List.eq_nil_of_length_eq_zero (by simpa using h.1)
    subst hx
    exact ⟨none, 0, rfl, Nat.le_refl _, Rd.nil w _, TyA.none_ w e, rfl, Nat.zero_le _, fun b hb => by simp [blkOf] at hb⟩
  · refine ⟨some ⟨g, 0, none⟩, cap, rfl, hn, fun _ => ⟨g, 0, rfl, fun i x hi => ?_⟩, fun b hb => ?_, rfl, hm, fun b hb => ?_⟩
    · have := hc (g := g) rfl i x hi
      rwa [add_lit] at this
    · simp [blkOf] at hb; subst hb; exact ty_cells hg
    · simp [blkOf] at hb; omega
theorem own_rd {A : Option Addr} {c : Nat} (h : w.ownsRow base e size (.slice A n c) n xs) : Rd w A xs := by
  obtain ⟨A', c', hv, _, hr, _⟩ := own_form h
  cases hv
  exact hr
theorem own_chg {S : Nat → Prop} {w' : World} (h : w.ownsRow base e size v n xs) (hc : Chg S w w') (hs : ∀ b, v.ownBlock = some b → ¬ S b) : w'.ownsRow base e size v n xs := by
  refine ⟨h.1, ?_⟩
  rcases h.2 with hn | ⟨g, cap, cur, rfl, hb, hgg, rest⟩
  · exact .inl hn
  · refine .inr ⟨g, cap, cur, rfl, hb, ?_, rest⟩
    rw [hc.block g (Array.getElem?_eq_some_iff.1 hgg).1 (hs g rfl)]
    exact hgg
theorem own_ty (h : w.ownsRow base e size v n xs) {b : Nat} (hb : v.ownBlock = some b) : ty w b = some e := by
  obtain ⟨A, c, rfl, _, _, ht, he, _⟩ := own_form h
  exact ht b (by rw [he]; exact hb)
theorem own_mono {base' : Nat} (h : w.ownsRow base e size v n xs) (hb : ∀ b, v.ownBlock = some b → base' ≤ b) : w.ownsRow base' e size v n xs := by
  refine ⟨h.1, ?_⟩
  rcases h.2 with hn | ⟨g, cap, cur, rfl, _, hgg, rest⟩
  · exact .inl hn
  · exact .inr ⟨g, cap, cur, rfl, hb g rfl, hgg, rest⟩
/-- a slice that the call laid as a literal -/
theorem own_lit (w : World) (base : Nat) (e : TypeId) (size : Nat) (cs : Array Value) (n : Nat) (hb : base ≤ w.heap.size) (hm : n ≤ maxLen) (hs : cs.size = n * size) :
    (w.alloc (.cells cs e)).ownsRow base e size (.slice (some ⟨w.heap.size, 0, none⟩) n n) n cs.toList :=
  ⟨by simpa using hs, .inr ⟨w.heap.size, n, cs, rfl, hb, heap_alloc_new w _, Nat.le_refl _, hm, hs, by
    rw [List.take_of_length_le (by simp [hs])]⟩⟩
end

section
variable {P : Program} (w : World)
theorem run_app {t ty' e : TypeId} {size bytes : Nat} (hT : SlTy P t e size bytes) {base : Nat}
    (v : Value) (n : Nat) (xs : List Value) (hown : w.ownsRow base e size v n xs)
    (A : Option Addr) (m c : Nat) (news : List Value) (hl : news.length = m * size) (hr : Rd w A news) (h1 : ∀ u ∈ news, u.oneCell' = true)
    (hsm : (n + m) * bytes ≤ 140737488355328) (hn63 : n + m ≤ 140737488355328) (hbase : base ≤ w.heap.size) :
    ∃ v' w', (Builtin.append_ #[t, t] ty' #[v, .slice A m c]).run P w = .ok v' w' ∧ w'.ownsRow base e size v' (n + m) (xs ++ news) ∧ Chg (fun k => v.ownBlock = some k) w w' ∧
      (v'.ownBlock = v.ownBlock ∨ v'.ownBlock = some w.heap.size) := by
  obtain ⟨ht, ⟨i, z, hi, hz, hsz, hby, hzs⟩, hpos⟩ := hT
  have h63 : n + m ≤ maxLen := by simp only [maxLen]; omega
  by_cases hm : m = 0
  · subst hm
    have hn : news = [] := List.eq_nil_of_length_eq_zero (by simpa using hl)
    subst hn
    refine ⟨v, w, ?_, by simpa using hown, Chg.refl _ w, .inl rfl⟩
    rcases hown.2 with ⟨rfl, rfl⟩ | ⟨g, cap, cur, rfl, _, _, hnc, _⟩
    · cases A <;> simp [Builtin.append_, run_underlying ht, sizeOf, typeInfo, hi, Builtin.lenOf, Builtin.firstCells, loadCells, loadCellsFrom]
    · cases A <;> simp [Builtin.append_, run_underlying ht, sizeOf, typeInfo, hi, Builtin.lenOf, Builtin.firstCells, hnc, storeCells, loadCells, loadCellsFrom]
  have hne : news ≠ [] := fun h0 => by
    subst h0
    have : 0 < m * size := Nat.mul_pos (by omega) hpos
    simp at hl; omega
  obtain ⟨b, off, rfl, hc0⟩ := hr hne
  have hcell : ∀ j u, news[j]? = some u → w.cell? ((⟨b, off, none⟩ : Addr).add j) = some u := fun j u hu => by rw [add_lit]; exact hc0 j u hu
  subst hsz
  subst hby
  have hlen : (xs ++ news).length = (n + m) * i.size := by rw [List.length_append, hown.1, hl, Nat.add_mul]
  have grown : ∀ (old : Nat), old < n + m → ∀ S : Nat → Prop,
      (w.drew.alloc (.cells (xs.toArray ++ news.toArray ++ Builtin.zeroCells z.cells (grownCap w (n + m) old e - (n + m))) e)).ownsRow base e i.size
        (.slice (some ⟨w.heap.size, 0, none⟩) (n + m) (grownCap w (n + m) old e)) (n + m) (xs ++ news) ∧
      Chg S w (w.drew.alloc (.cells (xs.toArray ++ news.toArray ++ Builtin.zeroCells z.cells (grownCap w (n + m) old e - (n + m))) e)) := by
    intro old ho S
    have hge := grownCap_ge w (n + m) old e
    have hcm : grownCap w (n + m) old e ≤ maxLen := grownCap_le_maxLen w (n + m) old e h63
    refine ⟨⟨hlen, .inr ⟨w.heap.size, _, _, rfl, hbase, heap_alloc_new w.drew _, hge, hcm, ?_, ?_⟩⟩, ((Chg.refl S w).drew).alloc _⟩
    · simp only [Array.size_append, List.size_toArray, size_zeroCells, hzs, hown.1, hl, ← Nat.add_mul]
      congr 1
      omega
    · simp only [Array.toList_append, List.append_assoc]
      rw [← List.append_assoc, ← hlen]
      exact List.take_left
  rcases hown.2 with ⟨rfl, rfl⟩ | ⟨g, cap, cur, rfl, hbg, hg, hnc, hcm, hcs, htake⟩
  · have hx : xs = [] := List.eq_nil_of_length_eq_zero (by simpa using hown.1)
    subst hx
    have hr := run_append_nil (P := P) w t ty' e i z ht hi hz ⟨b, off, none⟩ m c news hl hcell (by omega) (by omega) (by simp only [Nat.zero_add] at hsm; omega)
    have hgr := grown 0 (by omega) (fun k => Value.ownBlock (.slice none 0 0) = some k)
    simp only [Nat.zero_add, List.nil_append, Array.empty_append] at hgr ⊢
    exact ⟨_, _, hr, hgr.1, hgr.2, Or.inr rfl⟩
  · by_cases hroom : n + m ≤ cap
    · have hfit : n * i.size + news.length ≤ cur.size := by rw [hl, hcs, ← Nat.add_mul]; exact Nat.mul_le_mul_right _ hroom
      have hr := run_append_room (P := P) w t ty' e i ht hi g n cap cur hg ⟨b, off, none⟩ m c news hl hcell h1 hroom hfit
      refine ⟨_, _, hr, ⟨hlen, .inr ⟨g, cap, _, rfl, hbg, setRow_heap w g cur _ e _ hg, hroom, hcm, ?_, ?_⟩⟩, ⟨rfl, rfl, rfl, by simp, fun k _ => ty_setRow w g _ k, fun k _ hk => setRow_other w g k _ (fun e => hk (by simp [Value.ownBlock, e]))⟩, Or.inl rfl⟩
      · simp only [List.size_toArray, List.length_append, List.length_take, List.length_drop, Array.length_toList]
        omega
      · rw [htake, ← hlen]
        exact List.take_left
    · have holds : ∀ j u, xs[j]? = some u → w.cell? ((⟨g, 0, none⟩ : Addr).add j) = some u := hown.cells (g := g) rfl
      have hr := run_append_grow (P := P) w t ty' e i z ht hi hz ⟨g, 0, none⟩ n cap xs hown.1 holds ⟨b, off, none⟩ m c news hl hcell (by omega) (by omega) (growslice_fits (by omega) hsm)
      have hgr := grown cap (by omega) (fun k => Value.ownBlock (.slice (some ⟨g, 0, none⟩) n cap) = some k)
      exact ⟨_, _, hr, hgr.1, hgr.2, Or.inr rfl⟩

theorem wp_app {o : Oper} {a : Act} {K : Act → World → Prop} {Q : Exit → Act → World → Prop} (s x : Operand) (t : TypeId)
    (ho : o.op = .call { callee := .builtin .append, args := #[s, x], argTypes := #[t, t] })
    {e : TypeId} {size bytes : Nat} (hT : SlTy P t e size bytes) {base : Nat}
    {v : Value} {n : Nat} {xs : List Value} (hs : a.eval s = v) (hown : w.ownsRow base e size v n xs)
    {A : Option Addr} {m c : Nat} {news : List Value} (hx : a.eval x = .slice A m c) (hl : news.length = m * size) (hr : Rd w A news) (h1 : ∀ u ∈ news, u.oneCell' = true)
    (hsm : (n + m) * bytes ≤ 140737488355328) (hn63 : n + m ≤ 140737488355328) (hbase : base ≤ w.heap.size)
    (h : ∀ v' w', w'.ownsRow base e size v' (n + m) (xs ++ news) → Chg (fun k => v.ownBlock = some k) w w' → (v'.ownBlock = v.ownBlock ∨ v'.ownBlock = some w.heap.size) → K (a.put o.dst v') w') : o.wp P a w K Q := by
  obtain ⟨v', w', hrun, h2, h3, h4⟩ := run_app (P := P) w (ty' := o.type) hT v n xs hown A m c news hl hr h1 hsm hn63 hbase
  unfold Oper.wp execOp
  simp only [ho, resolve, invoke, builtin, Sem.run_bind, Sem.run_pure, Result.andThen_ok, List.map_toArray, List.map_cons, List.map_nil, hs, hx, hrun]
  exact h v' w' h2 h3 h4

theorem wpList_app {ops : Array Oper} {rest : List Oper} {o : Oper} {a : Act} {Q : Exit → Act → World → Prop} (hgd : Region.wanted o (yielded ops a.tmps) = true) (s x : Operand) (t : TypeId)
    (ho : o.op = .call { callee := .builtin .append, args := #[s, x], argTypes := #[t, t] })
    {e : TypeId} {size bytes : Nat} (hT : SlTy P t e size bytes) {base : Nat}
    {v : Value} {n : Nat} {xs : List Value} (hs : a.eval s = v) (hown : w.ownsRow base e size v n xs)
    {A : Option Addr} {m c : Nat} {news : List Value} (hx : a.eval x = .slice A m c) (hl : news.length = m * size) (hr : Rd w A news) (h1 : ∀ u ∈ news, u.oneCell' = true)
    (hsm : (n + m) * bytes ≤ 140737488355328) (hn63 : n + m ≤ 140737488355328) (hbase : base ≤ w.heap.size)
    (h : ∀ v' w', w'.ownsRow base e size v' (n + m) (xs ++ news) → Chg (fun k => v.ownBlock = some k) w w' → (v'.ownBlock = v.ownBlock ∨ v'.ownBlock = some w.heap.size) → wpList P ops Q rest (a.put o.dst v') w') : wpList P ops Q (o :: rest) a w :=
  wpList_step fun _ hK => by
    rw [if_pos hgd]
    exact wp_app w s x t ho hT hs hown hx hl hr h1 hsm hn63 hbase fun v' w' h2 h3 h4 => hK _ _ (h v' w' h2 h3 h4)
end

theorem ownBlock_slice (A : Option Addr) (n c : Nat) : (Value.slice A n c).ownBlock = blkOf A := by cases A <;> rfl
/-- append, with the slices written out -/
theorem wpList_appS {P : Program} {w : World} {ops : Array Oper} {rest : List Oper} {o : Oper} {a : Act} {Q : Exit → Act → World → Prop} (hgd : Region.wanted o (yielded ops a.tmps) = true) (s x : Operand) (t : TypeId)
    (ho : o.op = .call { callee := .builtin .append, args := #[s, x], argTypes := #[t, t] })
    {e : TypeId} {size bytes : Nat} (hT : SlTy P t e size bytes) {base : Nat}
    {A0 : Option Addr} {c0 n : Nat} {xs : List Value} (hs : a.eval s = .slice A0 n c0) (hown : w.ownsRow base e size (.slice A0 n c0) n xs)
    {A : Option Addr} {m c : Nat} {news : List Value} (hx : a.eval x = .slice A m c) (hl : news.length = m * size) (hr : Rd w A news) (h1 : ∀ u ∈ news, u.oneCell' = true)
    (hsm : (n + m) * bytes ≤ 140737488355328) (hn63 : n + m ≤ 140737488355328) (hbase : base ≤ w.heap.size)
    (h : ∀ A' c' w', w'.ownsRow base e size (.slice A' (n + m) c') (n + m) (xs ++ news) → Chg (fun k => blkOf A0 = some k) w w' → (blkOf A' = blkOf A0 ∨ blkOf A' = some w.heap.size) →
      wpList P ops Q rest (a.put o.dst (.slice A' (n + m) c')) w') : wpList P ops Q (o :: rest) a w :=
  wpList_app w hgd s x t ho hT hs hown hx hl hr h1 hsm hn63 hbase fun v' w' h2 h3 h4 => by
    obtain ⟨A', c', hv, _, _, _, hb, _⟩ := own_form h2
    subst hv
    rw [ownBlock_slice] at h4
    simp only [ownBlock_slice] at h3 h4
    exact h A' c' w' h2 h3 h4

/-- append at a step of a region that draws its order -/
theorem step_appS {P : Program} {w : World} {ops : Array Oper} {o : Oper} {a : Act} {K : Act → World → Prop} {Q : Exit → Act → World → Prop} {E : Prop} (hgd : o.guard = none) (s x : Operand) (t : TypeId)
    (ho : o.op = .call { callee := .builtin .append, args := #[s, x], argTypes := #[t, t] })
    {e : TypeId} {size bytes : Nat} (hT : SlTy P t e size bytes) {base : Nat}
    {A0 : Option Addr} {c0 n : Nat} {xs : List Value} (hs : a.eval s = .slice A0 n c0) (hown : w.ownsRow base e size (.slice A0 n c0) n xs)
    {A : Option Addr} {m c : Nat} {news : List Value} (hx : a.eval x = .slice A m c) (hl : news.length = m * size) (hr : Rd w A news) (h1 : ∀ u ∈ news, u.oneCell' = true)
    (hsm : (n + m) * bytes ≤ 140737488355328) (hn63 : n + m ≤ 140737488355328) (hbase : base ≤ w.heap.size)
    (h : ∀ A' c' w', w'.ownsRow base e size (.slice A' (n + m) c') (n + m) (xs ++ news) → Chg (fun k => blkOf A0 = some k) w w' → (blkOf A' = blkOf A0 ∨ blkOf A' = some w.heap.size) →
      K (a.put o.dst (.slice A' (n + m) c')) w') :
    if Region.wanted o (yielded ops a.tmps) = true then Oper.wp P o a w K Q else E := by
  have hw : Region.wanted o (yielded ops a.tmps) = true := by simp [Region.wanted, hgd]
  rw [if_pos hw]
  exact wp_app w s x t ho hT hs hown hx hl hr h1 hsm hn63 hbase fun v' w' h2 h3 h4 => by
    obtain ⟨A', c', hv, _, _, _, hb, _⟩ := own_form h2
    subst hv
    rw [ownBlock_slice] at h4
    simp only [ownBlock_slice] at h3 h4
    exact h A' c' w' h2 h3 h4
/-- behind an append onto a row of the call's own: nothing that was there when the call began has changed -/
theorem Same.app {w0 wr w5 : World} {base : Nat} {e : TypeId} {size n n' c : Nat} {A0 : Option Addr} {xs : List Value} (h : Same w0 wr) (hown : wr.ownsRow base e size (.slice A0 n c) n' xs) (hb : w0.heap.size ≤ base)
    (hc : Chg (fun k => blkOf A0 = some k) wr w5) : Same w0 w5 :=
  Chg.fresh (S := fun k => w0.heap.size ≤ k) ((h.to).trans hc fun k _ hk => Nat.le_trans hb (hown.lt k (by rw [ownBlock_slice]; exact hk)).1) fun _ h => h
theorem Same.app1 {w0 wr w5 : World} {base : Nat} {e : TypeId} {size n n' c : Nat} {A0 : Option Addr} {xs : List Value} {o : Obj} (h : Same w0 wr) (hown : wr.ownsRow base e size (.slice A0 n c) n' xs) (hb : w0.heap.size ≤ base)
    (hc : Chg (fun k => blkOf A0 = some k) (wr.alloc o) w5) : Same w0 w5 :=
  h.app hown hb (((Chg.refl _ wr).alloc o).trans hc fun _ _ h => h)

theorem SlTy.elem {P : Program} {t e : TypeId} {size bytes : Nat} (hT : SlTy P t e size bytes) : P.elem t = e := by
  simp [Program.elem, hT.und]
theorem SlTy.und' {P : Program} {t e : TypeId} {size bytes : Nat} (hT : SlTy P t e size bytes) : P.underlying t = some (.slice (P.elem t)) := by
  rw [hT.elem]; exact hT.und
theorem SlTy.run_size {P : Program} {t e : TypeId} {size bytes : Nat} (hT : SlTy P t e size bytes) (w : World) : (sizeOf (P.elem t)).run P w = .ok size w := by
  obtain ⟨_, ⟨i, z, hi, _, hsz, _⟩, _⟩ := id hT
  rw [hT.elem]
  simp [sizeOf, typeInfo, hi, hsz]
theorem blkOf_map (A : Option Addr) (k : Nat) : blkOf (A.map (·.add k)) = blkOf A := by
  cases A with
  | none => rfl
  | some a => simp only [blkOf, Option.map_some, Addr.add]; split <;> rfl
/-- 's[l:]', its address a letter -/
theorem cut_lo {P : Program} {t e : TypeId} {size bytes : Nat} (hT : SlTy P t e size bytes) {w : World} {A : Option Addr} {n c : Nat} {xs : List Value} (hr : Rd w A xs) (hx : xs.length = n * size) (hc : n ≤ c)
    (k : IntKind) (lo : Int) (l : Nat) (hlo : lo = (l : Int)) (hl : l ≤ n) :
    ∃ A', (∀ w : World, (Instr.slice t (.slice A n c) (some (.int k lo)) none none).run P w = .ok (.slice A' (n - l) (c - l)) w) ∧ Rd w A' (xs.drop (l * size)) ∧ blkOf A' = blkOf A := by
  subst hlo
  refine ⟨if c = l then A else A.map (·.add (l * size)), fun w => ?_, ?_, ?_⟩
  · rw [run_slice_l w t A n c hT.und' k l (by omega) (by omega), hT.run_size]
    simp only [Result.andThen, sliced, Int.toNat_natCast]
  · by_cases hk : c = l
    · rw [if_pos hk, List.drop_of_length_le (by rw [hx]; exact Nat.mul_le_mul_right _ (by omega))]
      exact Rd.nil w A
    · rw [if_neg hk]
      exact hr.drop _
  · split
    · rfl
    · exact blkOf_map _ _
/-- 's[:h]': the address stays -/
theorem cut_hi {P : Program} {t e : TypeId} {size bytes : Nat} (hT : SlTy P t e size bytes) (A : Option Addr) (n c : Nat) (k : IntKind) (hi : Int) (h : Nat) (hhi : hi = (h : Int)) (hh : h ≤ c) :
    ∀ w : World, (Instr.slice t (.slice A n c) none (some (.int k hi)) none).run P w = .ok (.slice A h c) w := by
  subst hhi
  intro w
  rw [run_slice_h w t A n c hT.und' k h (by omega) (by omega), hT.run_size]
  simp only [Result.andThen, sliced, Int.toNat_natCast, Nat.zero_mul, Nat.sub_zero]
  have e1 : ∀ B : Option Addr, B.map (fun x => x.add 0) = B := fun B => by cases B <;> simp [Addr.add]
  rw [e1, ite_self]
/-- 's[l:h]' -/
theorem cut_lh {P : Program} {t e : TypeId} {size bytes : Nat} (hT : SlTy P t e size bytes) {w : World} {A : Option Addr} {n c : Nat} {xs : List Value} (hr : Rd w A xs) (hx : xs.length = n * size) (hc : n ≤ c)
    (k k' : IntKind) (lo hi : Int) (l h : Nat) (hlo : lo = (l : Int)) (hhi : hi = (h : Int)) (hl : l ≤ h) (hh : h ≤ n) :
    ∃ A', (∀ w : World, (Instr.slice t (.slice A n c) (some (.int k lo)) (some (.int k' hi)) none).run P w = .ok (.slice A' (h - l) (c - l)) w) ∧ Rd w A' ((xs.drop (l * size)).take ((h - l) * size)) ∧ blkOf A' = blkOf A := by
  subst hlo
  subst hhi
  refine ⟨if c = l then A else A.map (·.add (l * size)), fun w => ?_, ?_, ?_⟩
  · rw [run_slice_lh w t A n c hT.und' k k' l h (by omega) (by omega) (by omega), hT.run_size]
    simp only [Result.andThen, sliced, Int.toNat_natCast]
  · by_cases hk : c = l
    · rw [if_pos hk, List.drop_of_length_le (by rw [hx]; exact Nat.mul_le_mul_right _ (by omega))]
      exact (Rd.nil w A).take _
    · rw [if_neg hk]
      exact (hr.drop _).take _
  · split
    · rfl
    · exact blkOf_map _ _

theorem results_tmp4 {fn : Func} {t u v x : Tmp} (h : fn.results = #[.tmp t, .tmp u, .tmp v, .tmp x]) (tmps : Array Value) (P : Program) (w : World) :
    (results fn tmps).run P w = .ok (.tuple #[tmps.getD t undef, tmps.getD u undef, tmps.getD v undef, tmps.getD x undef]) w := by simp [results, h]
theorem quiet_left {P : Program} {f : FuncId} {args : Array Value} {w : World} {n : Nat} {v : Value}
    (h : Calls P f args (w.drewN n) fun e w' => e = .returned v ∧ w.drewN n = w') : Calls P f args (w.drewN n) fun e w' => e = .returned v ∧ ∃ m, w' = w.drewN m :=
  h.mono fun _ _ ⟨he, hm⟩ => ⟨he, n, hm.symm⟩

/-- bytes as cells; numbers as cells -/
def bs (l : List UInt8) : List Value := l.map fun x => Value.int .u8 (x.toNat : Int)
def is (l : List Int) : List Value := l.map (Value.int .i64)
@[simp] theorem bs_length (l : List UInt8) : (bs l).length = l.length := by simp [bs]
@[simp] theorem is_length (l : List Int) : (is l).length = l.length := by simp [is]
theorem bs_append (l m : List UInt8) : bs (l ++ m) = bs l ++ bs m := by simp [bs]
theorem is_append (l m : List Int) : is (l ++ m) = is l ++ is m := by simp [is]
theorem bs_drop (l : List UInt8) (k : Nat) : (bs l).drop k = bs (l.drop k) := by simp [bs]
theorem bs_take (l : List UInt8) (k : Nat) : (bs l).take k = bs (l.take k) := by simp [bs]
theorem is_drop (l : List Int) (k : Nat) : (is l).drop k = is (l.drop k) := by simp [is]
theorem is_take (l : List Int) (k : Nat) : (is l).take k = is (l.take k) := by simp [is]
theorem one_bs (l : List UInt8) : ∀ u ∈ bs l, u.oneCell' = true := by intro u hu; simp [bs] at hu; obtain ⟨x, _, rfl⟩ := hu; rfl
theorem one_is (l : List Int) : ∀ u ∈ is l, u.oneCell' = true := by intro u hu; simp [is] at hu; obtain ⟨x, _, rfl⟩ := hu; rfl

/-- the string of some bytes -/
def str (l : List UInt8) : ByteArray := ⟨l.toArray⟩
theorem str_inj {l m : List UInt8} (h : str l = str m) : l = m := by
  have h1 : (str l).data.toList = (str m).data.toList := by rw [h]
  exact h1
theorem str_toList (l : List UInt8) : (str l).toList = l := ByteArray.toList_mk l
theorem run_bs_string {P : Program} {src e dst : TypeId} (hs : P.underlying src = some (.slice e)) (he : P.underlying e = some (.int .u8)) (hd : P.underlying dst = some .string) {w : World} {A : Option Addr} {n : Nat} (c : Nat) {l : List UInt8} (hn : l.length = n) (hr : Rd w A (bs l)) :
    ∀ q, (convert src dst (.slice A n c)).run P (w.drewN q) = .ok (.string (str l)) (w.drewN q) := by
  intro q
  have hr := hr.drewN q
  generalize w.drewN q = w at *
  cases A with
  | none =>
    have hl : l = [] := by
      cases l with
      | nil => rfl
      | cons x r => obtain ⟨b, off, e, _⟩ := hr (by simp [bs]); cases e
    subst hl
    exact run_convert_bytes_nil w src e hs he n c dst hd
  | some a =>
    by_cases hl : l = []
    · subst hl
      simp at hn
      subst hn
      rw [run_convert_bytes_string w src dst e _ 0 c hs he hd, run_bytesToString w a 0 c [] (by simp [loadCells, loadCellsFrom])]
      rfl
    · obtain ⟨b, off, ha, hc⟩ := hr (by simpa [bs] using hl)
      cases ha
      have := run_convert_bytes_arg (P := P) w src e hs he b off n c (l.map fun x => (x.toNat : Int)) (by simpa using hn) (fun i hi => by
        have hi' : i < l.length := by omega
        have := hc i (.int .u8 (l[i].toNat : Int)) (by simp [bs, hi'])
        rw [this]
        simp [List.getD_eq_getElem?_getD, hi']) dst hd
      rw [this]
      congr 2
      simp [strOfNums, str, Function.comp_def]
theorem run_bs_string0 {P : Program} {src e dst : TypeId} (hs : P.underlying src = some (.slice e)) (he : P.underlying e = some (.int .u8)) (hd : P.underlying dst = some .string) {w : World} {A : Option Addr} {n : Nat} (c : Nat) {l : List UInt8} (hn : l.length = n) (hr : Rd w A (bs l)) :
    (convert src dst (.slice A n c)).run P w = .ok (.string (str l)) w := run_bs_string hs he hd c hn hr 0
/-- the array of a slice is safe: it was there before B, or its cells are of type e -/
def Sfe (B : Nat) (e : TypeId) (w : World) (A : Option Addr) : Prop := ∀ b, blkOf A = some b → b < B ∨ ty w b = some e
/-- S holds no safe block -/
def Away (S : Nat → Prop) (B : Nat) (e : TypeId) (w : World) : Prop := ∀ k, k < w.heap.size → S k → B ≤ k ∧ ty w k ≠ some e
section
variable {S : Nat → Prop} {B : Nat} {w w' : World} {A : Option Addr} {xs : List Value} {e : TypeId}
theorem Sfe.of_ty (h : TyA w e A) (B : Nat) : Sfe B e w A := fun b hb => .inr (h b hb)
theorem Sfe.chg (h : Sfe B e w A) (hc : Chg S w w') : Sfe B e w' A := fun b hb => (h b hb).imp id fun ht => hc.ty_eq ht
theorem Sfe.of_blk {A' : Option Addr} (h : Sfe B e w A) (hb : blkOf A' = blkOf A) : Sfe B e w A' := fun b h' => h b (by rw [← hb]; exact h')
theorem Sfe.low (B : Nat) (e : TypeId) (w : World) {A : Option Addr} (h : ∀ b, blkOf A = some b → b < B) : Sfe B e w A := fun b hb => .inl (h b hb)
theorem Rd.away (h : Rd w A xs) (hs : Sfe B e w A) (hc : Chg S w w') (hS : Away S B e w) : Rd w' A xs :=
  h.chg hc fun b hb hlt hSb => by
    have h1 := hS b hlt hSb
    rcases hs b hb with h2 | h2
    · omega
    · exact h1.2 h2
theorem Rd.awayN (h : Rd w A xs) (hs : xs ≠ [] → Sfe B e w A) (hc : Chg S w w') (hS : Away S B e w) : Rd w' A xs := fun hn => (h.away (hs hn) hc hS) hn
theorem Away.none_ (B : Nat) (e : TypeId) (w : World) : Away (fun _ => False) B e w := fun _ _ h => h.elim
theorem Away.one {g : Nat} {t : TypeId} (hg : ty w g = some t) (hB : B ≤ g) (hn : t ≠ e) : Away (· = g) B e w := fun k _ hk => by
  have hk' : k = g := hk
  subst hk'
  exact ⟨hB, by rw [hg]; exact fun h => hn (Option.some.inj h)⟩
theorem Away.own {base : Nat} {e' : TypeId} {size n : Nat} {v : Value} (h : w.ownsRow base e' size v n xs) (hB : B ≤ base) (hn : e' ≠ e) : Away (fun k => v.ownBlock = some k) B e w := fun k _ hk => by
  have hk' : v.ownBlock = some k := hk
  have h1 := (h.lt k hk').1
  refine ⟨by omega, ?_⟩
  rw [own_ty h hk']
  exact fun h => hn (Option.some.inj h)
end

/-- a slice of slices: each cell is a slice that reads as the list that stands at its place -/
def Rows2 (B : Nat) (e : TypeId) (w : World) (xs : List Value) (ls : List (List Value)) : Prop :=
  xs.length = ls.length ∧ ∀ (i : Nat) (x : Value) (l : List Value), xs[i]? = some x → ls[i]? = some l → ∃ A c, x = .slice A l.length c ∧ l.length ≤ c ∧ Rd w A l ∧ (l ≠ [] → Sfe B e w A)
section
variable {S : Nat → Prop} {B : Nat} {w w' : World} {xs : List Value} {ls : List (List Value)} {e : TypeId}
theorem Rows2.nil (B : Nat) (e : TypeId) (w : World) : Rows2 B e w [] [] := ⟨rfl, fun i x l h => by simp at h⟩
theorem Rows2.away (h : Rows2 B e w xs ls) (hc : Chg S w w') (hS : Away S B e w) : Rows2 B e w' xs ls :=
  ⟨h.1, fun i x l hx hl => by
    obtain ⟨A, c, e1, e2, e3, e4⟩ := h.2 i x l hx hl
    exact ⟨A, c, e1, e2, e3.awayN e4 hc hS, fun hn => (e4 hn).chg hc⟩⟩
theorem Rows2.same (h : Rows2 B e w xs ls) (hc : Same w w') : Rows2 B e w' xs ls := h.away hc (Away.none_ B e w)
theorem Rows2.pushN (h : Rows2 B e w xs ls) {A : Option Addr} {l : List Value} {c n : Nat} (hn : n = l.length) (hc : n ≤ c) (hr : Rd w A l) (hs : l ≠ [] → Sfe B e w A) : Rows2 B e w (xs ++ [.slice A n c]) (ls ++ [l]) := by
  subst hn
  refine ⟨by simp [h.1], fun i x l' hx hl => ?_⟩
  rw [List.getElem?_append] at hx hl
  by_cases hi : i < xs.length
  · rw [if_pos hi] at hx
    rw [if_pos (by rw [← h.1]; exact hi)] at hl
    exact h.2 i x l' hx hl
  · rw [if_neg hi] at hx
    rw [if_neg (by rw [← h.1]; exact hi)] at hl
    have e0 : i - xs.length = 0 := by
      rcases Nat.eq_zero_or_pos (i - xs.length) with h0 | h0
      · exact h0
      · rw [List.getElem?_eq_none (by simp; omega)] at hx; cases hx
    rw [e0] at hx
    rw [← h.1, e0] at hl
    simp at hx hl
    subst hx; subst hl
    exact ⟨A, c, rfl, hc, hr, hs⟩
theorem Rows2.push (h : Rows2 B e w xs ls) {A : Option Addr} {l : List Value} {c n : Nat} (hn : n = l.length) (hc : n ≤ c) (hr : Rd w A l) (hs : Sfe B e w A) : Rows2 B e w (xs ++ [.slice A n c]) (ls ++ [l]) :=
  h.pushN hn hc hr fun _ => hs
theorem Rows2.append {ys : List Value} {ms : List (List Value)} (h : Rows2 B e w xs ls) (h' : Rows2 B e w ys ms) : Rows2 B e w (xs ++ ys) (ls ++ ms) := by
  refine ⟨by simp [h.1, h'.1], fun i x l' hx hl => ?_⟩
  rw [List.getElem?_append] at hx hl
  by_cases hi : i < xs.length
  · rw [if_pos hi] at hx
    rw [if_pos (by rw [← h.1]; exact hi)] at hl
    exact h.2 i x l' hx hl
  · rw [if_neg hi] at hx
    rw [if_neg (by rw [← h.1]; exact hi)] at hl
    rw [← h.1] at hl
    exact h'.2 _ x l' hx hl
theorem Rows2.at_ (h : Rows2 B e w xs ls) {i : Nat} (hi : i < xs.length) : ∃ A c l, xs[i]? = some (.slice A l.length c) ∧ ls[i]? = some l ∧ l.length ≤ c ∧ Rd w A l ∧ (l ≠ [] → Sfe B e w A) := by
  have hi' : i < ls.length := by rw [← h.1]; exact hi
  obtain ⟨A, c, e1, e2, e3, e4⟩ := h.2 i xs[i] ls[i] (List.getElem?_eq_getElem hi) (List.getElem?_eq_getElem hi')
  exact ⟨A, c, ls[i], by rw [List.getElem?_eq_getElem hi, e1], List.getElem?_eq_getElem hi', e2, e3, e4⟩
theorem Rows2.more {B' : Nat} (h : Rows2 B e w xs ls) (hB : B ≤ B') : Rows2 B' e w xs ls :=
  ⟨h.1, fun i x l hx hl => by
    obtain ⟨A, c, e1, e2, e3, e4⟩ := h.2 i x l hx hl
    exact ⟨A, c, e1, e2, e3, fun hn b hb => (e4 hn b hb).imp (fun h => by omega) id⟩⟩
/-- typed alone: whatever B -/
def Rows2T (e : TypeId) (w : World) (xs : List Value) (ls : List (List Value)) : Prop := Rows2 0 e w xs ls
theorem Rows2.one (h : Rows2 B e w xs ls) : ∀ u ∈ xs, u.oneCell' = true := by
  intro u hu
  obtain ⟨i, hi, rfl⟩ := List.getElem_of_mem hu
  obtain ⟨A, c, l, h1, _⟩ := h.at_ hi
  rw [List.getElem?_eq_getElem hi] at h1
  rw [Option.some.inj h1]
  rfl
end
theorem one_slice (A : Option Addr) (n c : Nat) : ∀ u ∈ [Value.slice A n c], u.oneCell' = true := by intro u hu; simp at hu; subst hu; rfl

/-- a literal's row, marked or not -/
theorem rd_lit (w : World) (cs : Array Value) (t : TypeId) (fr : Nat × Nat) (xs : List Value) (hx : xs = cs.toList) : Rd (w.alloc (.cells cs t fr)) (some ⟨w.heap.size, 0, none⟩) xs := fun _ =>
  ⟨_, 0, rfl, fun i y hy => by
    subst hx
    have h : (w.alloc (.cells cs t fr)).heap[w.heap.size]? = some (.cells cs t fr) := heap_alloc_new w _
    rw [Nat.zero_add, cell_of_row _ _ _ _ _ _ h]
    simpa using hy⟩
theorem tyA_lit (w : World) (cs : Array Value) (t : TypeId) (fr : Nat × Nat) : TyA (w.alloc (.cells cs t fr)) t (some ⟨w.heap.size, 0, none⟩) := fun b hb => by
  simp [blkOf] at hb
  subst hb
  exact ty_cells (heap_alloc_new w _)
/-- bytes that came in, as a reading tells them -/
theorem bytes_in {w : World} {x : Addr} {zs : List Int} {n : Nat} (hn : n ≤ zs.length) (hc : ∀ i, i < zs.length → w.cell? (x.add i) = some (.int .u8 (zs.getD i 0))) (hw : ∀ z ∈ zs, (Lit.int .u8 z).wf = true) :
    ∃ b : List UInt8, b.length = n ∧ Rd w (some x) (bs b) ∧ (b ≠ [] → ∀ k, blkOf (some x) = some k → k < w.heap.size) := by
  refine ⟨(zs.take n).map fun z => UInt8.ofNat z.toNat, by simp; omega, fun hne => ?_, fun hne k hk => ?_⟩
  all_goals
    have h0 : 0 < n := by
      rcases Nat.eq_zero_or_pos n with h | h
      · subst h; simp [bs] at hne
      · exact h
    have hz := hc 0 (by omega)
    have hx : x.add 0 = x := by simp [Addr.add]
    rw [hx] at hz
  · obtain ⟨xb, xo, xs⟩ := x
    have hs : xs = none := by
      cases xs with
      | none => rfl
      | some s => simp [World.cell?] at hz; split at hz <;> simp_all
    subst hs
    refine ⟨xb, xo, rfl, fun i y hy => ?_⟩
    have hi : i < n := by
      rcases Nat.lt_or_ge i n with h | h
      · exact h
      · rw [List.getElem?_eq_none (by simp [bs]; omega)] at hy; cases hy
    have hil : i < zs.length := by omega
    have h1 := hc i hil
    rw [add_lit] at h1
    rw [h1, ← hy]
    have hwf := hw zs[i] (List.getElem_mem hil)
    have hb : 0 ≤ zs[i] ∧ zs[i] ≤ 255 := by simpa [Lit.wf, IntKind.min, IntKind.max, IntKind.signed, IntKind.bits] using hwf
    have e : (UInt8.ofNat zs[i].toNat).toNat = zs[i].toNat := by
      rw [UInt8.toNat_ofNat']
      exact Nat.mod_eq_of_lt (by omega)
    simp [bs, List.getD_eq_getElem?_getD, hil, hi, e, Int.toNat_of_nonneg hb.1]
  · have := World.block_lt_of_cell? w x hz
    simp [blkOf] at hk
    omega
/-- append of one value: it is laid in a block of its own first -/
theorem rd_new (w : World) (x : Value) (t : TypeId) : Rd (w.alloc (.cells #[x] t)) (some ⟨w.heap.size, 0, none⟩) [x] := fun _ =>
  ⟨_, 0, rfl, fun i y hy => by
    match i, hy with
    | 0, hy =>
      simp at hy
      subst hy
      simp⟩
end Go.Al
