/-
  A region that draws its order and whose last operation writes what it has read: one condition on the world holds until that last operation. (After the kit's own 'OrdersHeld', with the last operation left out.) No program is named here. No conditions.
  The document's set: Do. Condition: at most 65535 of each.
-/
import Derived.Test.YtlimpepdelpogaaGreatDoorLib
import Derived.StillTail
import Derived.Test.YtlimpepdelpogaaGreatDoorTcB
import Derived.Test.YtlimpepdelpogaaGreatDoorTbE
/-! Hz -/
namespace Go.Al
open Go.RowKit
set_option linter.unusedVariables false
section
variable {P : Program} {ops : Array Oper} {Q : Exit → Act → World → Prop} {md : Region.Mode} {S : World → Prop} {z : Nat}
/-- whatever order is picked from here on, and S holds behind every operation but z -/
def wpAnyZ (P : Program) (md : Region.Mode) (ops : Array Oper) (Q : Exit → Act → World → Prop) (S : World → Prop) (z : Nat) : Nat → Array Bool → Act → World → Prop
  | 0, listed, a, w => Region.ready md ops listed = [] ∧ Q .normal a w
  | fuel + 1, listed, a, w =>
    (Region.ready md ops listed = [] → Q .normal a w) ∧
    ∀ i ∈ Region.ready md ops listed, wpOp P ops Q i (fun a' w' => (i ≠ z → S w') ∧ wpAnyZ P md ops Q S z fuel (listed.setIfInBounds i true) a' w') a w
theorem wpAny_of_heldZ : ∀ (fuel : Nat) (listed : Array Bool) (a : Act) (w : World), wpAnyZ P md ops Q S z fuel listed a w → wpAny P md ops Q fuel listed a w
  | 0, _, _, _, h => h
  | fuel + 1, _, _, _, h => ⟨h.1, fun i hi => wpOp_mono (fun a' w' h' => wpAny_of_heldZ fuel _ a' w' h'.2) (h.2 i hi)⟩
theorem wpAnyZ_first {i : Nat} {oi : Oper} {v : Value} (hi : ops[i]? = some oi) (hsel : ∀ (j : Nat) (o : Oper) cs b, ops[j]? = some o → o.op ≠ .select cs b) (hz : Region.waitsFor md ops z i = true)
    (hQ : ∀ c a w, Q (.panic c) (a.put oi.dst v) w → Q (.panic c) a w) :
    ∀ (fuel : Nat) (listed : Array Bool) (a : Act) (w : World),
      (∀ j oj, ops[j]? = some oj → j ≠ i → listed.getD j true = false → (∀ e ∈ oj.after, Region.binds md e = true → e.on ≠ i) → oi.apart ops oj = true) →
      i ∈ Region.ready md ops listed → YieldsIf P ops S oi v a → S w →
      wpAnyZ P md ops Q S z fuel (listed.setIfInBounds i true) (a.put oi.dst v) w → wpAnyZ P md ops Q S z (fuel + 1) listed a w := by
  intro fuel
  induction fuel with
  | zero =>
    intro listed a w _ hr hy hS H
    refine ⟨fun h => (by rw [h] at hr; cases hr), fun j hj => ?_⟩
    by_cases hji : j = i
    · subst hji; exact hy.wpOp hi hS ⟨fun _ => hS, H⟩
    · have := ready_mono hj hji
      rw [H.1] at this
      cases this
  | succ fuel ih =>
    intro listed a w hfree hr hy hS H
    refine ⟨fun h => (by rw [h] at hr; cases hr), fun j hj => ?_⟩
    by_cases hji : j = i
    · subst hji; exact hy.wpOp hi hS ⟨fun _ => hS, H⟩
    · have h1 := H.2 j (ready_mono hj hji)
      obtain ⟨hjun, oj, hoj, hall⟩ := mem_ready.1 hj
      have hnot : ∀ e ∈ oj.after, Region.binds md e = true → e.on ≠ i := fun e he hb heq => by
        have h1 := hall e he hb
        have h0 := (mem_ready.1 hr).1
        rw [heq] at h1
        rcases Nat.lt_or_ge i listed.size with h' | h'
        · simp [h'] at h0 h1; rw [h0] at h1; cases h1
        · simp [Array.getElem?_eq_none h'] at h1
      have hjz : j ≠ z := fun e => by
        subst e
        obtain ⟨o', ho', e, he, hb, hon⟩ := Region.waitsFor_spec hz
        have : o' = oj := Option.some.inj (ho'.symm.trans hoj)
        subst this
        exact hnot e he hb hon
      have h2 := wpOp_putIf hoj (hfree j oj hoj hji hjun hnot) (fun cs b => hsel i oi cs b hi) (fun cs b => hsel j oj cs b hoj) hQ hy h1
      have hfree' : ∀ k ok, ops[k]? = some ok → k ≠ i → (listed.setIfInBounds j true).getD k true = false →
          (∀ e ∈ ok.after, Region.binds md e = true → e.on ≠ i) → oi.apart ops ok = true := fun k ok hk hki hun hno => by
        refine hfree k ok hk hki ?_ hno
        by_cases hjk : j = k
        · subst hjk; exact hjun
        · rw [getD_set_ne true hjk] at hun; exact hun
      refine wpOp_mono (fun a' w' h3 => ⟨h3.2.1, ih (listed.setIfInBounds j true) a' w' hfree' (ready_mono hr (Ne.symm hji)) h3.1 (h3.2.1 hjz) ?_⟩) h2
      rw [Array.setIfInBounds_comm _ _ hji]
      exact h3.2.2
/-- take number i first -/
theorem wpAnyZ_take {i : Nat} {oi : Oper} {v : Value} {fuel : Nat} {listed : Array Bool} {a : Act} {w : World} (hi : ops[i]? = some oi)
    (hs : Region.noSelect ops = true) (hz : Region.waitsFor md ops z i = true) (hf : Region.free md ops listed i = true) (hr : (Region.ready md ops listed).contains i = true)
    (hQ : ∀ c a w, Q (.panic c) (a.put oi.dst v) w → Q (.panic c) a w) (hy : YieldsIf P ops S oi v a) (hS : S w)
    (h : wpAnyZ P md ops Q S z fuel (listed.setIfInBounds i true) (a.put oi.dst v) w) : wpAnyZ P md ops Q S z (fuel + 1) listed a w :=
  wpAnyZ_first hi (Region.noSelect_spec hs) hz hQ fuel listed a w (Region.free_spec hi hf) (by simpa using hr) hy hS h
/-- what comes behind an operation -/
def ThenZ (P : Program) (md : Region.Mode) (ops : Array Oper) (Q : Exit → Act → World → Prop) (S : World → Prop) (z fuel i : Nat) (listed : Array Bool) (K' : Act → World → Prop) : Prop :=
  ∀ a w, (i ≠ z → S w) → wpAnyZ P md ops Q S z fuel (listed.setIfInBounds i true) a w → K' a w
theorem wpOpZ {i fuel : Nat} {o : Oper} {listed : Array Bool} {a : Act} {w : World} (ho : ops[i]? = some o)
    (h : ∀ K' : Act → World → Prop, ThenZ P md ops Q S z fuel i listed K' → if Region.wanted o (yielded ops a.tmps) = true then Oper.wp P o a w K' Q else K' (a.put o.dst undef) w) :
    wpOp P ops Q i (fun a' w' => (i ≠ z → S w') ∧ wpAnyZ P md ops Q S z fuel (listed.setIfInBounds i true) a' w') a w :=
  wpOp_step ho (fun K' hK => h K' fun a w hS hW => hK a w ⟨hS, hW⟩)
/-- one alone may come up -/
theorem wpAnyZ_one {i fuel : Nat} {o : Oper} {listed : Array Bool} {a : Act} {w : World} (hr : Region.ready md ops listed = [i]) (ho : ops[i]? = some o)
    (h : ∀ K' : Act → World → Prop, ThenZ P md ops Q S z fuel i listed K' → if Region.wanted o (yielded ops a.tmps) = true then Oper.wp P o a w K' Q else K' (a.put o.dst undef) w) :
    wpAnyZ P md ops Q S z (fuel + 1) listed a w :=
  ⟨fun h0 => (by rw [hr] at h0; cases h0), fun j hj => by
    rw [hr] at hj
    have e : j = i := List.mem_singleton.1 hj
    subst e
    exact wpOpZ ho h⟩
/-- one of two may come up -/
theorem wpAnyZ_two {i j fuel : Nat} {o o' : Oper} {listed : Array Bool} {a : Act} {w : World} (hr : Region.ready md ops listed = [i, j]) (ho : ops[i]? = some o) (ho' : ops[j]? = some o')
    (h : ∀ K' : Act → World → Prop, ThenZ P md ops Q S z fuel i listed K' → if Region.wanted o (yielded ops a.tmps) = true then Oper.wp P o a w K' Q else K' (a.put o.dst undef) w)
    (h' : ∀ K' : Act → World → Prop, ThenZ P md ops Q S z fuel j listed K' → if Region.wanted o' (yielded ops a.tmps) = true then Oper.wp P o' a w K' Q else K' (a.put o'.dst undef) w) :
    wpAnyZ P md ops Q S z (fuel + 1) listed a w :=
  ⟨fun h0 => (by rw [hr] at h0; cases h0), fun k hk => by
    rw [hr] at hk
    rcases List.mem_cons.1 hk with rfl | hk
    · exact wpOpZ ho h
    · have e : k = j := List.mem_singleton.1 hk
      subst e
      exact wpOpZ ho' h'⟩
theorem wpAnyZ_done {listed : Array Bool} {a : Act} {w : World} (hr : Region.ready md ops listed = []) (h : Q .normal a w) : ∀ fuel, wpAnyZ P md ops Q S z fuel listed a w
  | 0 => ⟨hr, h⟩
  | _ + 1 => ⟨fun _ => h, by rw [hr]; simp⟩
/-- the beginning -/
theorem wp_region_heldZ {id : Nat} {a : Act} {w : World} (S : World → Prop) (z : Nat) (hm : P.follows .mixedOrders = true) 
    (h : wpAnyZ P .any ops (NoPanic Q) S z ops.size (Array.replicate ops.size false) a w.drew) : (Code.region id ops true).wp P Q a w :=
  wp_region_noPanic (wp_region_any hm (wpAny_of_heldZ _ _ _ _ h))
end
end Go.Al
/-! TcC -/
namespace Go.Proofs.YtlimpepdelpogaaGreatDoor
open Go.RowKit Go.Al
set_option linter.unusedVariables false
set_option maxHeartbeats 8000000
set_option maxRecDepth 100000
theorem slP : SlTy Tryz.prog 55 25 3 24 := .of (z := agg3 (0, 0, 0)) Tryz.underlying55 (by kernel_rfl) rfl (by decide)
theorem slS : SlTy Tryz.prog 57 27 3 24 := .of (z := agg3 (0, 0, 0)) Tryz.underlying57 (by kernel_rfl) rfl (by decide)
theorem rd_new3 (w : World) (x y z : Value) (t : TypeId) : Rd (w.alloc (.cells #[x, y, z] t)) (some ⟨w.heap.size, 0, none⟩) [x, y, z] := fun _ =>
  ⟨_, 0, rfl, fun i v hv => by
    rw [(Blk.new w t #[x, y, z]).cell]
    simpa using hv⟩
theorem doR_bad {g cp cs : Nat} {AP AS : Option Addr} {most : Int} {p s : List P3} (c : Cg) (w : World) (h : SetR w g AP cp AS cs most p s) (hp : p.length ≤ 65535) (hs : s.length ≤ 65535) (hm : ¬ mayE p s most c = 0) :
    Calls Tryz.prog 34 #[.pointer (some ⟨g, 0, none⟩), cgV c] w fun e w' => e = .returned (.tuple #[cgV ⟨0, z3, z3⟩, .int .i64 (mayE p s most c)]) ∧ Same w w' := by
  have HM := hide (fun w' (hs' : Same w w') => mayR_any c w' (h.same hs') (by omega) (by omega))
  generalize mayE p s most c = j at *
  have hs : Same w ((w.alloc (.cells (bx c) 29)).alloc (.cells (bx ⟨0, z3, z3⟩) 29)) := ((Chg.refl _ w).alloc _).alloc _
  have hb := Blk.new (w.alloc (.cells (bx c) 29)) 29 (bx ⟨0, z3, z3⟩)
  rw [show (w.alloc (.cells (bx c) 29)).heap.size = w.heap.size + 1 by simp] at hb
  have Hs := hide hs
  have Hb := hide hb
  clear hs h hb
  obtain ⟨k, ⟨pi, px, py⟩, ⟨si, lo, hi⟩⟩ := c
  unfold cgV bx z3 at *
  go_enter Tryz.func34, Tryz.ntmps34
  go_wp2_with (go_at_call 58; refine (HM.out _ Hs.out).mono ?_; rintro e w1 ⟨rfl, hs1⟩; have hk1 := (Hb.out.same hs1).cell; have hz1 := (Hb.out.same hs1).frozen; have bb1 := (Hb.out.same hs1).lt; have Hs1 := hide hs1; clear hs1)
  refine bodyPost_ret (results_cell2 rfl rfl (Blk.put7 (Hb.out.same Hs1.out) _ _ _ _ _ _ _) Tryz.underlying29 rfl (by kernel_rfl)) rfl ⟨rfl, Chg.put7 (Hs.out.trans Hs1.out) (.inr (by omega)) _ _ _ _ _ _ _⟩
theorem doR_endP {w w7 : World} {g cp cs b base m c7 : Nat} {AP AS A7 : Option Addr} {most : Int} {p s l : List P3} {e : TypeId} {b0 b1 b2 b3 b4 b5 b6 : Value} (H : SetR w g AP cp AS cs most p s) (hs7 : Same w w7) (hb7 : Blk w7 b 29 #[b0, b1, b2, b3, b4, b5, b6]) (hbw : w.heap.size ≤ b)
    (hown : w7.ownsRow base e 3 (.slice A7 m c7) m (is3 l)) (hbase : b < base) (hl : l.length = m) (u0 u1 u2 u3 u4 u5 u6 : Value) :
    Blk (((((((((w7.setCell ⟨g, 0, none⟩ (.slice A7 m c7)).setCell ⟨b, 0, none⟩ u0).setCell ⟨b, 1, none⟩ u1).setCell ⟨b, 2, none⟩ u2).setCell ⟨b, 3, none⟩ u3).setCell ⟨b, 4, none⟩ u4).setCell ⟨b, 5, none⟩ u5).setCell ⟨b, 6, none⟩ u6)) b 29 #[u0, u1, u2, u3, u4, u5, u6] ∧
    SetR (((((((((w7.setCell ⟨g, 0, none⟩ (.slice A7 m c7)).setCell ⟨b, 0, none⟩ u0).setCell ⟨b, 1, none⟩ u1).setCell ⟨b, 2, none⟩ u2).setCell ⟨b, 3, none⟩ u3).setCell ⟨b, 4, none⟩ u4).setCell ⟨b, 5, none⟩ u5).setCell ⟨b, 6, none⟩ u6)) g A7 c7 AS cs most l s ∧
    Chg (fun k => k = g) w (((((((((w7.setCell ⟨g, 0, none⟩ (.slice A7 m c7)).setCell ⟨b, 0, none⟩ u0).setCell ⟨b, 1, none⟩ u1).setCell ⟨b, 2, none⟩ u2).setCell ⟨b, 3, none⟩ u3).setCell ⟨b, 4, none⟩ u4).setCell ⟨b, 5, none⟩ u5).setCell ⟨b, 6, none⟩ u6)) ∧
    ∀ k, blkOf A7 = some k → w.heap.size ≤ k := by
  have hg := H.blk.lt
  have hge : ∀ k, blkOf A7 = some k → base ≤ k := fun k hk => (hown.lt k (by rw [ownBlock_slice]; exact hk)).1
  have hA7 : blkOf A7 ≠ some g := fun e => by have := hge g e; omega
  have c1 : Chg (fun k => k = g) w7 (w7.setCell ⟨g, 0, none⟩ (.slice A7 m c7)) := Chg.setCell (S := fun k => k = g) (Chg.refl _ w7) (p := ⟨g, 0, none⟩) (.inl rfl) _
  have c2 := Chg.put7 (S := fun k => k = g ∨ k = b) (c1.mono fun _ _ h => .inl h) (.inl (.inr rfl)) u0 u1 u2 u3 u4 u5 u6
  have c3 := Chg.put7 (g := b) (Chg.of_same hs7 c1) (.inr hbw) u0 u1 u2 u3 u4 u5 u6
  subst hl
  refine ⟨Blk.put7 (hb7.far (p := ⟨g, 0, none⟩) (by show b ≠ g; omega) _) _ _ _ _ _ _ _, ⟨?_, (Row3.own hown rfl).chg c2 fun k hk h => ?_, (H.rs.same hs7).chg c2 fun k hk h => ?_, hA7, H.ns⟩, c3, fun k hk => ?_⟩
  · have := (H.blk.same hs7).set_ 0 (.slice A7 l.length c7)
    have h3 : Blk (w7.setCell ⟨g, 0, none⟩ (.slice A7 l.length c7)) g 67 #[.slice A7 l.length c7, .slice AS s.length cs, .int .i64 most] := by simpa using this
    exact put_far h3 (by omega) _ _ _ _ _ _ _
  · have := hge k hk
    rcases h with h | h
    · exact hA7 (by rw [hk, h])
    · omega
  · have := H.rs.2.2.2.2 k hk
    rcases h with h | h
    · exact H.ns (by rw [hk, h])
    · omega
  · have := hge k hk
    omega
theorem doR_endS {w w7 : World} {g cp cs b base m c7 : Nat} {AP AS A7 : Option Addr} {most : Int} {p s l : List P3} {e : TypeId} {b0 b1 b2 b3 b4 b5 b6 : Value} (H : SetR w g AP cp AS cs most p s) (hs7 : Same w w7) (hb7 : Blk w7 b 29 #[b0, b1, b2, b3, b4, b5, b6]) (hbw : w.heap.size ≤ b)
    (hown : w7.ownsRow base e 3 (.slice A7 m c7) m (is3 l)) (hbase : b < base) (hl : l.length = m) (u0 u1 u2 u3 u4 u5 u6 : Value) :
    Blk (((((((((w7.setCell ⟨g, 1, none⟩ (.slice A7 m c7)).setCell ⟨b, 0, none⟩ u0).setCell ⟨b, 1, none⟩ u1).setCell ⟨b, 2, none⟩ u2).setCell ⟨b, 3, none⟩ u3).setCell ⟨b, 4, none⟩ u4).setCell ⟨b, 5, none⟩ u5).setCell ⟨b, 6, none⟩ u6)) b 29 #[u0, u1, u2, u3, u4, u5, u6] ∧
    SetR (((((((((w7.setCell ⟨g, 1, none⟩ (.slice A7 m c7)).setCell ⟨b, 0, none⟩ u0).setCell ⟨b, 1, none⟩ u1).setCell ⟨b, 2, none⟩ u2).setCell ⟨b, 3, none⟩ u3).setCell ⟨b, 4, none⟩ u4).setCell ⟨b, 5, none⟩ u5).setCell ⟨b, 6, none⟩ u6)) g AP cp A7 c7 most p l ∧
    Chg (fun k => k = g) w (((((((((w7.setCell ⟨g, 1, none⟩ (.slice A7 m c7)).setCell ⟨b, 0, none⟩ u0).setCell ⟨b, 1, none⟩ u1).setCell ⟨b, 2, none⟩ u2).setCell ⟨b, 3, none⟩ u3).setCell ⟨b, 4, none⟩ u4).setCell ⟨b, 5, none⟩ u5).setCell ⟨b, 6, none⟩ u6)) ∧
    ∀ k, blkOf A7 = some k → w.heap.size ≤ k := by
  have hg := H.blk.lt
  have hge : ∀ k, blkOf A7 = some k → base ≤ k := fun k hk => (hown.lt k (by rw [ownBlock_slice]; exact hk)).1
  have hA7 : blkOf A7 ≠ some g := fun e => by have := hge g e; omega
  have c1 : Chg (fun k => k = g) w7 (w7.setCell ⟨g, 1, none⟩ (.slice A7 m c7)) := Chg.setCell (S := fun k => k = g) (Chg.refl _ w7) (p := ⟨g, 1, none⟩) (.inl rfl) _
  have c2 := Chg.put7 (S := fun k => k = g ∨ k = b) (c1.mono fun _ _ h => .inl h) (.inl (.inr rfl)) u0 u1 u2 u3 u4 u5 u6
  have c3 := Chg.put7 (g := b) (Chg.of_same hs7 c1) (.inr hbw) u0 u1 u2 u3 u4 u5 u6
  subst hl
  refine ⟨Blk.put7 (hb7.far (p := ⟨g, 1, none⟩) (by show b ≠ g; omega) _) _ _ _ _ _ _ _, ⟨?_, (H.rp.same hs7).chg c2 fun k hk h => ?_, (Row3.own hown rfl).chg c2 fun k hk h => ?_, H.np, hA7⟩, c3, fun k hk => ?_⟩
  · have := (H.blk.same hs7).set_ 1 (.slice A7 l.length c7)
    have h3 : Blk (w7.setCell ⟨g, 1, none⟩ (.slice A7 l.length c7)) g 67 #[.slice AP p.length cp, .slice A7 l.length c7, .int .i64 most] := by simpa using this
    exact put_far h3 (by omega) _ _ _ _ _ _ _
  · have := H.rp.2.2.2.2 k hk
    rcases h with h | h
    · exact H.np (by rw [hk, h])
    · omega
  · have := hge k hk
    rcases h with h | h
    · exact hA7 (by rw [hk, h])
    · omega
  · have := hge k hk
    omega
/-- what is left when the points, or the intervals, have become others -/
def DoneP (w w' : World) (g : Nat) (AS : Option Addr) (cs : Nat) (most : Int) (l s : List P3) : Prop := ∃ A' c', SetR w' g A' c' AS cs most l s ∧ Chg (fun k => k = g) w w' ∧ ∀ b, blkOf A' = some b → w.heap.size ≤ b
def DoneS (w w' : World) (g : Nat) (AP : Option Addr) (cp : Nat) (most : Int) (p l : List P3) : Prop := ∃ A' c', SetR w' g AP cp A' c' most p l ∧ Chg (fun k => k = g) w w' ∧ ∀ b, blkOf A' = some b → w.heap.size ≤ b
section
attribute [local go_sem ↓] Go.wp_at_zero Go.wp_at_succ
theorem doR_1 {g cp cs : Nat} {AP AS : Option Addr} {most : Int} {p s : List P3} (q x : P3) (w : World) (h : SetR w g AP cp AS cs most p s) (hp : p.length ≤ 65535) (hs : s.length ≤ 65535) (hm : mayE p s most ⟨1, q, x⟩ = 0) :
    Calls Tryz.prog 34 #[.pointer (some ⟨g, 0, none⟩), cgV ⟨1, q, x⟩] w fun e w' => e = .returned (.tuple #[cgV ⟨2, q, z3⟩, .int .i64 0]) ∧ DoneP w w' g AS cs most (put3 q p) s := by
  obtain ⟨_, hadd, hdrop, _⟩ := may_zero hm
  have HM := hide (fun w' (hs' : Same w w') => mayR_any ⟨1, q, x⟩ w' (h.same hs') (by omega) (by omega))
  rw [hm] at HM
  have hsm : Same w ((w.alloc (.cells (bx ⟨1, q, x⟩) 29)).alloc (.cells (bx ⟨0, z3, z3⟩) 29)) := ((Chg.refl _ w).alloc _).alloc _
  have hc := (Blk.new w 29 (bx ⟨1, q, x⟩)).alloc (.cells (bx ⟨0, z3, z3⟩) 29)
  have hb := Blk.new (w.alloc (.cells (bx ⟨1, q, x⟩) 29)) 29 (bx ⟨0, z3, z3⟩)
  rw [show (w.alloc (.cells (bx ⟨1, q, x⟩) 29)).heap.size = w.heap.size + 1 by simp] at hb
  have H := hide h
  have Hs := hide hsm
  have Hb := hide hb
  have Hc := hide hc
  clear hsm h hb hc hm
  have hno : hasK p q.1 = false := (hadd rfl).1
  obtain ⟨pi, px, py⟩ := q
  obtain ⟨si, lo, hi⟩ := x
  have Hput : Hid (put3 (pi, px, py) p = p.take (low3 pi p) ++ (pi, px, py) :: p.drop (low3 pi p)) := hide (by rw [put3, del3_none hno]; exact ins3_low hno)
  have Hlow : Hid (∀ i, i ≤ p.length → (∀ j (hj : j < p.length), j < i → p[j].1 < pi) → (∀ h : i < p.length, ¬ p[i].1 < pi) → low3 pi p = i) := hide fun i h1 h2 h3 => low3_is h1 (fun j hj => h2 j (by omega) hj) h3
  have Hl3 := hide (low3_le pi p)
  have HR := hide H.out.rp
  obtain ⟨n, hnn⟩ : ∃ n, n = p.length := ⟨_, rfl⟩
  have Hn := hide hnn
  have hn6 : n ≤ 65535 := by omega
  have Hkt : Hid (∀ w', Same w w' → w'.cell? ⟨g, 0, none⟩ = some (.slice AP n cp)) := hide fun w' h => by have := (H.out.same h).blk.cell 0; rw [hnn]; exact this
  clear hadd hdrop hno hnn hp hs
  unfold cgV bx z3 at *
  go_enter Tryz.func34, Tryz.ntmps34
  go_wp2_with (go_at_call 58; refine (HM.out _ Hs.out).mono ?_; rintro e w1 ⟨rfl, hs1⟩; have hk1 := (Hc.out.same hs1).cell; have bb1 := (Hb.out.same hs1).lt; have Hs1 := hide (Same.trans Hs.out hs1); have Hc1 := hide (Hc.out.same hs1); have Hb1 := hide (Hb.out.same hs1); clear hs1)
  have Hk1 : Hid (∀ w', Same w1 w' → Blk w' w.heap.size 29 #[.int .i64 1, .int .i64 pi, .int .i64 px, .int .i64 py, .int .i64 si, .int .i64 lo, .int .i64 hi]) := hide fun w' h => Hc1.out.same h
  go_loopg [7] n (fun m vi wr => ∃ i : Nat, i ≤ n ∧ m = n - i ∧ vi = .int .i64 i ∧ Same w1 wr ∧ ∀ j (hj : j < p.length), j < i → p[j].1 < pi)
  case atStart => exact ⟨0, Nat.zero_le _, rfl, rfl, Chg.refl _ _, fun j _ h => by omega⟩
  case round =>
    obtain ⟨i, hi', hkk, rfl, hsm, hbel⟩ := hrel
    have Hk := hide hkk
    have Hbel := hide hbel
    have Hsm := hide hsm
    have hkt := Hkt.out _ (Same.trans Hs1.out hsm)
    have hkc := (Hk1.out _ hsm).cell
    clear hkk hbel hk1
    by_cases hstep : ∃ h : i < p.length, p[i].1 < pi
    · obtain ⟨hil, hx⟩ := hstep
      have hlt : i < n := by rw [Hn.out]; exact hil
      obtain ⟨b, off, rfl, hbl, hce, _, _⟩ := (HR.out.same (Same.trans Hs1.out hsm)).at_ hil
      have Hb2 : Hid (∀ j (hj : j < p.length), j < i + 1 → p[j].1 < pi) := hide fun j hj hj1 => by
        rcases Nat.lt_or_ge j i with h | h
        · exact Hbel.out j hj h
        · have : j = i := by omega
          subst this
          exact hx
      generalize p[i].1 = e0 at *
      clear hsm
      go_wp2_with fail
      go_quiet (fail)
      go_wp2_with fail
      go_roundg (n - (i + 1))
      case measure => have := Hk.out; omega
      case rel => exact ⟨i + 1, by omega, rfl, by go_num, Same.trans Hsm.out (Same.of_drewN _ _), Hb2.out⟩
    · have hat := Hlow.out i (by rw [← Hn.out]; exact hi') Hbel.out (fun h => by have hq : ¬ p[i].1 < pi := fun hx => hstep ⟨h, hx⟩; omega)
      have Hat := hide hat
      have Hstep := hide hstep
      clear hat hstep
      by_cases hlt : i < n
      · have hil : i < p.length := by rw [← Hn.out]; exact hlt
        obtain ⟨b, off, rfl, hbl, hce, _, _⟩ := (HR.out.same (Same.trans Hs1.out hsm)).at_ hil
        have hx : ¬ p[i].1 < pi := fun h => Hstep.out ⟨hil, h⟩
        generalize p[i].1 = e0 at *
        go_wp2_with fail
        go_quiet (fail)
        have hsW : Same w1 (wr.drewN nq) := Same.trans Hsm.out (Same.of_drewN _ _)
        generalize wr.drewN nq = W at *
        have HsW := hide hsW
        have HsW0 := hide (Same.trans Hs1.out hsW)
        have hbW := Hb1.out.same hsW
        have HbW := hide hbW
        have HcW := hide (Hc1.out.same hsW)
        have HK : Hid (∀ w', Same W w' → w'.cell? ⟨g, 0, none⟩ = some (.slice (some ⟨b, off, none⟩) n cp) ∧ w'.cell? ⟨w.heap.size, 1, none⟩ = some (.int .i64 pi) ∧ w'.cell? ⟨w.heap.size, 2, none⟩ = some (.int .i64 px) ∧ w'.cell? ⟨w.heap.size, 3, none⟩ = some (.int .i64 py)) := hide fun w' h => have hk := ((HcW.out).same h).cell; ⟨Hkt.out _ (Same.trans HsW0.out h), hk 1, hk 2, hk 3⟩
        have hR := HR.out.same HsW0.out
        have HRW := hide hR
        have hcn := hR.2.2.1
        have hcm := hR.2.2.2.1
        unfold maxLen at hcm
        have H1 := cut_hi slP (some ⟨b, off, none⟩) n cp .i64 (i : Int) i rfl (by rw [← Hn.out] at hcn; omega)
        obtain ⟨A2, H2, hrd2, hbk2⟩ := cut_lo (n := n) slP hR.1 (by rw [is3_len, Hn.out]) (by rw [Hn.out]; exact hcn) .i64 (i : Int) i rfl hi'
        have Hrd1 : Hid (Rd W (some ⟨b, off, none⟩) (is3 (p.take i))) := hide (by have := hR.1.take (i * 3); rw [is3_take] at this; exact this)
        have Hrd2 : Hid (Rd W A2 (is3 (p.drop i))) := hide (by rw [is3_drop] at hrd2; exact hrd2)
        have b1 : (0 + i) * 24 ≤ 140737488355328 := by omega
        have b2 : 0 + i ≤ 140737488355328 := by omega
        have b3 : (0 + i + 1) * 24 ≤ 140737488355328 := by omega
        have b4 : 0 + i + 1 ≤ 140737488355328 := by omega
        have b5 : (0 + i + 1 + (n - i)) * 24 ≤ 140737488355328 := by omega
        have b6 : 0 + i + 1 + (n - i) ≤ 140737488355328 := by omega
        have b7 : (is3 (p.take i)).length = i * 3 := by rw [is3_len, List.length_take]; have := Hn.out; congr 1; omega
        have b8 : (is3 (p.drop i)).length = (n - i) * 3 := by rw [is3_len, List.length_drop, Hn.out]
        have B := hide (And.intro b1 (And.intro b2 (And.intro b3 (And.intro b4 (And.intro b5 (And.intro b6 (And.intro b7 b8)))))))
        have Hbg := hide (H.out.same HsW0.out).blk.lt
        clear hsW hbW hR hcn hcm hrd2 hbk2 b1 b2 b3 b4 b5 b6 b7 b8 hkt hkc hsm
        go_wp2_with fail
        refine wp_region_heldZ (fun w' => w'.cell? ⟨g, 0, none⟩ = some (.slice (some ⟨b, off, none⟩) n cp) ∧ w'.cell? ⟨w.heap.size, 1, none⟩ = some (.int .i64 pi) ∧ w'.cell? ⟨w.heap.size, 2, none⟩ = some (.int .i64 px) ∧ w'.cell? ⟨w.heap.size, 3, none⟩ = some (.int .i64 py)) 22 (by kernel_rfl) ?_
        have hS0 := HK.out W.drew (Chg.drew (Chg.refl _ _))
        refine wpAnyZ_take (i := 0) (v := ?_) (List.getElem?_toArray.trans rfl) (by kernel_rfl) (by kernel_rfl) (by kernel_rfl) (by kernel_rfl) (fun _ _ _ h => h) (Or.inl ⟨by rfl, ?_⟩) hS0 ?_; rotate_left; · intro w hSw; (try dsimp only at hSw); go_simp; (try with_reducible rfl)
        try simp only [puts]
        refine wpAnyZ_take (i := 2) (v := ?_) (List.getElem?_toArray.trans rfl) (by kernel_rfl) (by kernel_rfl) (by kernel_rfl) (by kernel_rfl) (fun _ _ _ h => h) (Or.inl ⟨by rfl, ?_⟩) hS0 ?_; rotate_left; · intro w hSw; (try dsimp only at hSw); go_simp; (try with_reducible rfl)
        try simp only [puts]
        refine wpAnyZ_take (i := 3) (v := ?_) (List.getElem?_toArray.trans rfl) (by kernel_rfl) (by kernel_rfl) (by kernel_rfl) (by kernel_rfl) (fun _ _ _ h => h) (Or.inl ⟨by rfl, ?_⟩) hS0 ?_; rotate_left; · intro w hSw; (try dsimp only at hSw); go_simp; (try with_reducible rfl)
        try simp only [puts]
        refine wpAnyZ_take (i := 4) (v := ?_) (List.getElem?_toArray.trans rfl) (by kernel_rfl) (by kernel_rfl) (by kernel_rfl) (by kernel_rfl) (fun _ _ _ h => h) (Or.inl ⟨by rfl, ?_⟩) hS0 ?_; rotate_left; · intro w hSw; (try dsimp only at hSw); go_simp; (try with_reducible rfl)
        try simp only [puts]
        refine wpAnyZ_take (i := 5) (v := ?_) (List.getElem?_toArray.trans rfl) (by kernel_rfl) (by kernel_rfl) (by kernel_rfl) (by kernel_rfl) (fun _ _ _ h => h) (Or.inl ⟨by rfl, ?_⟩) hS0 ?_; rotate_left; · intro w hSw; (try dsimp only at hSw); go_simp; (try with_reducible rfl)
        try simp only [puts]
        refine wpAnyZ_take (i := 6) (v := ?_) (List.getElem?_toArray.trans rfl) (by kernel_rfl) (by kernel_rfl) (by kernel_rfl) (by kernel_rfl) (fun _ _ _ h => h) (Or.inl ⟨by rfl, ?_⟩) hS0 ?_; rotate_left; · intro w hSw; (try dsimp only at hSw); go_simp; (try with_reducible rfl)
        try simp only [puts]
        refine wpAnyZ_take (i := 7) (v := ?_) (List.getElem?_toArray.trans rfl) (by kernel_rfl) (by kernel_rfl) (by kernel_rfl) (by kernel_rfl) (fun _ _ _ h => h) (Or.inl ⟨by rfl, ?_⟩) hS0 ?_; rotate_left; · intro w hSw; (try dsimp only at hSw); go_simp; (try with_reducible rfl)
        try simp only [puts]
        refine wpAnyZ_take (i := 9) (v := ?_) (List.getElem?_toArray.trans rfl) (by kernel_rfl) (by kernel_rfl) (by kernel_rfl) (by kernel_rfl) (fun _ _ _ h => h) (Or.inl ⟨by rfl, ?_⟩) hS0 ?_; rotate_left; · intro w hSw; (try dsimp only at hSw); go_simp; (try with_reducible rfl)
        try simp only [puts]
        refine wpAnyZ_take (i := 10) (v := ?_) (List.getElem?_toArray.trans rfl) (by kernel_rfl) (by kernel_rfl) (by kernel_rfl) (by kernel_rfl) (fun _ _ _ h => h) (Or.inl ⟨by rfl, ?_⟩) hS0 ?_; rotate_left; · intro w hSw; (try dsimp only at hSw); go_simp; (try with_reducible rfl)
        try simp only [puts]
        refine wpAnyZ_take (i := 13) (v := ?_) (List.getElem?_toArray.trans rfl) (by kernel_rfl) (by kernel_rfl) (by kernel_rfl) (by kernel_rfl) (fun _ _ _ h => h) (Or.inl ⟨by rfl, ?_⟩) hS0 ?_; rotate_left; · intro w hSw; (try dsimp only at hSw); go_simp; (try with_reducible rfl)
        try simp only [puts]
        refine wpAnyZ_take (i := 14) (v := ?_) (List.getElem?_toArray.trans rfl) (by kernel_rfl) (by kernel_rfl) (by kernel_rfl) (by kernel_rfl) (fun _ _ _ h => h) (Or.inl ⟨by rfl, ?_⟩) hS0 ?_; rotate_left; · intro w hSw; (try dsimp only at hSw); go_simp; (try with_reducible rfl)
        try simp only [puts]
        refine wpAnyZ_take (i := 15) (v := ?_) (List.getElem?_toArray.trans rfl) (by kernel_rfl) (by kernel_rfl) (by kernel_rfl) (by kernel_rfl) (fun _ _ _ h => h) (Or.inl ⟨by rfl, ?_⟩) hS0 ?_; rotate_left; · intro w hSw; (try dsimp only at hSw); go_simp; (try with_reducible rfl)
        try simp only [puts]
        refine wpAnyZ_take (i := 16) (v := ?_) (List.getElem?_toArray.trans rfl) (by kernel_rfl) (by kernel_rfl) (by kernel_rfl) (by kernel_rfl) (fun _ _ _ h => h) (Or.inl ⟨by rfl, ?_⟩) hS0 ?_; rotate_left; · intro w hSw; (try dsimp only at hSw); go_simp; (try with_reducible rfl)
        try simp only [puts]
        refine wpAnyZ_take (i := 17) (v := ?_) (List.getElem?_toArray.trans rfl) (by kernel_rfl) (by kernel_rfl) (by kernel_rfl) (by kernel_rfl) (fun _ _ _ h => h) (Or.inl ⟨by rfl, ?_⟩) hS0 ?_; rotate_left; · intro w hSw; (try dsimp only at hSw); go_simp; (try with_reducible rfl)
        try simp only [puts]
        refine wpAnyZ_take (i := 18) (v := ?_) (List.getElem?_toArray.trans rfl) (by kernel_rfl) (by kernel_rfl) (by kernel_rfl) (by kernel_rfl) (fun _ _ _ h => h) (Or.inl ⟨by rfl, ?_⟩) hS0 ?_; rotate_left; · intro w hSw; (try dsimp only at hSw); go_simp; (try with_reducible rfl)
        try simp only [puts]
        refine wpAnyZ_two (i := 1) (j := 11) (by kernel_rfl) (List.getElem?_toArray.trans rfl) (List.getElem?_toArray.trans rfl) (fun K' hK => ?_) (fun K' hK => ?_)
        · go_simp
          refine hK _ _ (fun _ => HK.out _ (Chg.alloc (Chg.drew (Chg.refl _ _)) _)) ?_
          try simp only [puts]
          clear hK
          refine wpAnyZ_two (i := 8) (j := 11) (by kernel_rfl) (List.getElem?_toArray.trans rfl) (List.getElem?_toArray.trans rfl) (fun K' hK => ?_) (fun K' hK => ?_)
          · refine step_appS (by rfl) (.tmp 81) (.tmp 87) _ (by rfl) slP (by rfl) (base := W.heap.size) (by exact own_lit W.drew W.heap.size _ 3 #[] 0 (Nat.le_refl _) (by decide) rfl) (by rfl) B.out.2.2.2.2.2.2.1 (by exact Hrd1.out.alloc _) (one_is3 _) B.out.1 B.out.2.1 (by simp) ?_
            intro A5 c5 w5 hown5 hchg5 hat5
            have hcz : Same W w5 := ((Chg.alloc (Chg.drew (Chg.refl _ W)) _).trans hchg5 (by intro k hk h; simp [blkOf] at h; omega))
            rw [Nat.zero_add] at hown5
            have Hown5 := hide hown5
            have Hs5 := hide hcz
            clear hown5 hchg5 hat5 hcz
            refine hK _ _ (fun _ => HK.out _ Hs5.out) ?_
            try simp only [puts]
            clear hK
            refine wpAnyZ_one (i := 11) (by kernel_rfl) (List.getElem?_toArray.trans rfl) (fun K' hK => ?_)
            go_simp
            refine hK _ _ (fun _ => HK.out _ (Chg.alloc Hs5.out _)) ?_
            try simp only [puts]
            clear hK
            refine wpAnyZ_one (i := 12) (by kernel_rfl) (List.getElem?_toArray.trans rfl) (fun K' hK => ?_)
            refine step_appS (by rfl) (.tmp 88) (.tmp 91) _ (by rfl) slP (by rfl) (base := W.heap.size) (by exact Hown5.out.alloc _) (by rfl) (by rfl) (by exact rd_new3 w5 _ _ _ _) (show ∀ u ∈ [Value.int .i64 pi, Value.int .i64 px, Value.int .i64 py], u.oneCell' = true from one_is3 [(pi, px, py)]) (by omega) (by omega) (by have := Hs5.out.size; simp; omega) ?_
            intro A6 c6 w6 hown6 hchg6 hat6
            have hcz : Same W w6 := Hs5.out.app1 Hown5.out (Nat.le_refl _) hchg6
            have Hown6 := hide hown6
            have Hs6 := hide hcz
            clear hown6 hchg6 hat6 hcz
            refine hK _ _ (fun _ => HK.out _ Hs6.out) ?_
            try simp only [puts]
            clear hK
            refine wpAnyZ_one (i := 19) (by kernel_rfl) (List.getElem?_toArray.trans rfl) (fun K' hK => ?_)
            refine step_appS (by rfl) (.tmp 92) (.tmp 98) _ (by rfl) slP (by rfl) (base := W.heap.size) (by exact Hown6.out) (by rfl) B.out.2.2.2.2.2.2.2 (by exact Hrd2.out.same Hs6.out) (one_is3 _) (by omega) (by omega) (by exact Hs6.out.size) ?_
            intro A7 c7 w7 hown7 hchg7 hat7
            have hcz : Same W w7 := Hs6.out.app Hown6.out (Nat.le_refl _) hchg7
            have hg7 := (H.out.same (Same.trans HsW0.out hcz)).blk
            have hkg7 := hg7.cell
            have hzg7 := hg7.frozen
            have hkc7 := (HcW.out.same hcz).cell
            have hb7 := HbW.out.same hcz
            have hkb7 := hb7.cell
            have hzb7 := hb7.frozen
            have bb7 := hb7.lt
            have bc7 := (HcW.out.same hcz).lt
            have hS7 := HK.out _ hcz
            have Hown7 := hide hown7
            have Hs7 := hide hcz
            have Hb7 := hide hb7
            clear hown7 hchg7 hat7 hcz hg7 hb7
            refine hK _ _ (fun _ => hS7) ?_
            try simp only [puts]
            clear hK
            refine wpAnyZ_one (i := 20) (by kernel_rfl) (List.getElem?_toArray.trans rfl) (fun K' hK => ?_)
            go_simp
            refine hK _ _ (fun _ => hS7) ?_
            try simp only [puts]
            clear hK
            refine wpAnyZ_one (i := 21) (by kernel_rfl) (List.getElem?_toArray.trans rfl) (fun K' hK => ?_)
            go_simp
            refine hK _ _ (fun _ => hS7) ?_
            try simp only [puts]
            clear hK
            refine wpAnyZ_one (i := 22) (by kernel_rfl) (List.getElem?_toArray.trans rfl) (fun K' hK => ?_)
            go_simp
            refine hK _ _ (fun h => absurd rfl h) ?_
            try simp only [puts]
            clear hK hS7 hS0
            refine wpAnyZ_done (by kernel_rfl) (NoPanic.normal ?_) _
            have hlb := HbW.out.lt
            have hlg := H.out.blk.lt
            obtain ⟨w8, hw8⟩ : ∃ w8, w8 = w7.setCell ⟨g, 0, none⟩ (.slice A7 (i + 1 + (n - i)) c7) := ⟨_, rfl⟩
            have hb8 := Hb7.out.far (p := ⟨g, 0, none⟩) (by show ¬ w.heap.size + 1 = g; omega) (.slice A7 (i + 1 + (n - i)) c7)
            have hc8 := (HcW.out.same Hs7.out).far (p := ⟨g, 0, none⟩) (by show ¬ w.heap.size = g; omega) (.slice A7 (i + 1 + (n - i)) c7)
            rw [← hw8] at hb8 hc8 ⊢
            have hkb8 := hb8.cell
            have hzb8 := hb8.frozen
            have hkc8 := hc8.cell
            have Hw8 := hide hw8
            clear hw8 hb8 hc8 hkg7 hzg7 hkc7 hkb7 hzb7
            go_wp2_with fail
            have hw8 := Hw8.out
            subst hw8
            have h7 := Hown7.out
            try rw [Nat.zero_add] at h7
            have e7 : put3 (pi, px, py) p = p.take i ++ (pi, px, py) :: p.drop i := by rw [Hput.out, Hat.out]
            have hl7 : (put3 (pi, px, py) p).length = i + 1 + (n - i) := by rw [e7]; have := Hn.out; simp; omega
            have hE := doR_endP (base := W.heap.size) (l := put3 (pi, px, py) p) H.out (Same.trans HsW0.out Hs7.out) Hb7.out (by omega) (by rw [e7, is3_append, is3_cons]; simpa using h7) (by omega) hl7 (.int .i64 2) (.int .i64 pi) (.int .i64 px) (.int .i64 py) (.int .i64 0) (.int .i64 0) (.int .i64 0)
            try simp only [Exit.inBlock, Exit.then]
            refine bodyPost_ret (results_cell2 rfl rfl hE.1 Tryz.underlying29 rfl (by kernel_rfl)) rfl ⟨rfl, A7, c7, hE.2.1, hE.2.2.1, hE.2.2.2⟩
          · go_simp
            refine hK _ _ (fun _ => HK.out _ (Chg.alloc (Chg.alloc (Chg.drew (Chg.refl _ _)) _) _)) ?_
            try simp only [puts]
            clear hK
            refine wpAnyZ_one (i := 8) (by kernel_rfl) (List.getElem?_toArray.trans rfl) (fun K' hK => ?_)
            refine step_appS (by rfl) (.tmp 81) (.tmp 87) _ (by rfl) slP (by rfl) (base := W.heap.size) (by exact (own_lit W.drew W.heap.size _ 3 #[] 0 (Nat.le_refl _) (by decide) rfl).alloc _) (by rfl) B.out.2.2.2.2.2.2.1 (by exact (Hrd1.out.alloc _).alloc _) (one_is3 _) B.out.1 B.out.2.1 (by simp; omega) ?_
            intro A5 c5 w5 hown5 hchg5 hat5
            have hcz : Same W w5 := ((Chg.alloc (Chg.alloc (Chg.drew (Chg.refl _ W)) _) _).trans hchg5 (by intro k hk h; simp [blkOf] at h; omega))
            have h91 : Rd w5 (some ⟨W.heap.size + 1, 0, none⟩) [Value.int .i64 pi, Value.int .i64 px, Value.int .i64 py] := by
              have h := (rd_new3 (W.drew.alloc (.cells #[] 25)) _ _ _ 25).chg (w' := w5) hchg5 (by intro b hb hlt h; simp [blkOf] at h hb; omega)
              simpa using h
            have H91 := hide h91
            have Hown5 := hide hown5
            have Hs5 := hide hcz
            clear hown5 hchg5 hat5 hcz h91
            refine hK _ _ (fun _ => HK.out _ Hs5.out) ?_
            try simp only [puts]
            clear hK
            refine wpAnyZ_one (i := 12) (by kernel_rfl) (List.getElem?_toArray.trans rfl) (fun K' hK => ?_)
            refine step_appS (by rfl) (.tmp 88) (.tmp 91) _ (by rfl) slP (by rfl) (base := W.heap.size) (by exact Hown5.out) (by rfl) (by rfl) (by exact H91.out) (show ∀ u ∈ [Value.int .i64 pi, Value.int .i64 px, Value.int .i64 py], u.oneCell' = true from one_is3 [(pi, px, py)]) (by omega) (by omega) (by exact Hs5.out.size) ?_
            intro A6 c6 w6 hown6 hchg6 hat6
            have hcz : Same W w6 := Hs5.out.app Hown5.out (Nat.le_refl _) hchg6
            have Hown6 := hide hown6
            have Hs6 := hide hcz
            clear hown6 hchg6 hat6 hcz
            refine hK _ _ (fun _ => HK.out _ Hs6.out) ?_
            try simp only [puts]
            clear hK
            refine wpAnyZ_one (i := 19) (by kernel_rfl) (List.getElem?_toArray.trans rfl) (fun K' hK => ?_)
            refine step_appS (by rfl) (.tmp 92) (.tmp 98) _ (by rfl) slP (by rfl) (base := W.heap.size) (by exact Hown6.out) (by rfl) B.out.2.2.2.2.2.2.2 (by exact Hrd2.out.same Hs6.out) (one_is3 _) (by omega) (by omega) (by exact Hs6.out.size) ?_
            intro A7 c7 w7 hown7 hchg7 hat7
            have hcz : Same W w7 := Hs6.out.app Hown6.out (Nat.le_refl _) hchg7
            have hg7 := (H.out.same (Same.trans HsW0.out hcz)).blk
            have hkg7 := hg7.cell
            have hzg7 := hg7.frozen
            have hkc7 := (HcW.out.same hcz).cell
            have hb7 := HbW.out.same hcz
            have hkb7 := hb7.cell
            have hzb7 := hb7.frozen
            have bb7 := hb7.lt
            have bc7 := (HcW.out.same hcz).lt
            have hS7 := HK.out _ hcz
            have Hown7 := hide hown7
            have Hs7 := hide hcz
            have Hb7 := hide hb7
            clear hown7 hchg7 hat7 hcz hg7 hb7
            refine hK _ _ (fun _ => hS7) ?_
            try simp only [puts]
            clear hK
            refine wpAnyZ_one (i := 20) (by kernel_rfl) (List.getElem?_toArray.trans rfl) (fun K' hK => ?_)
            go_simp
            refine hK _ _ (fun _ => hS7) ?_
            try simp only [puts]
            clear hK
            refine wpAnyZ_one (i := 21) (by kernel_rfl) (List.getElem?_toArray.trans rfl) (fun K' hK => ?_)
            go_simp
            refine hK _ _ (fun _ => hS7) ?_
            try simp only [puts]
            clear hK
            refine wpAnyZ_one (i := 22) (by kernel_rfl) (List.getElem?_toArray.trans rfl) (fun K' hK => ?_)
            go_simp
            refine hK _ _ (fun h => absurd rfl h) ?_
            try simp only [puts]
            clear hK hS7 hS0
            refine wpAnyZ_done (by kernel_rfl) (NoPanic.normal ?_) _
            have hlb := HbW.out.lt
            have hlg := H.out.blk.lt
            obtain ⟨w8, hw8⟩ : ∃ w8, w8 = w7.setCell ⟨g, 0, none⟩ (.slice A7 (i + 1 + (n - i)) c7) := ⟨_, rfl⟩
            have hb8 := Hb7.out.far (p := ⟨g, 0, none⟩) (by show ¬ w.heap.size + 1 = g; omega) (.slice A7 (i + 1 + (n - i)) c7)
            have hc8 := (HcW.out.same Hs7.out).far (p := ⟨g, 0, none⟩) (by show ¬ w.heap.size = g; omega) (.slice A7 (i + 1 + (n - i)) c7)
            rw [← hw8] at hb8 hc8 ⊢
            have hkb8 := hb8.cell
            have hzb8 := hb8.frozen
            have hkc8 := hc8.cell
            have Hw8 := hide hw8
            clear hw8 hb8 hc8 hkg7 hzg7 hkc7 hkb7 hzb7
            go_wp2_with fail
            have hw8 := Hw8.out
            subst hw8
            have h7 := Hown7.out
            try rw [Nat.zero_add] at h7
            have e7 : put3 (pi, px, py) p = p.take i ++ (pi, px, py) :: p.drop i := by rw [Hput.out, Hat.out]
            have hl7 : (put3 (pi, px, py) p).length = i + 1 + (n - i) := by rw [e7]; have := Hn.out; simp; omega
            have hE := doR_endP (base := W.heap.size) (l := put3 (pi, px, py) p) H.out (Same.trans HsW0.out Hs7.out) Hb7.out (by omega) (by rw [e7, is3_append, is3_cons]; simpa using h7) (by omega) hl7 (.int .i64 2) (.int .i64 pi) (.int .i64 px) (.int .i64 py) (.int .i64 0) (.int .i64 0) (.int .i64 0)
            try simp only [Exit.inBlock, Exit.then]
            refine bodyPost_ret (results_cell2 rfl rfl hE.1 Tryz.underlying29 rfl (by kernel_rfl)) rfl ⟨rfl, A7, c7, hE.2.1, hE.2.2.1, hE.2.2.2⟩
        · go_simp
          refine hK _ _ (fun _ => HK.out _ (Chg.alloc (Chg.drew (Chg.refl _ _)) _)) ?_
          try simp only [puts]
          clear hK
          refine wpAnyZ_one (i := 1) (by kernel_rfl) (List.getElem?_toArray.trans rfl) (fun K' hK => ?_)
          go_simp
          refine hK _ _ (fun _ => HK.out _ (Chg.alloc (Chg.alloc (Chg.drew (Chg.refl _ _)) _) _)) ?_
          try simp only [puts]
          clear hK
          refine wpAnyZ_one (i := 8) (by kernel_rfl) (List.getElem?_toArray.trans rfl) (fun K' hK => ?_)
          refine step_appS (by rfl) (.tmp 81) (.tmp 87) _ (by rfl) slP (by rfl) (base := W.heap.size) (by exact (by have h := own_lit (W.alloc (.cells #[Value.int .i64 pi, Value.int .i64 px, Value.int .i64 py] 25)) W.heap.size 25 3 #[] 0 (by simp) (by decide) rfl; rw [show (W.alloc (.cells #[Value.int .i64 pi, Value.int .i64 px, Value.int .i64 py] 25)).heap.size = W.heap.size + 1 by simp] at h; exact h)) (by rfl) B.out.2.2.2.2.2.2.1 (by exact (Hrd1.out.alloc _).alloc _) (one_is3 _) B.out.1 B.out.2.1 (by simp; omega) ?_
          intro A5 c5 w5 hown5 hchg5 hat5
          have hcz : Same W w5 := ((Chg.alloc (Chg.alloc (Chg.drew (Chg.refl _ W)) _) _).trans hchg5 (by intro k hk h; simp [blkOf] at h; omega))
          have h91 : Rd w5 (some ⟨W.heap.size, 0, none⟩) [Value.int .i64 pi, Value.int .i64 px, Value.int .i64 py] := ((rd_new3 W.drew _ _ _ 25).alloc _).chg hchg5 (by intro b hb hlt h; simp [blkOf] at h hb; omega)
          have H91 := hide h91
          have Hown5 := hide hown5
          have Hs5 := hide hcz
          clear hown5 hchg5 hat5 hcz h91
          refine hK _ _ (fun _ => HK.out _ Hs5.out) ?_
          try simp only [puts]
          clear hK
          refine wpAnyZ_one (i := 12) (by kernel_rfl) (List.getElem?_toArray.trans rfl) (fun K' hK => ?_)
          refine step_appS (by rfl) (.tmp 88) (.tmp 91) _ (by rfl) slP (by rfl) (base := W.heap.size) (by exact Hown5.out) (by rfl) (by rfl) (by exact H91.out) (show ∀ u ∈ [Value.int .i64 pi, Value.int .i64 px, Value.int .i64 py], u.oneCell' = true from one_is3 [(pi, px, py)]) (by omega) (by omega) (by exact Hs5.out.size) ?_
          intro A6 c6 w6 hown6 hchg6 hat6
          have hcz : Same W w6 := Hs5.out.app Hown5.out (Nat.le_refl _) hchg6
          have Hown6 := hide hown6
          have Hs6 := hide hcz
          clear hown6 hchg6 hat6 hcz
          refine hK _ _ (fun _ => HK.out _ Hs6.out) ?_
          try simp only [puts]
          clear hK
          refine wpAnyZ_one (i := 19) (by kernel_rfl) (List.getElem?_toArray.trans rfl) (fun K' hK => ?_)
          refine step_appS (by rfl) (.tmp 92) (.tmp 98) _ (by rfl) slP (by rfl) (base := W.heap.size) (by exact Hown6.out) (by rfl) B.out.2.2.2.2.2.2.2 (by exact Hrd2.out.same Hs6.out) (one_is3 _) (by omega) (by omega) (by exact Hs6.out.size) ?_
          intro A7 c7 w7 hown7 hchg7 hat7
          have hcz : Same W w7 := Hs6.out.app Hown6.out (Nat.le_refl _) hchg7
          have hg7 := (H.out.same (Same.trans HsW0.out hcz)).blk
          have hkg7 := hg7.cell
          have hzg7 := hg7.frozen
          have hkc7 := (HcW.out.same hcz).cell
          have hb7 := HbW.out.same hcz
          have hkb7 := hb7.cell
          have hzb7 := hb7.frozen
          have bb7 := hb7.lt
          have bc7 := (HcW.out.same hcz).lt
          have hS7 := HK.out _ hcz
          have Hown7 := hide hown7
          have Hs7 := hide hcz
          have Hb7 := hide hb7
          clear hown7 hchg7 hat7 hcz hg7 hb7
          refine hK _ _ (fun _ => hS7) ?_
          try simp only [puts]
          clear hK
          refine wpAnyZ_one (i := 20) (by kernel_rfl) (List.getElem?_toArray.trans rfl) (fun K' hK => ?_)
          go_simp
          refine hK _ _ (fun _ => hS7) ?_
          try simp only [puts]
          clear hK
          refine wpAnyZ_one (i := 21) (by kernel_rfl) (List.getElem?_toArray.trans rfl) (fun K' hK => ?_)
          go_simp
          refine hK _ _ (fun _ => hS7) ?_
          try simp only [puts]
          clear hK
          refine wpAnyZ_one (i := 22) (by kernel_rfl) (List.getElem?_toArray.trans rfl) (fun K' hK => ?_)
          go_simp
          refine hK _ _ (fun h => absurd rfl h) ?_
          try simp only [puts]
          clear hK hS7 hS0
          refine wpAnyZ_done (by kernel_rfl) (NoPanic.normal ?_) _
          have hlb := HbW.out.lt
          have hlg := H.out.blk.lt
          obtain ⟨w8, hw8⟩ : ∃ w8, w8 = w7.setCell ⟨g, 0, none⟩ (.slice A7 (i + 1 + (n - i)) c7) := ⟨_, rfl⟩
          have hb8 := Hb7.out.far (p := ⟨g, 0, none⟩) (by show ¬ w.heap.size + 1 = g; omega) (.slice A7 (i + 1 + (n - i)) c7)
          have hc8 := (HcW.out.same Hs7.out).far (p := ⟨g, 0, none⟩) (by show ¬ w.heap.size = g; omega) (.slice A7 (i + 1 + (n - i)) c7)
          rw [← hw8] at hb8 hc8 ⊢
          have hkb8 := hb8.cell
          have hzb8 := hb8.frozen
          have hkc8 := hc8.cell
          have Hw8 := hide hw8
          clear hw8 hb8 hc8 hkg7 hzg7 hkc7 hkb7 hzb7
          go_wp2_with fail
          have hw8 := Hw8.out
          subst hw8
          have h7 := Hown7.out
          try rw [Nat.zero_add] at h7
          have e7 : put3 (pi, px, py) p = p.take i ++ (pi, px, py) :: p.drop i := by rw [Hput.out, Hat.out]
          have hl7 : (put3 (pi, px, py) p).length = i + 1 + (n - i) := by rw [e7]; have := Hn.out; simp; omega
          have hE := doR_endP (base := W.heap.size) (l := put3 (pi, px, py) p) H.out (Same.trans HsW0.out Hs7.out) Hb7.out (by omega) (by rw [e7, is3_append, is3_cons]; simpa using h7) (by omega) hl7 (.int .i64 2) (.int .i64 pi) (.int .i64 px) (.int .i64 py) (.int .i64 0) (.int .i64 0) (.int .i64 0)
          try simp only [Exit.inBlock, Exit.then]
          refine bodyPost_ret (results_cell2 rfl rfl hE.1 Tryz.underlying29 rfl (by kernel_rfl)) rfl ⟨rfl, A7, c7, hE.2.1, hE.2.2.1, hE.2.2.2⟩
      · go_wp2_with fail
        go_quiet (fail)
        have hsW : Same w1 (wr.drewN nq) := Same.trans Hsm.out (Same.of_drewN _ _)
        generalize wr.drewN nq = W at *
        have HsW := hide hsW
        have HsW0 := hide (Same.trans Hs1.out hsW)
        have hbW := Hb1.out.same hsW
        have HbW := hide hbW
        have HcW := hide (Hc1.out.same hsW)
        have HK : Hid (∀ w', Same W w' → w'.cell? ⟨g, 0, none⟩ = some (.slice AP n cp) ∧ w'.cell? ⟨w.heap.size, 1, none⟩ = some (.int .i64 pi) ∧ w'.cell? ⟨w.heap.size, 2, none⟩ = some (.int .i64 px) ∧ w'.cell? ⟨w.heap.size, 3, none⟩ = some (.int .i64 py)) := hide fun w' h => have hk := ((HcW.out).same h).cell; ⟨Hkt.out _ (Same.trans HsW0.out h), hk 1, hk 2, hk 3⟩
        have hR := HR.out.same HsW0.out
        have HRW := hide hR
        have hcn := hR.2.2.1
        have hcm := hR.2.2.2.1
        unfold maxLen at hcm
        have H1 := cut_hi slP AP n cp .i64 (i : Int) i rfl (by rw [← Hn.out] at hcn; omega)
        obtain ⟨A2, H2, hrd2, hbk2⟩ := cut_lo (n := n) slP hR.1 (by rw [is3_len, Hn.out]) (by rw [Hn.out]; exact hcn) .i64 (i : Int) i rfl hi'
        have Hrd1 : Hid (Rd W AP (is3 (p.take i))) := hide (by have := hR.1.take (i * 3); rw [is3_take] at this; exact this)
        have Hrd2 : Hid (Rd W A2 (is3 (p.drop i))) := hide (by rw [is3_drop] at hrd2; exact hrd2)
        have b1 : (0 + i) * 24 ≤ 140737488355328 := by omega
        have b2 : 0 + i ≤ 140737488355328 := by omega
        have b3 : (0 + i + 1) * 24 ≤ 140737488355328 := by omega
        have b4 : 0 + i + 1 ≤ 140737488355328 := by omega
        have b5 : (0 + i + 1 + (n - i)) * 24 ≤ 140737488355328 := by omega
        have b6 : 0 + i + 1 + (n - i) ≤ 140737488355328 := by omega
        have b7 : (is3 (p.take i)).length = i * 3 := by rw [is3_len, List.length_take]; have := Hn.out; congr 1; omega
        have b8 : (is3 (p.drop i)).length = (n - i) * 3 := by rw [is3_len, List.length_drop, Hn.out]
        have B := hide (And.intro b1 (And.intro b2 (And.intro b3 (And.intro b4 (And.intro b5 (And.intro b6 (And.intro b7 b8)))))))
        have Hbg := hide (H.out.same HsW0.out).blk.lt
        clear hsW hbW hR hcn hcm hrd2 hbk2 b1 b2 b3 b4 b5 b6 b7 b8 hkt hkc hsm
        go_wp2_with fail
        refine wp_region_heldZ (fun w' => w'.cell? ⟨g, 0, none⟩ = some (.slice AP n cp) ∧ w'.cell? ⟨w.heap.size, 1, none⟩ = some (.int .i64 pi) ∧ w'.cell? ⟨w.heap.size, 2, none⟩ = some (.int .i64 px) ∧ w'.cell? ⟨w.heap.size, 3, none⟩ = some (.int .i64 py)) 22 (by kernel_rfl) ?_
        have hS0 := HK.out W.drew (Chg.drew (Chg.refl _ _))
        refine wpAnyZ_take (i := 0) (v := ?_) (List.getElem?_toArray.trans rfl) (by kernel_rfl) (by kernel_rfl) (by kernel_rfl) (by kernel_rfl) (fun _ _ _ h => h) (Or.inl ⟨by rfl, ?_⟩) hS0 ?_; rotate_left; · intro w hSw; (try dsimp only at hSw); go_simp; (try with_reducible rfl)
        try simp only [puts]
        refine wpAnyZ_take (i := 2) (v := ?_) (List.getElem?_toArray.trans rfl) (by kernel_rfl) (by kernel_rfl) (by kernel_rfl) (by kernel_rfl) (fun _ _ _ h => h) (Or.inl ⟨by rfl, ?_⟩) hS0 ?_; rotate_left; · intro w hSw; (try dsimp only at hSw); go_simp; (try with_reducible rfl)
        try simp only [puts]
        refine wpAnyZ_take (i := 3) (v := ?_) (List.getElem?_toArray.trans rfl) (by kernel_rfl) (by kernel_rfl) (by kernel_rfl) (by kernel_rfl) (fun _ _ _ h => h) (Or.inl ⟨by rfl, ?_⟩) hS0 ?_; rotate_left; · intro w hSw; (try dsimp only at hSw); go_simp; (try with_reducible rfl)
        try simp only [puts]
        refine wpAnyZ_take (i := 4) (v := ?_) (List.getElem?_toArray.trans rfl) (by kernel_rfl) (by kernel_rfl) (by kernel_rfl) (by kernel_rfl) (fun _ _ _ h => h) (Or.inl ⟨by rfl, ?_⟩) hS0 ?_; rotate_left; · intro w hSw; (try dsimp only at hSw); go_simp; (try with_reducible rfl)
        try simp only [puts]
        refine wpAnyZ_take (i := 5) (v := ?_) (List.getElem?_toArray.trans rfl) (by kernel_rfl) (by kernel_rfl) (by kernel_rfl) (by kernel_rfl) (fun _ _ _ h => h) (Or.inl ⟨by rfl, ?_⟩) hS0 ?_; rotate_left; · intro w hSw; (try dsimp only at hSw); go_simp; (try with_reducible rfl)
        try simp only [puts]
        refine wpAnyZ_take (i := 6) (v := ?_) (List.getElem?_toArray.trans rfl) (by kernel_rfl) (by kernel_rfl) (by kernel_rfl) (by kernel_rfl) (fun _ _ _ h => h) (Or.inl ⟨by rfl, ?_⟩) hS0 ?_; rotate_left; · intro w hSw; (try dsimp only at hSw); go_simp; (try with_reducible rfl)
        try simp only [puts]
        refine wpAnyZ_take (i := 7) (v := ?_) (List.getElem?_toArray.trans rfl) (by kernel_rfl) (by kernel_rfl) (by kernel_rfl) (by kernel_rfl) (fun _ _ _ h => h) (Or.inl ⟨by rfl, ?_⟩) hS0 ?_; rotate_left; · intro w hSw; (try dsimp only at hSw); go_simp; (try with_reducible rfl)
        try simp only [puts]
        refine wpAnyZ_take (i := 9) (v := ?_) (List.getElem?_toArray.trans rfl) (by kernel_rfl) (by kernel_rfl) (by kernel_rfl) (by kernel_rfl) (fun _ _ _ h => h) (Or.inl ⟨by rfl, ?_⟩) hS0 ?_; rotate_left; · intro w hSw; (try dsimp only at hSw); go_simp; (try with_reducible rfl)
        try simp only [puts]
        refine wpAnyZ_take (i := 10) (v := ?_) (List.getElem?_toArray.trans rfl) (by kernel_rfl) (by kernel_rfl) (by kernel_rfl) (by kernel_rfl) (fun _ _ _ h => h) (Or.inl ⟨by rfl, ?_⟩) hS0 ?_; rotate_left; · intro w hSw; (try dsimp only at hSw); go_simp; (try with_reducible rfl)
        try simp only [puts]
        refine wpAnyZ_take (i := 13) (v := ?_) (List.getElem?_toArray.trans rfl) (by kernel_rfl) (by kernel_rfl) (by kernel_rfl) (by kernel_rfl) (fun _ _ _ h => h) (Or.inl ⟨by rfl, ?_⟩) hS0 ?_; rotate_left; · intro w hSw; (try dsimp only at hSw); go_simp; (try with_reducible rfl)
        try simp only [puts]
        refine wpAnyZ_take (i := 14) (v := ?_) (List.getElem?_toArray.trans rfl) (by kernel_rfl) (by kernel_rfl) (by kernel_rfl) (by kernel_rfl) (fun _ _ _ h => h) (Or.inl ⟨by rfl, ?_⟩) hS0 ?_; rotate_left; · intro w hSw; (try dsimp only at hSw); go_simp; (try with_reducible rfl)
        try simp only [puts]
        refine wpAnyZ_take (i := 15) (v := ?_) (List.getElem?_toArray.trans rfl) (by kernel_rfl) (by kernel_rfl) (by kernel_rfl) (by kernel_rfl) (fun _ _ _ h => h) (Or.inl ⟨by rfl, ?_⟩) hS0 ?_; rotate_left; · intro w hSw; (try dsimp only at hSw); go_simp; (try with_reducible rfl)
        try simp only [puts]
        refine wpAnyZ_take (i := 16) (v := ?_) (List.getElem?_toArray.trans rfl) (by kernel_rfl) (by kernel_rfl) (by kernel_rfl) (by kernel_rfl) (fun _ _ _ h => h) (Or.inl ⟨by rfl, ?_⟩) hS0 ?_; rotate_left; · intro w hSw; (try dsimp only at hSw); go_simp; (try with_reducible rfl)
        try simp only [puts]
        refine wpAnyZ_take (i := 17) (v := ?_) (List.getElem?_toArray.trans rfl) (by kernel_rfl) (by kernel_rfl) (by kernel_rfl) (by kernel_rfl) (fun _ _ _ h => h) (Or.inl ⟨by rfl, ?_⟩) hS0 ?_; rotate_left; · intro w hSw; (try dsimp only at hSw); go_simp; (try with_reducible rfl)
        try simp only [puts]
        refine wpAnyZ_take (i := 18) (v := ?_) (List.getElem?_toArray.trans rfl) (by kernel_rfl) (by kernel_rfl) (by kernel_rfl) (by kernel_rfl) (fun _ _ _ h => h) (Or.inl ⟨by rfl, ?_⟩) hS0 ?_; rotate_left; · intro w hSw; (try dsimp only at hSw); go_simp; (try with_reducible rfl)
        try simp only [puts]
        refine wpAnyZ_two (i := 1) (j := 11) (by kernel_rfl) (List.getElem?_toArray.trans rfl) (List.getElem?_toArray.trans rfl) (fun K' hK => ?_) (fun K' hK => ?_)
        · go_simp
          refine hK _ _ (fun _ => HK.out _ (Chg.alloc (Chg.drew (Chg.refl _ _)) _)) ?_
          try simp only [puts]
          clear hK
          refine wpAnyZ_two (i := 8) (j := 11) (by kernel_rfl) (List.getElem?_toArray.trans rfl) (List.getElem?_toArray.trans rfl) (fun K' hK => ?_) (fun K' hK => ?_)
          · refine step_appS (by rfl) (.tmp 81) (.tmp 87) _ (by rfl) slP (by rfl) (base := W.heap.size) (by exact own_lit W.drew W.heap.size _ 3 #[] 0 (Nat.le_refl _) (by decide) rfl) (by rfl) B.out.2.2.2.2.2.2.1 (by exact Hrd1.out.alloc _) (one_is3 _) B.out.1 B.out.2.1 (by simp) ?_
            intro A5 c5 w5 hown5 hchg5 hat5
            have hcz : Same W w5 := ((Chg.alloc (Chg.drew (Chg.refl _ W)) _).trans hchg5 (by intro k hk h; simp [blkOf] at h; omega))
            rw [Nat.zero_add] at hown5
            have Hown5 := hide hown5
            have Hs5 := hide hcz
            clear hown5 hchg5 hat5 hcz
            refine hK _ _ (fun _ => HK.out _ Hs5.out) ?_
            try simp only [puts]
            clear hK
            refine wpAnyZ_one (i := 11) (by kernel_rfl) (List.getElem?_toArray.trans rfl) (fun K' hK => ?_)
            go_simp
            refine hK _ _ (fun _ => HK.out _ (Chg.alloc Hs5.out _)) ?_
            try simp only [puts]
            clear hK
            refine wpAnyZ_one (i := 12) (by kernel_rfl) (List.getElem?_toArray.trans rfl) (fun K' hK => ?_)
            refine step_appS (by rfl) (.tmp 88) (.tmp 91) _ (by rfl) slP (by rfl) (base := W.heap.size) (by exact Hown5.out.alloc _) (by rfl) (by rfl) (by exact rd_new3 w5 _ _ _ _) (show ∀ u ∈ [Value.int .i64 pi, Value.int .i64 px, Value.int .i64 py], u.oneCell' = true from one_is3 [(pi, px, py)]) (by omega) (by omega) (by have := Hs5.out.size; simp; omega) ?_
            intro A6 c6 w6 hown6 hchg6 hat6
            have hcz : Same W w6 := Hs5.out.app1 Hown5.out (Nat.le_refl _) hchg6
            have Hown6 := hide hown6
            have Hs6 := hide hcz
            clear hown6 hchg6 hat6 hcz
            refine hK _ _ (fun _ => HK.out _ Hs6.out) ?_
            try simp only [puts]
            clear hK
            refine wpAnyZ_one (i := 19) (by kernel_rfl) (List.getElem?_toArray.trans rfl) (fun K' hK => ?_)
            refine step_appS (by rfl) (.tmp 92) (.tmp 98) _ (by rfl) slP (by rfl) (base := W.heap.size) (by exact Hown6.out) (by rfl) B.out.2.2.2.2.2.2.2 (by exact Hrd2.out.same Hs6.out) (one_is3 _) (by omega) (by omega) (by exact Hs6.out.size) ?_
            intro A7 c7 w7 hown7 hchg7 hat7
            have hcz : Same W w7 := Hs6.out.app Hown6.out (Nat.le_refl _) hchg7
            have hg7 := (H.out.same (Same.trans HsW0.out hcz)).blk
            have hkg7 := hg7.cell
            have hzg7 := hg7.frozen
            have hkc7 := (HcW.out.same hcz).cell
            have hb7 := HbW.out.same hcz
            have hkb7 := hb7.cell
            have hzb7 := hb7.frozen
            have bb7 := hb7.lt
            have bc7 := (HcW.out.same hcz).lt
            have hS7 := HK.out _ hcz
            have Hown7 := hide hown7
            have Hs7 := hide hcz
            have Hb7 := hide hb7
            clear hown7 hchg7 hat7 hcz hg7 hb7
            refine hK _ _ (fun _ => hS7) ?_
            try simp only [puts]
            clear hK
            refine wpAnyZ_one (i := 20) (by kernel_rfl) (List.getElem?_toArray.trans rfl) (fun K' hK => ?_)
            go_simp
            refine hK _ _ (fun _ => hS7) ?_
            try simp only [puts]
            clear hK
            refine wpAnyZ_one (i := 21) (by kernel_rfl) (List.getElem?_toArray.trans rfl) (fun K' hK => ?_)
            go_simp
            refine hK _ _ (fun _ => hS7) ?_
            try simp only [puts]
            clear hK
            refine wpAnyZ_one (i := 22) (by kernel_rfl) (List.getElem?_toArray.trans rfl) (fun K' hK => ?_)
            go_simp
            refine hK _ _ (fun h => absurd rfl h) ?_
            try simp only [puts]
            clear hK hS7 hS0
            refine wpAnyZ_done (by kernel_rfl) (NoPanic.normal ?_) _
            have hlb := HbW.out.lt
            have hlg := H.out.blk.lt
            obtain ⟨w8, hw8⟩ : ∃ w8, w8 = w7.setCell ⟨g, 0, none⟩ (.slice A7 (i + 1 + (n - i)) c7) := ⟨_, rfl⟩
            have hb8 := Hb7.out.far (p := ⟨g, 0, none⟩) (by show ¬ w.heap.size + 1 = g; omega) (.slice A7 (i + 1 + (n - i)) c7)
            have hc8 := (HcW.out.same Hs7.out).far (p := ⟨g, 0, none⟩) (by show ¬ w.heap.size = g; omega) (.slice A7 (i + 1 + (n - i)) c7)
            rw [← hw8] at hb8 hc8 ⊢
            have hkb8 := hb8.cell
            have hzb8 := hb8.frozen
            have hkc8 := hc8.cell
            have Hw8 := hide hw8
            clear hw8 hb8 hc8 hkg7 hzg7 hkc7 hkb7 hzb7
            go_wp2_with fail
            have hw8 := Hw8.out
            subst hw8
            have h7 := Hown7.out
            try rw [Nat.zero_add] at h7
            have e7 : put3 (pi, px, py) p = p.take i ++ (pi, px, py) :: p.drop i := by rw [Hput.out, Hat.out]
            have hl7 : (put3 (pi, px, py) p).length = i + 1 + (n - i) := by rw [e7]; have := Hn.out; simp; omega
            have hE := doR_endP (base := W.heap.size) (l := put3 (pi, px, py) p) H.out (Same.trans HsW0.out Hs7.out) Hb7.out (by omega) (by rw [e7, is3_append, is3_cons]; simpa using h7) (by omega) hl7 (.int .i64 2) (.int .i64 pi) (.int .i64 px) (.int .i64 py) (.int .i64 0) (.int .i64 0) (.int .i64 0)
            try simp only [Exit.inBlock, Exit.then]
            refine bodyPost_ret (results_cell2 rfl rfl hE.1 Tryz.underlying29 rfl (by kernel_rfl)) rfl ⟨rfl, A7, c7, hE.2.1, hE.2.2.1, hE.2.2.2⟩
          · go_simp
            refine hK _ _ (fun _ => HK.out _ (Chg.alloc (Chg.alloc (Chg.drew (Chg.refl _ _)) _) _)) ?_
            try simp only [puts]
            clear hK
            refine wpAnyZ_one (i := 8) (by kernel_rfl) (List.getElem?_toArray.trans rfl) (fun K' hK => ?_)
            refine step_appS (by rfl) (.tmp 81) (.tmp 87) _ (by rfl) slP (by rfl) (base := W.heap.size) (by exact (own_lit W.drew W.heap.size _ 3 #[] 0 (Nat.le_refl _) (by decide) rfl).alloc _) (by rfl) B.out.2.2.2.2.2.2.1 (by exact (Hrd1.out.alloc _).alloc _) (one_is3 _) B.out.1 B.out.2.1 (by simp; omega) ?_
            intro A5 c5 w5 hown5 hchg5 hat5
            have hcz : Same W w5 := ((Chg.alloc (Chg.alloc (Chg.drew (Chg.refl _ W)) _) _).trans hchg5 (by intro k hk h; simp [blkOf] at h; omega))
            have h91 : Rd w5 (some ⟨W.heap.size + 1, 0, none⟩) [Value.int .i64 pi, Value.int .i64 px, Value.int .i64 py] := by
              have h := (rd_new3 (W.drew.alloc (.cells #[] 25)) _ _ _ 25).chg (w' := w5) hchg5 (by intro b hb hlt h; simp [blkOf] at h hb; omega)
              simpa using h
            have H91 := hide h91
            have Hown5 := hide hown5
            have Hs5 := hide hcz
            clear hown5 hchg5 hat5 hcz h91
            refine hK _ _ (fun _ => HK.out _ Hs5.out) ?_
            try simp only [puts]
            clear hK
            refine wpAnyZ_one (i := 12) (by kernel_rfl) (List.getElem?_toArray.trans rfl) (fun K' hK => ?_)
            refine step_appS (by rfl) (.tmp 88) (.tmp 91) _ (by rfl) slP (by rfl) (base := W.heap.size) (by exact Hown5.out) (by rfl) (by rfl) (by exact H91.out) (show ∀ u ∈ [Value.int .i64 pi, Value.int .i64 px, Value.int .i64 py], u.oneCell' = true from one_is3 [(pi, px, py)]) (by omega) (by omega) (by exact Hs5.out.size) ?_
            intro A6 c6 w6 hown6 hchg6 hat6
            have hcz : Same W w6 := Hs5.out.app Hown5.out (Nat.le_refl _) hchg6
            have Hown6 := hide hown6
            have Hs6 := hide hcz
            clear hown6 hchg6 hat6 hcz
            refine hK _ _ (fun _ => HK.out _ Hs6.out) ?_
            try simp only [puts]
            clear hK
            refine wpAnyZ_one (i := 19) (by kernel_rfl) (List.getElem?_toArray.trans rfl) (fun K' hK => ?_)
            refine step_appS (by rfl) (.tmp 92) (.tmp 98) _ (by rfl) slP (by rfl) (base := W.heap.size) (by exact Hown6.out) (by rfl) B.out.2.2.2.2.2.2.2 (by exact Hrd2.out.same Hs6.out) (one_is3 _) (by omega) (by omega) (by exact Hs6.out.size) ?_
            intro A7 c7 w7 hown7 hchg7 hat7
            have hcz : Same W w7 := Hs6.out.app Hown6.out (Nat.le_refl _) hchg7
            have hg7 := (H.out.same (Same.trans HsW0.out hcz)).blk
            have hkg7 := hg7.cell
            have hzg7 := hg7.frozen
            have hkc7 := (HcW.out.same hcz).cell
            have hb7 := HbW.out.same hcz
            have hkb7 := hb7.cell
            have hzb7 := hb7.frozen
            have bb7 := hb7.lt
            have bc7 := (HcW.out.same hcz).lt
            have hS7 := HK.out _ hcz
            have Hown7 := hide hown7
            have Hs7 := hide hcz
            have Hb7 := hide hb7
            clear hown7 hchg7 hat7 hcz hg7 hb7
            refine hK _ _ (fun _ => hS7) ?_
            try simp only [puts]
            clear hK
            refine wpAnyZ_one (i := 20) (by kernel_rfl) (List.getElem?_toArray.trans rfl) (fun K' hK => ?_)
            go_simp
            refine hK _ _ (fun _ => hS7) ?_
            try simp only [puts]
            clear hK
            refine wpAnyZ_one (i := 21) (by kernel_rfl) (List.getElem?_toArray.trans rfl) (fun K' hK => ?_)
            go_simp
            refine hK _ _ (fun _ => hS7) ?_
            try simp only [puts]
            clear hK
            refine wpAnyZ_one (i := 22) (by kernel_rfl) (List.getElem?_toArray.trans rfl) (fun K' hK => ?_)
            go_simp
            refine hK _ _ (fun h => absurd rfl h) ?_
            try simp only [puts]
            clear hK hS7 hS0
            refine wpAnyZ_done (by kernel_rfl) (NoPanic.normal ?_) _
            have hlb := HbW.out.lt
            have hlg := H.out.blk.lt
            obtain ⟨w8, hw8⟩ : ∃ w8, w8 = w7.setCell ⟨g, 0, none⟩ (.slice A7 (i + 1 + (n - i)) c7) := ⟨_, rfl⟩
            have hb8 := Hb7.out.far (p := ⟨g, 0, none⟩) (by show ¬ w.heap.size + 1 = g; omega) (.slice A7 (i + 1 + (n - i)) c7)
            have hc8 := (HcW.out.same Hs7.out).far (p := ⟨g, 0, none⟩) (by show ¬ w.heap.size = g; omega) (.slice A7 (i + 1 + (n - i)) c7)
            rw [← hw8] at hb8 hc8 ⊢
            have hkb8 := hb8.cell
            have hzb8 := hb8.frozen
            have hkc8 := hc8.cell
            have Hw8 := hide hw8
            clear hw8 hb8 hc8 hkg7 hzg7 hkc7 hkb7 hzb7
            go_wp2_with fail
            have hw8 := Hw8.out
            subst hw8
            have h7 := Hown7.out
            try rw [Nat.zero_add] at h7
            have e7 : put3 (pi, px, py) p = p.take i ++ (pi, px, py) :: p.drop i := by rw [Hput.out, Hat.out]
            have hl7 : (put3 (pi, px, py) p).length = i + 1 + (n - i) := by rw [e7]; have := Hn.out; simp; omega
            have hE := doR_endP (base := W.heap.size) (l := put3 (pi, px, py) p) H.out (Same.trans HsW0.out Hs7.out) Hb7.out (by omega) (by rw [e7, is3_append, is3_cons]; simpa using h7) (by omega) hl7 (.int .i64 2) (.int .i64 pi) (.int .i64 px) (.int .i64 py) (.int .i64 0) (.int .i64 0) (.int .i64 0)
            try simp only [Exit.inBlock, Exit.then]
            refine bodyPost_ret (results_cell2 rfl rfl hE.1 Tryz.underlying29 rfl (by kernel_rfl)) rfl ⟨rfl, A7, c7, hE.2.1, hE.2.2.1, hE.2.2.2⟩
        · go_simp
          refine hK _ _ (fun _ => HK.out _ (Chg.alloc (Chg.drew (Chg.refl _ _)) _)) ?_
          try simp only [puts]
          clear hK
          refine wpAnyZ_one (i := 1) (by kernel_rfl) (List.getElem?_toArray.trans rfl) (fun K' hK => ?_)
          go_simp
          refine hK _ _ (fun _ => HK.out _ (Chg.alloc (Chg.alloc (Chg.drew (Chg.refl _ _)) _) _)) ?_
          try simp only [puts]
          clear hK
          refine wpAnyZ_one (i := 8) (by kernel_rfl) (List.getElem?_toArray.trans rfl) (fun K' hK => ?_)
          refine step_appS (by rfl) (.tmp 81) (.tmp 87) _ (by rfl) slP (by rfl) (base := W.heap.size) (by exact (by have h := own_lit (W.alloc (.cells #[Value.int .i64 pi, Value.int .i64 px, Value.int .i64 py] 25)) W.heap.size 25 3 #[] 0 (by simp) (by decide) rfl; rw [show (W.alloc (.cells #[Value.int .i64 pi, Value.int .i64 px, Value.int .i64 py] 25)).heap.size = W.heap.size + 1 by simp] at h; exact h)) (by rfl) B.out.2.2.2.2.2.2.1 (by exact (Hrd1.out.alloc _).alloc _) (one_is3 _) B.out.1 B.out.2.1 (by simp; omega) ?_
          intro A5 c5 w5 hown5 hchg5 hat5
          have hcz : Same W w5 := ((Chg.alloc (Chg.alloc (Chg.drew (Chg.refl _ W)) _) _).trans hchg5 (by intro k hk h; simp [blkOf] at h; omega))
          have h91 : Rd w5 (some ⟨W.heap.size, 0, none⟩) [Value.int .i64 pi, Value.int .i64 px, Value.int .i64 py] := ((rd_new3 W.drew _ _ _ 25).alloc _).chg hchg5 (by intro b hb hlt h; simp [blkOf] at h hb; omega)
          have H91 := hide h91
          have Hown5 := hide hown5
          have Hs5 := hide hcz
          clear hown5 hchg5 hat5 hcz h91
          refine hK _ _ (fun _ => HK.out _ Hs5.out) ?_
          try simp only [puts]
          clear hK
          refine wpAnyZ_one (i := 12) (by kernel_rfl) (List.getElem?_toArray.trans rfl) (fun K' hK => ?_)
          refine step_appS (by rfl) (.tmp 88) (.tmp 91) _ (by rfl) slP (by rfl) (base := W.heap.size) (by exact Hown5.out) (by rfl) (by rfl) (by exact H91.out) (show ∀ u ∈ [Value.int .i64 pi, Value.int .i64 px, Value.int .i64 py], u.oneCell' = true from one_is3 [(pi, px, py)]) (by omega) (by omega) (by exact Hs5.out.size) ?_
          intro A6 c6 w6 hown6 hchg6 hat6
          have hcz : Same W w6 := Hs5.out.app Hown5.out (Nat.le_refl _) hchg6
          have Hown6 := hide hown6
          have Hs6 := hide hcz
          clear hown6 hchg6 hat6 hcz
          refine hK _ _ (fun _ => HK.out _ Hs6.out) ?_
          try simp only [puts]
          clear hK
          refine wpAnyZ_one (i := 19) (by kernel_rfl) (List.getElem?_toArray.trans rfl) (fun K' hK => ?_)
          refine step_appS (by rfl) (.tmp 92) (.tmp 98) _ (by rfl) slP (by rfl) (base := W.heap.size) (by exact Hown6.out) (by rfl) B.out.2.2.2.2.2.2.2 (by exact Hrd2.out.same Hs6.out) (one_is3 _) (by omega) (by omega) (by exact Hs6.out.size) ?_
          intro A7 c7 w7 hown7 hchg7 hat7
          have hcz : Same W w7 := Hs6.out.app Hown6.out (Nat.le_refl _) hchg7
          have hg7 := (H.out.same (Same.trans HsW0.out hcz)).blk
          have hkg7 := hg7.cell
          have hzg7 := hg7.frozen
          have hkc7 := (HcW.out.same hcz).cell
          have hb7 := HbW.out.same hcz
          have hkb7 := hb7.cell
          have hzb7 := hb7.frozen
          have bb7 := hb7.lt
          have bc7 := (HcW.out.same hcz).lt
          have hS7 := HK.out _ hcz
          have Hown7 := hide hown7
          have Hs7 := hide hcz
          have Hb7 := hide hb7
          clear hown7 hchg7 hat7 hcz hg7 hb7
          refine hK _ _ (fun _ => hS7) ?_
          try simp only [puts]
          clear hK
          refine wpAnyZ_one (i := 20) (by kernel_rfl) (List.getElem?_toArray.trans rfl) (fun K' hK => ?_)
          go_simp
          refine hK _ _ (fun _ => hS7) ?_
          try simp only [puts]
          clear hK
          refine wpAnyZ_one (i := 21) (by kernel_rfl) (List.getElem?_toArray.trans rfl) (fun K' hK => ?_)
          go_simp
          refine hK _ _ (fun _ => hS7) ?_
          try simp only [puts]
          clear hK
          refine wpAnyZ_one (i := 22) (by kernel_rfl) (List.getElem?_toArray.trans rfl) (fun K' hK => ?_)
          go_simp
          refine hK _ _ (fun h => absurd rfl h) ?_
          try simp only [puts]
          clear hK hS7 hS0
          refine wpAnyZ_done (by kernel_rfl) (NoPanic.normal ?_) _
          have hlb := HbW.out.lt
          have hlg := H.out.blk.lt
          obtain ⟨w8, hw8⟩ : ∃ w8, w8 = w7.setCell ⟨g, 0, none⟩ (.slice A7 (i + 1 + (n - i)) c7) := ⟨_, rfl⟩
          have hb8 := Hb7.out.far (p := ⟨g, 0, none⟩) (by show ¬ w.heap.size + 1 = g; omega) (.slice A7 (i + 1 + (n - i)) c7)
          have hc8 := (HcW.out.same Hs7.out).far (p := ⟨g, 0, none⟩) (by show ¬ w.heap.size = g; omega) (.slice A7 (i + 1 + (n - i)) c7)
          rw [← hw8] at hb8 hc8 ⊢
          have hkb8 := hb8.cell
          have hzb8 := hb8.frozen
          have hkc8 := hc8.cell
          have Hw8 := hide hw8
          clear hw8 hb8 hc8 hkg7 hzg7 hkc7 hkb7 hzb7
          go_wp2_with fail
          have hw8 := Hw8.out
          subst hw8
          have h7 := Hown7.out
          try rw [Nat.zero_add] at h7
          have e7 : put3 (pi, px, py) p = p.take i ++ (pi, px, py) :: p.drop i := by rw [Hput.out, Hat.out]
          have hl7 : (put3 (pi, px, py) p).length = i + 1 + (n - i) := by rw [e7]; have := Hn.out; simp; omega
          have hE := doR_endP (base := W.heap.size) (l := put3 (pi, px, py) p) H.out (Same.trans HsW0.out Hs7.out) Hb7.out (by omega) (by rw [e7, is3_append, is3_cons]; simpa using h7) (by omega) hl7 (.int .i64 2) (.int .i64 pi) (.int .i64 px) (.int .i64 py) (.int .i64 0) (.int .i64 0) (.int .i64 0)
          try simp only [Exit.inBlock, Exit.then]
          refine bodyPost_ret (results_cell2 rfl rfl hE.1 Tryz.underlying29 rfl (by kernel_rfl)) rfl ⟨rfl, A7, c7, hE.2.1, hE.2.2.1, hE.2.2.2⟩
theorem doR_3 {g cp cs : Nat} {AP AS : Option Addr} {most : Int} {p s : List P3} (q x : P3) (w : World) (h : SetR w g AP cp AS cs most p s) (hp : p.length ≤ 65535) (hs : s.length ≤ 65535) (hm : mayE p s most ⟨3, q, x⟩ = 0) :
    Calls Tryz.prog 34 #[.pointer (some ⟨g, 0, none⟩), cgV ⟨3, q, x⟩] w fun e w' => e = .returned (.tuple #[cgV ⟨4, z3, x⟩, .int .i64 0]) ∧ DoneS w w' g AP cp most p (put3 x s) := by
  obtain ⟨_, hadd, hdrop, _⟩ := may_zero hm
  have HM := hide (fun w' (hs' : Same w w') => mayR_any ⟨3, q, x⟩ w' (h.same hs') (by omega) (by omega))
  rw [hm] at HM
  have hsm : Same w ((w.alloc (.cells (bx ⟨3, q, x⟩) 29)).alloc (.cells (bx ⟨0, z3, z3⟩) 29)) := ((Chg.refl _ w).alloc _).alloc _
  have hc := (Blk.new w 29 (bx ⟨3, q, x⟩)).alloc (.cells (bx ⟨0, z3, z3⟩) 29)
  have hb := Blk.new (w.alloc (.cells (bx ⟨3, q, x⟩) 29)) 29 (bx ⟨0, z3, z3⟩)
  rw [show (w.alloc (.cells (bx ⟨3, q, x⟩) 29)).heap.size = w.heap.size + 1 by simp] at hb
  have H := hide h
  have Hs := hide hsm
  have Hb := hide hb
  have Hc := hide hc
  clear hsm h hb hc hm
  have hno : hasK s x.1 = false := (hadd rfl).1
  obtain ⟨pi, px, py⟩ := q
  obtain ⟨si, lo, hi⟩ := x
  have Hput : Hid (put3 (si, lo, hi) s = s.take (low3 si s) ++ (si, lo, hi) :: s.drop (low3 si s)) := hide (by rw [put3, del3_none hno]; exact ins3_low hno)
  have Hlow : Hid (∀ i, i ≤ s.length → (∀ j (hj : j < s.length), j < i → s[j].1 < si) → (∀ h : i < s.length, ¬ s[i].1 < si) → low3 si s = i) := hide fun i h1 h2 h3 => low3_is h1 (fun j hj => h2 j (by omega) hj) h3
  have Hl3 := hide (low3_le si s)
  have HR := hide H.out.rs
  obtain ⟨n, hnn⟩ : ∃ n, n = s.length := ⟨_, rfl⟩
  have Hn := hide hnn
  have hn6 : n ≤ 65535 := by omega
  have Hkt : Hid (∀ w', Same w w' → w'.cell? ⟨g, 1, none⟩ = some (.slice AS n cs)) := hide fun w' h => by have := (H.out.same h).blk.cell 1; rw [hnn]; exact this
  clear hadd hdrop hno hnn hp hs
  unfold cgV bx z3 at *
  go_enter Tryz.func34, Tryz.ntmps34
  go_wp2_with (go_at_call 58; refine (HM.out _ Hs.out).mono ?_; rintro e w1 ⟨rfl, hs1⟩; have hk1 := (Hc.out.same hs1).cell; have bb1 := (Hb.out.same hs1).lt; have Hs1 := hide (Same.trans Hs.out hs1); have Hc1 := hide (Hc.out.same hs1); have Hb1 := hide (Hb.out.same hs1); clear hs1)
  have Hk1 : Hid (∀ w', Same w1 w' → Blk w' w.heap.size 29 #[.int .i64 3, .int .i64 pi, .int .i64 px, .int .i64 py, .int .i64 si, .int .i64 lo, .int .i64 hi]) := hide fun w' h => Hc1.out.same h
  go_loopg [10] n (fun m vi wr => ∃ i : Nat, i ≤ n ∧ m = n - i ∧ vi = .int .i64 i ∧ Same w1 wr ∧ ∀ j (hj : j < s.length), j < i → s[j].1 < si)
  case atStart => exact ⟨0, Nat.zero_le _, rfl, rfl, Chg.refl _ _, fun j _ h => by omega⟩
  case round =>
    obtain ⟨i, hi', hkk, rfl, hsm, hbel⟩ := hrel
    have Hk := hide hkk
    have Hbel := hide hbel
    have Hsm := hide hsm
    have hkt := Hkt.out _ (Same.trans Hs1.out hsm)
    have hkc := (Hk1.out _ hsm).cell
    clear hkk hbel hk1
    by_cases hstep : ∃ h : i < s.length, s[i].1 < si
    · obtain ⟨hil, hx⟩ := hstep
      have hlt : i < n := by rw [Hn.out]; exact hil
      obtain ⟨b, off, rfl, hbl, hce, _, _⟩ := (HR.out.same (Same.trans Hs1.out hsm)).at_ hil
      have Hb2 : Hid (∀ j (hj : j < s.length), j < i + 1 → s[j].1 < si) := hide fun j hj hj1 => by
        rcases Nat.lt_or_ge j i with h | h
        · exact Hbel.out j hj h
        · have : j = i := by omega
          subst this
          exact hx
      generalize s[i].1 = e0 at *
      clear hsm
      go_wp2_with fail
      go_quiet (fail)
      go_wp2_with fail
      go_roundg (n - (i + 1))
      case measure => have := Hk.out; omega
      case rel => exact ⟨i + 1, by omega, rfl, by go_num, Same.trans Hsm.out (Same.of_drewN _ _), Hb2.out⟩
    · have hat := Hlow.out i (by rw [← Hn.out]; exact hi') Hbel.out (fun h => by have hq : ¬ s[i].1 < si := fun hx => hstep ⟨h, hx⟩; omega)
      have Hat := hide hat
      have Hstep := hide hstep
      clear hat hstep
      by_cases hlt : i < n
      · have hil : i < s.length := by rw [← Hn.out]; exact hlt
        obtain ⟨b, off, rfl, hbl, hce, _, _⟩ := (HR.out.same (Same.trans Hs1.out hsm)).at_ hil
        have hx : ¬ s[i].1 < si := fun h => Hstep.out ⟨hil, h⟩
        generalize s[i].1 = e0 at *
        go_wp2_with fail
        go_quiet (fail)
        have hsW : Same w1 (wr.drewN nq) := Same.trans Hsm.out (Same.of_drewN _ _)
        generalize wr.drewN nq = W at *
        have HsW := hide hsW
        have HsW0 := hide (Same.trans Hs1.out hsW)
        have hbW := Hb1.out.same hsW
        have HbW := hide hbW
        have HcW := hide (Hc1.out.same hsW)
        have HK : Hid (∀ w', Same W w' → w'.cell? ⟨g, 1, none⟩ = some (.slice (some ⟨b, off, none⟩) n cs) ∧ w'.cell? ⟨w.heap.size, 4, none⟩ = some (.int .i64 si) ∧ w'.cell? ⟨w.heap.size, 5, none⟩ = some (.int .i64 lo) ∧ w'.cell? ⟨w.heap.size, 6, none⟩ = some (.int .i64 hi)) := hide fun w' h => have hk := ((HcW.out).same h).cell; ⟨Hkt.out _ (Same.trans HsW0.out h), hk 4, hk 5, hk 6⟩
        have hR := HR.out.same HsW0.out
        have HRW := hide hR
        have hcn := hR.2.2.1
        have hcm := hR.2.2.2.1
        unfold maxLen at hcm
        have H1 := cut_hi slS (some ⟨b, off, none⟩) n cs .i64 (i : Int) i rfl (by rw [← Hn.out] at hcn; omega)
        obtain ⟨A2, H2, hrd2, hbk2⟩ := cut_lo (n := n) slS hR.1 (by rw [is3_len, Hn.out]) (by rw [Hn.out]; exact hcn) .i64 (i : Int) i rfl hi'
        have Hrd1 : Hid (Rd W (some ⟨b, off, none⟩) (is3 (s.take i))) := hide (by have := hR.1.take (i * 3); rw [is3_take] at this; exact this)
        have Hrd2 : Hid (Rd W A2 (is3 (s.drop i))) := hide (by rw [is3_drop] at hrd2; exact hrd2)
        have b1 : (0 + i) * 24 ≤ 140737488355328 := by omega
        have b2 : 0 + i ≤ 140737488355328 := by omega
        have b3 : (0 + i + 1) * 24 ≤ 140737488355328 := by omega
        have b4 : 0 + i + 1 ≤ 140737488355328 := by omega
        have b5 : (0 + i + 1 + (n - i)) * 24 ≤ 140737488355328 := by omega
        have b6 : 0 + i + 1 + (n - i) ≤ 140737488355328 := by omega
        have b7 : (is3 (s.take i)).length = i * 3 := by rw [is3_len, List.length_take]; have := Hn.out; congr 1; omega
        have b8 : (is3 (s.drop i)).length = (n - i) * 3 := by rw [is3_len, List.length_drop, Hn.out]
        have B := hide (And.intro b1 (And.intro b2 (And.intro b3 (And.intro b4 (And.intro b5 (And.intro b6 (And.intro b7 b8)))))))
        have Hbg := hide (H.out.same HsW0.out).blk.lt
        clear hsW hbW hR hcn hcm hrd2 hbk2 b1 b2 b3 b4 b5 b6 b7 b8 hkt hkc hsm
        go_wp2_with fail
        refine wp_region_heldZ (fun w' => w'.cell? ⟨g, 1, none⟩ = some (.slice (some ⟨b, off, none⟩) n cs) ∧ w'.cell? ⟨w.heap.size, 4, none⟩ = some (.int .i64 si) ∧ w'.cell? ⟨w.heap.size, 5, none⟩ = some (.int .i64 lo) ∧ w'.cell? ⟨w.heap.size, 6, none⟩ = some (.int .i64 hi)) 22 (by kernel_rfl) ?_
        have hS0 := HK.out W.drew (Chg.drew (Chg.refl _ _))
        refine wpAnyZ_take (i := 0) (v := ?_) (List.getElem?_toArray.trans rfl) (by kernel_rfl) (by kernel_rfl) (by kernel_rfl) (by kernel_rfl) (fun _ _ _ h => h) (Or.inl ⟨by rfl, ?_⟩) hS0 ?_; rotate_left; · intro w hSw; (try dsimp only at hSw); go_simp; (try with_reducible rfl)
        try simp only [puts]
        refine wpAnyZ_take (i := 2) (v := ?_) (List.getElem?_toArray.trans rfl) (by kernel_rfl) (by kernel_rfl) (by kernel_rfl) (by kernel_rfl) (fun _ _ _ h => h) (Or.inl ⟨by rfl, ?_⟩) hS0 ?_; rotate_left; · intro w hSw; (try dsimp only at hSw); go_simp; (try with_reducible rfl)
        try simp only [puts]
        refine wpAnyZ_take (i := 3) (v := ?_) (List.getElem?_toArray.trans rfl) (by kernel_rfl) (by kernel_rfl) (by kernel_rfl) (by kernel_rfl) (fun _ _ _ h => h) (Or.inl ⟨by rfl, ?_⟩) hS0 ?_; rotate_left; · intro w hSw; (try dsimp only at hSw); go_simp; (try with_reducible rfl)
        try simp only [puts]
        refine wpAnyZ_take (i := 4) (v := ?_) (List.getElem?_toArray.trans rfl) (by kernel_rfl) (by kernel_rfl) (by kernel_rfl) (by kernel_rfl) (fun _ _ _ h => h) (Or.inl ⟨by rfl, ?_⟩) hS0 ?_; rotate_left; · intro w hSw; (try dsimp only at hSw); go_simp; (try with_reducible rfl)
        try simp only [puts]
        refine wpAnyZ_take (i := 5) (v := ?_) (List.getElem?_toArray.trans rfl) (by kernel_rfl) (by kernel_rfl) (by kernel_rfl) (by kernel_rfl) (fun _ _ _ h => h) (Or.inl ⟨by rfl, ?_⟩) hS0 ?_; rotate_left; · intro w hSw; (try dsimp only at hSw); go_simp; (try with_reducible rfl)
        try simp only [puts]
        refine wpAnyZ_take (i := 6) (v := ?_) (List.getElem?_toArray.trans rfl) (by kernel_rfl) (by kernel_rfl) (by kernel_rfl) (by kernel_rfl) (fun _ _ _ h => h) (Or.inl ⟨by rfl, ?_⟩) hS0 ?_; rotate_left; · intro w hSw; (try dsimp only at hSw); go_simp; (try with_reducible rfl)
        try simp only [puts]
        refine wpAnyZ_take (i := 7) (v := ?_) (List.getElem?_toArray.trans rfl) (by kernel_rfl) (by kernel_rfl) (by kernel_rfl) (by kernel_rfl) (fun _ _ _ h => h) (Or.inl ⟨by rfl, ?_⟩) hS0 ?_; rotate_left; · intro w hSw; (try dsimp only at hSw); go_simp; (try with_reducible rfl)
        try simp only [puts]
        refine wpAnyZ_take (i := 9) (v := ?_) (List.getElem?_toArray.trans rfl) (by kernel_rfl) (by kernel_rfl) (by kernel_rfl) (by kernel_rfl) (fun _ _ _ h => h) (Or.inl ⟨by rfl, ?_⟩) hS0 ?_; rotate_left; · intro w hSw; (try dsimp only at hSw); go_simp; (try with_reducible rfl)
        try simp only [puts]
        refine wpAnyZ_take (i := 10) (v := ?_) (List.getElem?_toArray.trans rfl) (by kernel_rfl) (by kernel_rfl) (by kernel_rfl) (by kernel_rfl) (fun _ _ _ h => h) (Or.inl ⟨by rfl, ?_⟩) hS0 ?_; rotate_left; · intro w hSw; (try dsimp only at hSw); go_simp; (try with_reducible rfl)
        try simp only [puts]
        refine wpAnyZ_take (i := 13) (v := ?_) (List.getElem?_toArray.trans rfl) (by kernel_rfl) (by kernel_rfl) (by kernel_rfl) (by kernel_rfl) (fun _ _ _ h => h) (Or.inl ⟨by rfl, ?_⟩) hS0 ?_; rotate_left; · intro w hSw; (try dsimp only at hSw); go_simp; (try with_reducible rfl)
        try simp only [puts]
        refine wpAnyZ_take (i := 14) (v := ?_) (List.getElem?_toArray.trans rfl) (by kernel_rfl) (by kernel_rfl) (by kernel_rfl) (by kernel_rfl) (fun _ _ _ h => h) (Or.inl ⟨by rfl, ?_⟩) hS0 ?_; rotate_left; · intro w hSw; (try dsimp only at hSw); go_simp; (try with_reducible rfl)
        try simp only [puts]
        refine wpAnyZ_take (i := 15) (v := ?_) (List.getElem?_toArray.trans rfl) (by kernel_rfl) (by kernel_rfl) (by kernel_rfl) (by kernel_rfl) (fun _ _ _ h => h) (Or.inl ⟨by rfl, ?_⟩) hS0 ?_; rotate_left; · intro w hSw; (try dsimp only at hSw); go_simp; (try with_reducible rfl)
        try simp only [puts]
        refine wpAnyZ_take (i := 16) (v := ?_) (List.getElem?_toArray.trans rfl) (by kernel_rfl) (by kernel_rfl) (by kernel_rfl) (by kernel_rfl) (fun _ _ _ h => h) (Or.inl ⟨by rfl, ?_⟩) hS0 ?_; rotate_left; · intro w hSw; (try dsimp only at hSw); go_simp; (try with_reducible rfl)
        try simp only [puts]
        refine wpAnyZ_take (i := 17) (v := ?_) (List.getElem?_toArray.trans rfl) (by kernel_rfl) (by kernel_rfl) (by kernel_rfl) (by kernel_rfl) (fun _ _ _ h => h) (Or.inl ⟨by rfl, ?_⟩) hS0 ?_; rotate_left; · intro w hSw; (try dsimp only at hSw); go_simp; (try with_reducible rfl)
        try simp only [puts]
        refine wpAnyZ_take (i := 18) (v := ?_) (List.getElem?_toArray.trans rfl) (by kernel_rfl) (by kernel_rfl) (by kernel_rfl) (by kernel_rfl) (fun _ _ _ h => h) (Or.inl ⟨by rfl, ?_⟩) hS0 ?_; rotate_left; · intro w hSw; (try dsimp only at hSw); go_simp; (try with_reducible rfl)
        try simp only [puts]
        refine wpAnyZ_two (i := 1) (j := 11) (by kernel_rfl) (List.getElem?_toArray.trans rfl) (List.getElem?_toArray.trans rfl) (fun K' hK => ?_) (fun K' hK => ?_)
        · go_simp
          refine hK _ _ (fun _ => HK.out _ (Chg.alloc (Chg.drew (Chg.refl _ _)) _)) ?_
          try simp only [puts]
          clear hK
          refine wpAnyZ_two (i := 8) (j := 11) (by kernel_rfl) (List.getElem?_toArray.trans rfl) (List.getElem?_toArray.trans rfl) (fun K' hK => ?_) (fun K' hK => ?_)
          · refine step_appS (by rfl) (.tmp 166) (.tmp 172) _ (by rfl) slS (by rfl) (base := W.heap.size) (by exact own_lit W.drew W.heap.size _ 3 #[] 0 (Nat.le_refl _) (by decide) rfl) (by rfl) B.out.2.2.2.2.2.2.1 (by exact Hrd1.out.alloc _) (one_is3 _) B.out.1 B.out.2.1 (by simp) ?_
            intro A5 c5 w5 hown5 hchg5 hat5
            have hcz : Same W w5 := ((Chg.alloc (Chg.drew (Chg.refl _ W)) _).trans hchg5 (by intro k hk h; simp [blkOf] at h; omega))
            rw [Nat.zero_add] at hown5
            have Hown5 := hide hown5
            have Hs5 := hide hcz
            clear hown5 hchg5 hat5 hcz
            refine hK _ _ (fun _ => HK.out _ Hs5.out) ?_
            try simp only [puts]
            clear hK
            refine wpAnyZ_one (i := 11) (by kernel_rfl) (List.getElem?_toArray.trans rfl) (fun K' hK => ?_)
            go_simp
            refine hK _ _ (fun _ => HK.out _ (Chg.alloc Hs5.out _)) ?_
            try simp only [puts]
            clear hK
            refine wpAnyZ_one (i := 12) (by kernel_rfl) (List.getElem?_toArray.trans rfl) (fun K' hK => ?_)
            refine step_appS (by rfl) (.tmp 173) (.tmp 176) _ (by rfl) slS (by rfl) (base := W.heap.size) (by exact Hown5.out.alloc _) (by rfl) (by rfl) (by exact rd_new3 w5 _ _ _ _) (show ∀ u ∈ [Value.int .i64 si, Value.int .i64 lo, Value.int .i64 hi], u.oneCell' = true from one_is3 [(si, lo, hi)]) (by omega) (by omega) (by have := Hs5.out.size; simp; omega) ?_
            intro A6 c6 w6 hown6 hchg6 hat6
            have hcz : Same W w6 := Hs5.out.app1 Hown5.out (Nat.le_refl _) hchg6
            have Hown6 := hide hown6
            have Hs6 := hide hcz
            clear hown6 hchg6 hat6 hcz
            refine hK _ _ (fun _ => HK.out _ Hs6.out) ?_
            try simp only [puts]
            clear hK
            refine wpAnyZ_one (i := 19) (by kernel_rfl) (List.getElem?_toArray.trans rfl) (fun K' hK => ?_)
            refine step_appS (by rfl) (.tmp 177) (.tmp 183) _ (by rfl) slS (by rfl) (base := W.heap.size) (by exact Hown6.out) (by rfl) B.out.2.2.2.2.2.2.2 (by exact Hrd2.out.same Hs6.out) (one_is3 _) (by omega) (by omega) (by exact Hs6.out.size) ?_
            intro A7 c7 w7 hown7 hchg7 hat7
            have hcz : Same W w7 := Hs6.out.app Hown6.out (Nat.le_refl _) hchg7
            have hg7 := (H.out.same (Same.trans HsW0.out hcz)).blk
            have hkg7 := hg7.cell
            have hzg7 := hg7.frozen
            have hkc7 := (HcW.out.same hcz).cell
            have hb7 := HbW.out.same hcz
            have hkb7 := hb7.cell
            have hzb7 := hb7.frozen
            have bb7 := hb7.lt
            have bc7 := (HcW.out.same hcz).lt
            have hS7 := HK.out _ hcz
            have Hown7 := hide hown7
            have Hs7 := hide hcz
            have Hb7 := hide hb7
            clear hown7 hchg7 hat7 hcz hg7 hb7
            refine hK _ _ (fun _ => hS7) ?_
            try simp only [puts]
            clear hK
            refine wpAnyZ_one (i := 20) (by kernel_rfl) (List.getElem?_toArray.trans rfl) (fun K' hK => ?_)
            go_simp
            refine hK _ _ (fun _ => hS7) ?_
            try simp only [puts]
            clear hK
            refine wpAnyZ_one (i := 21) (by kernel_rfl) (List.getElem?_toArray.trans rfl) (fun K' hK => ?_)
            go_simp
            refine hK _ _ (fun _ => hS7) ?_
            try simp only [puts]
            clear hK
            refine wpAnyZ_one (i := 22) (by kernel_rfl) (List.getElem?_toArray.trans rfl) (fun K' hK => ?_)
            go_simp
            refine hK _ _ (fun h => absurd rfl h) ?_
            try simp only [puts]
            clear hK hS7 hS0
            refine wpAnyZ_done (by kernel_rfl) (NoPanic.normal ?_) _
            have hlb := HbW.out.lt
            have hlg := H.out.blk.lt
            obtain ⟨w8, hw8⟩ : ∃ w8, w8 = w7.setCell ⟨g, 1, none⟩ (.slice A7 (i + 1 + (n - i)) c7) := ⟨_, rfl⟩
            have hb8 := Hb7.out.far (p := ⟨g, 1, none⟩) (by show ¬ w.heap.size + 1 = g; omega) (.slice A7 (i + 1 + (n - i)) c7)
            have hc8 := (HcW.out.same Hs7.out).far (p := ⟨g, 1, none⟩) (by show ¬ w.heap.size = g; omega) (.slice A7 (i + 1 + (n - i)) c7)
            rw [← hw8] at hb8 hc8 ⊢
            have hkb8 := hb8.cell
            have hzb8 := hb8.frozen
            have hkc8 := hc8.cell
            have Hw8 := hide hw8
            clear hw8 hb8 hc8 hkg7 hzg7 hkc7 hkb7 hzb7
            go_wp2_with fail
            have hw8 := Hw8.out
            subst hw8
            have h7 := Hown7.out
            try rw [Nat.zero_add] at h7
            have e7 : put3 (si, lo, hi) s = s.take i ++ (si, lo, hi) :: s.drop i := by rw [Hput.out, Hat.out]
            have hl7 : (put3 (si, lo, hi) s).length = i + 1 + (n - i) := by rw [e7]; have := Hn.out; simp; omega
            have hE := doR_endS (base := W.heap.size) (l := put3 (si, lo, hi) s) H.out (Same.trans HsW0.out Hs7.out) Hb7.out (by omega) (by rw [e7, is3_append, is3_cons]; simpa using h7) (by omega) hl7 (.int .i64 4) (.int .i64 0) (.int .i64 0) (.int .i64 0) (.int .i64 si) (.int .i64 lo) (.int .i64 hi)
            try simp only [Exit.inBlock, Exit.then]
            refine bodyPost_ret (results_cell2 rfl rfl hE.1 Tryz.underlying29 rfl (by kernel_rfl)) rfl ⟨rfl, A7, c7, hE.2.1, hE.2.2.1, hE.2.2.2⟩
          · go_simp
            refine hK _ _ (fun _ => HK.out _ (Chg.alloc (Chg.alloc (Chg.drew (Chg.refl _ _)) _) _)) ?_
            try simp only [puts]
            clear hK
            refine wpAnyZ_one (i := 8) (by kernel_rfl) (List.getElem?_toArray.trans rfl) (fun K' hK => ?_)
            refine step_appS (by rfl) (.tmp 166) (.tmp 172) _ (by rfl) slS (by rfl) (base := W.heap.size) (by exact (own_lit W.drew W.heap.size _ 3 #[] 0 (Nat.le_refl _) (by decide) rfl).alloc _) (by rfl) B.out.2.2.2.2.2.2.1 (by exact (Hrd1.out.alloc _).alloc _) (one_is3 _) B.out.1 B.out.2.1 (by simp; omega) ?_
            intro A5 c5 w5 hown5 hchg5 hat5
            have hcz : Same W w5 := ((Chg.alloc (Chg.alloc (Chg.drew (Chg.refl _ W)) _) _).trans hchg5 (by intro k hk h; simp [blkOf] at h; omega))
            have h91 : Rd w5 (some ⟨W.heap.size + 1, 0, none⟩) [Value.int .i64 si, Value.int .i64 lo, Value.int .i64 hi] := by
              have h := (rd_new3 (W.drew.alloc (.cells #[] 27)) _ _ _ 27).chg (w' := w5) hchg5 (by intro b hb hlt h; simp [blkOf] at h hb; omega)
              simpa using h
            have H91 := hide h91
            have Hown5 := hide hown5
            have Hs5 := hide hcz
            clear hown5 hchg5 hat5 hcz h91
            refine hK _ _ (fun _ => HK.out _ Hs5.out) ?_
            try simp only [puts]
            clear hK
            refine wpAnyZ_one (i := 12) (by kernel_rfl) (List.getElem?_toArray.trans rfl) (fun K' hK => ?_)
            refine step_appS (by rfl) (.tmp 173) (.tmp 176) _ (by rfl) slS (by rfl) (base := W.heap.size) (by exact Hown5.out) (by rfl) (by rfl) (by exact H91.out) (show ∀ u ∈ [Value.int .i64 si, Value.int .i64 lo, Value.int .i64 hi], u.oneCell' = true from one_is3 [(si, lo, hi)]) (by omega) (by omega) (by exact Hs5.out.size) ?_
            intro A6 c6 w6 hown6 hchg6 hat6
            have hcz : Same W w6 := Hs5.out.app Hown5.out (Nat.le_refl _) hchg6
            have Hown6 := hide hown6
            have Hs6 := hide hcz
            clear hown6 hchg6 hat6 hcz
            refine hK _ _ (fun _ => HK.out _ Hs6.out) ?_
            try simp only [puts]
            clear hK
            refine wpAnyZ_one (i := 19) (by kernel_rfl) (List.getElem?_toArray.trans rfl) (fun K' hK => ?_)
            refine step_appS (by rfl) (.tmp 177) (.tmp 183) _ (by rfl) slS (by rfl) (base := W.heap.size) (by exact Hown6.out) (by rfl) B.out.2.2.2.2.2.2.2 (by exact Hrd2.out.same Hs6.out) (one_is3 _) (by omega) (by omega) (by exact Hs6.out.size) ?_
            intro A7 c7 w7 hown7 hchg7 hat7
            have hcz : Same W w7 := Hs6.out.app Hown6.out (Nat.le_refl _) hchg7
            have hg7 := (H.out.same (Same.trans HsW0.out hcz)).blk
            have hkg7 := hg7.cell
            have hzg7 := hg7.frozen
            have hkc7 := (HcW.out.same hcz).cell
            have hb7 := HbW.out.same hcz
            have hkb7 := hb7.cell
            have hzb7 := hb7.frozen
            have bb7 := hb7.lt
            have bc7 := (HcW.out.same hcz).lt
            have hS7 := HK.out _ hcz
            have Hown7 := hide hown7
            have Hs7 := hide hcz
            have Hb7 := hide hb7
            clear hown7 hchg7 hat7 hcz hg7 hb7
            refine hK _ _ (fun _ => hS7) ?_
            try simp only [puts]
            clear hK
            refine wpAnyZ_one (i := 20) (by kernel_rfl) (List.getElem?_toArray.trans rfl) (fun K' hK => ?_)
            go_simp
            refine hK _ _ (fun _ => hS7) ?_
            try simp only [puts]
            clear hK
            refine wpAnyZ_one (i := 21) (by kernel_rfl) (List.getElem?_toArray.trans rfl) (fun K' hK => ?_)
            go_simp
            refine hK _ _ (fun _ => hS7) ?_
            try simp only [puts]
            clear hK
            refine wpAnyZ_one (i := 22) (by kernel_rfl) (List.getElem?_toArray.trans rfl) (fun K' hK => ?_)
            go_simp
            refine hK _ _ (fun h => absurd rfl h) ?_
            try simp only [puts]
            clear hK hS7 hS0
            refine wpAnyZ_done (by kernel_rfl) (NoPanic.normal ?_) _
            have hlb := HbW.out.lt
            have hlg := H.out.blk.lt
            obtain ⟨w8, hw8⟩ : ∃ w8, w8 = w7.setCell ⟨g, 1, none⟩ (.slice A7 (i + 1 + (n - i)) c7) := ⟨_, rfl⟩
            have hb8 := Hb7.out.far (p := ⟨g, 1, none⟩) (by show ¬ w.heap.size + 1 = g; omega) (.slice A7 (i + 1 + (n - i)) c7)
            have hc8 := (HcW.out.same Hs7.out).far (p := ⟨g, 1, none⟩) (by show ¬ w.heap.size = g; omega) (.slice A7 (i + 1 + (n - i)) c7)
            rw [← hw8] at hb8 hc8 ⊢
            have hkb8 := hb8.cell
            have hzb8 := hb8.frozen
            have hkc8 := hc8.cell
            have Hw8 := hide hw8
            clear hw8 hb8 hc8 hkg7 hzg7 hkc7 hkb7 hzb7
            go_wp2_with fail
            have hw8 := Hw8.out
            subst hw8
            have h7 := Hown7.out
            try rw [Nat.zero_add] at h7
            have e7 : put3 (si, lo, hi) s = s.take i ++ (si, lo, hi) :: s.drop i := by rw [Hput.out, Hat.out]
            have hl7 : (put3 (si, lo, hi) s).length = i + 1 + (n - i) := by rw [e7]; have := Hn.out; simp; omega
            have hE := doR_endS (base := W.heap.size) (l := put3 (si, lo, hi) s) H.out (Same.trans HsW0.out Hs7.out) Hb7.out (by omega) (by rw [e7, is3_append, is3_cons]; simpa using h7) (by omega) hl7 (.int .i64 4) (.int .i64 0) (.int .i64 0) (.int .i64 0) (.int .i64 si) (.int .i64 lo) (.int .i64 hi)
            try simp only [Exit.inBlock, Exit.then]
            refine bodyPost_ret (results_cell2 rfl rfl hE.1 Tryz.underlying29 rfl (by kernel_rfl)) rfl ⟨rfl, A7, c7, hE.2.1, hE.2.2.1, hE.2.2.2⟩
        · go_simp
          refine hK _ _ (fun _ => HK.out _ (Chg.alloc (Chg.drew (Chg.refl _ _)) _)) ?_
          try simp only [puts]
          clear hK
          refine wpAnyZ_one (i := 1) (by kernel_rfl) (List.getElem?_toArray.trans rfl) (fun K' hK => ?_)
          go_simp
          refine hK _ _ (fun _ => HK.out _ (Chg.alloc (Chg.alloc (Chg.drew (Chg.refl _ _)) _) _)) ?_
          try simp only [puts]
          clear hK
          refine wpAnyZ_one (i := 8) (by kernel_rfl) (List.getElem?_toArray.trans rfl) (fun K' hK => ?_)
          refine step_appS (by rfl) (.tmp 166) (.tmp 172) _ (by rfl) slS (by rfl) (base := W.heap.size) (by exact (by have h := own_lit (W.alloc (.cells #[Value.int .i64 si, Value.int .i64 lo, Value.int .i64 hi] 27)) W.heap.size 27 3 #[] 0 (by simp) (by decide) rfl; rw [show (W.alloc (.cells #[Value.int .i64 si, Value.int .i64 lo, Value.int .i64 hi] 27)).heap.size = W.heap.size + 1 by simp] at h; exact h)) (by rfl) B.out.2.2.2.2.2.2.1 (by exact (Hrd1.out.alloc _).alloc _) (one_is3 _) B.out.1 B.out.2.1 (by simp; omega) ?_
          intro A5 c5 w5 hown5 hchg5 hat5
          have hcz : Same W w5 := ((Chg.alloc (Chg.alloc (Chg.drew (Chg.refl _ W)) _) _).trans hchg5 (by intro k hk h; simp [blkOf] at h; omega))
          have h91 : Rd w5 (some ⟨W.heap.size, 0, none⟩) [Value.int .i64 si, Value.int .i64 lo, Value.int .i64 hi] := ((rd_new3 W.drew _ _ _ 27).alloc _).chg hchg5 (by intro b hb hlt h; simp [blkOf] at h hb; omega)
          have H91 := hide h91
          have Hown5 := hide hown5
          have Hs5 := hide hcz
          clear hown5 hchg5 hat5 hcz h91
          refine hK _ _ (fun _ => HK.out _ Hs5.out) ?_
          try simp only [puts]
          clear hK
          refine wpAnyZ_one (i := 12) (by kernel_rfl) (List.getElem?_toArray.trans rfl) (fun K' hK => ?_)
          refine step_appS (by rfl) (.tmp 173) (.tmp 176) _ (by rfl) slS (by rfl) (base := W.heap.size) (by exact Hown5.out) (by rfl) (by rfl) (by exact H91.out) (show ∀ u ∈ [Value.int .i64 si, Value.int .i64 lo, Value.int .i64 hi], u.oneCell' = true from one_is3 [(si, lo, hi)]) (by omega) (by omega) (by exact Hs5.out.size) ?_
          intro A6 c6 w6 hown6 hchg6 hat6
          have hcz : Same W w6 := Hs5.out.app Hown5.out (Nat.le_refl _) hchg6
          have Hown6 := hide hown6
          have Hs6 := hide hcz
          clear hown6 hchg6 hat6 hcz
          refine hK _ _ (fun _ => HK.out _ Hs6.out) ?_
          try simp only [puts]
          clear hK
          refine wpAnyZ_one (i := 19) (by kernel_rfl) (List.getElem?_toArray.trans rfl) (fun K' hK => ?_)
          refine step_appS (by rfl) (.tmp 177) (.tmp 183) _ (by rfl) slS (by rfl) (base := W.heap.size) (by exact Hown6.out) (by rfl) B.out.2.2.2.2.2.2.2 (by exact Hrd2.out.same Hs6.out) (one_is3 _) (by omega) (by omega) (by exact Hs6.out.size) ?_
          intro A7 c7 w7 hown7 hchg7 hat7
          have hcz : Same W w7 := Hs6.out.app Hown6.out (Nat.le_refl _) hchg7
          have hg7 := (H.out.same (Same.trans HsW0.out hcz)).blk
          have hkg7 := hg7.cell
          have hzg7 := hg7.frozen
          have hkc7 := (HcW.out.same hcz).cell
          have hb7 := HbW.out.same hcz
          have hkb7 := hb7.cell
          have hzb7 := hb7.frozen
          have bb7 := hb7.lt
          have bc7 := (HcW.out.same hcz).lt
          have hS7 := HK.out _ hcz
          have Hown7 := hide hown7
          have Hs7 := hide hcz
          have Hb7 := hide hb7
          clear hown7 hchg7 hat7 hcz hg7 hb7
          refine hK _ _ (fun _ => hS7) ?_
          try simp only [puts]
          clear hK
          refine wpAnyZ_one (i := 20) (by kernel_rfl) (List.getElem?_toArray.trans rfl) (fun K' hK => ?_)
          go_simp
          refine hK _ _ (fun _ => hS7) ?_
          try simp only [puts]
          clear hK
          refine wpAnyZ_one (i := 21) (by kernel_rfl) (List.getElem?_toArray.trans rfl) (fun K' hK => ?_)
          go_simp
          refine hK _ _ (fun _ => hS7) ?_
          try simp only [puts]
          clear hK
          refine wpAnyZ_one (i := 22) (by kernel_rfl) (List.getElem?_toArray.trans rfl) (fun K' hK => ?_)
          go_simp
          refine hK _ _ (fun h => absurd rfl h) ?_
          try simp only [puts]
          clear hK hS7 hS0
          refine wpAnyZ_done (by kernel_rfl) (NoPanic.normal ?_) _
          have hlb := HbW.out.lt
          have hlg := H.out.blk.lt
          obtain ⟨w8, hw8⟩ : ∃ w8, w8 = w7.setCell ⟨g, 1, none⟩ (.slice A7 (i + 1 + (n - i)) c7) := ⟨_, rfl⟩
          have hb8 := Hb7.out.far (p := ⟨g, 1, none⟩) (by show ¬ w.heap.size + 1 = g; omega) (.slice A7 (i + 1 + (n - i)) c7)
          have hc8 := (HcW.out.same Hs7.out).far (p := ⟨g, 1, none⟩) (by show ¬ w.heap.size = g; omega) (.slice A7 (i + 1 + (n - i)) c7)
          rw [← hw8] at hb8 hc8 ⊢
          have hkb8 := hb8.cell
          have hzb8 := hb8.frozen
          have hkc8 := hc8.cell
          have Hw8 := hide hw8
          clear hw8 hb8 hc8 hkg7 hzg7 hkc7 hkb7 hzb7
          go_wp2_with fail
          have hw8 := Hw8.out
          subst hw8
          have h7 := Hown7.out
          try rw [Nat.zero_add] at h7
          have e7 : put3 (si, lo, hi) s = s.take i ++ (si, lo, hi) :: s.drop i := by rw [Hput.out, Hat.out]
          have hl7 : (put3 (si, lo, hi) s).length = i + 1 + (n - i) := by rw [e7]; have := Hn.out; simp; omega
          have hE := doR_endS (base := W.heap.size) (l := put3 (si, lo, hi) s) H.out (Same.trans HsW0.out Hs7.out) Hb7.out (by omega) (by rw [e7, is3_append, is3_cons]; simpa using h7) (by omega) hl7 (.int .i64 4) (.int .i64 0) (.int .i64 0) (.int .i64 0) (.int .i64 si) (.int .i64 lo) (.int .i64 hi)
          try simp only [Exit.inBlock, Exit.then]
          refine bodyPost_ret (results_cell2 rfl rfl hE.1 Tryz.underlying29 rfl (by kernel_rfl)) rfl ⟨rfl, A7, c7, hE.2.1, hE.2.2.1, hE.2.2.2⟩
      · go_wp2_with fail
        go_quiet (fail)
        have hsW : Same w1 (wr.drewN nq) := Same.trans Hsm.out (Same.of_drewN _ _)
        generalize wr.drewN nq = W at *
        have HsW := hide hsW
        have HsW0 := hide (Same.trans Hs1.out hsW)
        have hbW := Hb1.out.same hsW
        have HbW := hide hbW
        have HcW := hide (Hc1.out.same hsW)
        have HK : Hid (∀ w', Same W w' → w'.cell? ⟨g, 1, none⟩ = some (.slice AS n cs) ∧ w'.cell? ⟨w.heap.size, 4, none⟩ = some (.int .i64 si) ∧ w'.cell? ⟨w.heap.size, 5, none⟩ = some (.int .i64 lo) ∧ w'.cell? ⟨w.heap.size, 6, none⟩ = some (.int .i64 hi)) := hide fun w' h => have hk := ((HcW.out).same h).cell; ⟨Hkt.out _ (Same.trans HsW0.out h), hk 4, hk 5, hk 6⟩
        have hR := HR.out.same HsW0.out
        have HRW := hide hR
        have hcn := hR.2.2.1
        have hcm := hR.2.2.2.1
        unfold maxLen at hcm
        have H1 := cut_hi slS AS n cs .i64 (i : Int) i rfl (by rw [← Hn.out] at hcn; omega)
        obtain ⟨A2, H2, hrd2, hbk2⟩ := cut_lo (n := n) slS hR.1 (by rw [is3_len, Hn.out]) (by rw [Hn.out]; exact hcn) .i64 (i : Int) i rfl hi'
        have Hrd1 : Hid (Rd W AS (is3 (s.take i))) := hide (by have := hR.1.take (i * 3); rw [is3_take] at this; exact this)
        have Hrd2 : Hid (Rd W A2 (is3 (s.drop i))) := hide (by rw [is3_drop] at hrd2; exact hrd2)
        have b1 : (0 + i) * 24 ≤ 140737488355328 := by omega
        have b2 : 0 + i ≤ 140737488355328 := by omega
        have b3 : (0 + i + 1) * 24 ≤ 140737488355328 := by omega
        have b4 : 0 + i + 1 ≤ 140737488355328 := by omega
        have b5 : (0 + i + 1 + (n - i)) * 24 ≤ 140737488355328 := by omega
        have b6 : 0 + i + 1 + (n - i) ≤ 140737488355328 := by omega
        have b7 : (is3 (s.take i)).length = i * 3 := by rw [is3_len, List.length_take]; have := Hn.out; congr 1; omega
        have b8 : (is3 (s.drop i)).length = (n - i) * 3 := by rw [is3_len, List.length_drop, Hn.out]
        have B := hide (And.intro b1 (And.intro b2 (And.intro b3 (And.intro b4 (And.intro b5 (And.intro b6 (And.intro b7 b8)))))))
        have Hbg := hide (H.out.same HsW0.out).blk.lt
        clear hsW hbW hR hcn hcm hrd2 hbk2 b1 b2 b3 b4 b5 b6 b7 b8 hkt hkc hsm
        go_wp2_with fail
        refine wp_region_heldZ (fun w' => w'.cell? ⟨g, 1, none⟩ = some (.slice AS n cs) ∧ w'.cell? ⟨w.heap.size, 4, none⟩ = some (.int .i64 si) ∧ w'.cell? ⟨w.heap.size, 5, none⟩ = some (.int .i64 lo) ∧ w'.cell? ⟨w.heap.size, 6, none⟩ = some (.int .i64 hi)) 22 (by kernel_rfl) ?_
        have hS0 := HK.out W.drew (Chg.drew (Chg.refl _ _))
        refine wpAnyZ_take (i := 0) (v := ?_) (List.getElem?_toArray.trans rfl) (by kernel_rfl) (by kernel_rfl) (by kernel_rfl) (by kernel_rfl) (fun _ _ _ h => h) (Or.inl ⟨by rfl, ?_⟩) hS0 ?_; rotate_left; · intro w hSw; (try dsimp only at hSw); go_simp; (try with_reducible rfl)
        try simp only [puts]
        refine wpAnyZ_take (i := 2) (v := ?_) (List.getElem?_toArray.trans rfl) (by kernel_rfl) (by kernel_rfl) (by kernel_rfl) (by kernel_rfl) (fun _ _ _ h => h) (Or.inl ⟨by rfl, ?_⟩) hS0 ?_; rotate_left; · intro w hSw; (try dsimp only at hSw); go_simp; (try with_reducible rfl)
        try simp only [puts]
        refine wpAnyZ_take (i := 3) (v := ?_) (List.getElem?_toArray.trans rfl) (by kernel_rfl) (by kernel_rfl) (by kernel_rfl) (by kernel_rfl) (fun _ _ _ h => h) (Or.inl ⟨by rfl, ?_⟩) hS0 ?_; rotate_left; · intro w hSw; (try dsimp only at hSw); go_simp; (try with_reducible rfl)
        try simp only [puts]
        refine wpAnyZ_take (i := 4) (v := ?_) (List.getElem?_toArray.trans rfl) (by kernel_rfl) (by kernel_rfl) (by kernel_rfl) (by kernel_rfl) (fun _ _ _ h => h) (Or.inl ⟨by rfl, ?_⟩) hS0 ?_; rotate_left; · intro w hSw; (try dsimp only at hSw); go_simp; (try with_reducible rfl)
        try simp only [puts]
        refine wpAnyZ_take (i := 5) (v := ?_) (List.getElem?_toArray.trans rfl) (by kernel_rfl) (by kernel_rfl) (by kernel_rfl) (by kernel_rfl) (fun _ _ _ h => h) (Or.inl ⟨by rfl, ?_⟩) hS0 ?_; rotate_left; · intro w hSw; (try dsimp only at hSw); go_simp; (try with_reducible rfl)
        try simp only [puts]
        refine wpAnyZ_take (i := 6) (v := ?_) (List.getElem?_toArray.trans rfl) (by kernel_rfl) (by kernel_rfl) (by kernel_rfl) (by kernel_rfl) (fun _ _ _ h => h) (Or.inl ⟨by rfl, ?_⟩) hS0 ?_; rotate_left; · intro w hSw; (try dsimp only at hSw); go_simp; (try with_reducible rfl)
        try simp only [puts]
        refine wpAnyZ_take (i := 7) (v := ?_) (List.getElem?_toArray.trans rfl) (by kernel_rfl) (by kernel_rfl) (by kernel_rfl) (by kernel_rfl) (fun _ _ _ h => h) (Or.inl ⟨by rfl, ?_⟩) hS0 ?_; rotate_left; · intro w hSw; (try dsimp only at hSw); go_simp; (try with_reducible rfl)
        try simp only [puts]
        refine wpAnyZ_take (i := 9) (v := ?_) (List.getElem?_toArray.trans rfl) (by kernel_rfl) (by kernel_rfl) (by kernel_rfl) (by kernel_rfl) (fun _ _ _ h => h) (Or.inl ⟨by rfl, ?_⟩) hS0 ?_; rotate_left; · intro w hSw; (try dsimp only at hSw); go_simp; (try with_reducible rfl)
        try simp only [puts]
        refine wpAnyZ_take (i := 10) (v := ?_) (List.getElem?_toArray.trans rfl) (by kernel_rfl) (by kernel_rfl) (by kernel_rfl) (by kernel_rfl) (fun _ _ _ h => h) (Or.inl ⟨by rfl, ?_⟩) hS0 ?_; rotate_left; · intro w hSw; (try dsimp only at hSw); go_simp; (try with_reducible rfl)
        try simp only [puts]
        refine wpAnyZ_take (i := 13) (v := ?_) (List.getElem?_toArray.trans rfl) (by kernel_rfl) (by kernel_rfl) (by kernel_rfl) (by kernel_rfl) (fun _ _ _ h => h) (Or.inl ⟨by rfl, ?_⟩) hS0 ?_; rotate_left; · intro w hSw; (try dsimp only at hSw); go_simp; (try with_reducible rfl)
        try simp only [puts]
        refine wpAnyZ_take (i := 14) (v := ?_) (List.getElem?_toArray.trans rfl) (by kernel_rfl) (by kernel_rfl) (by kernel_rfl) (by kernel_rfl) (fun _ _ _ h => h) (Or.inl ⟨by rfl, ?_⟩) hS0 ?_; rotate_left; · intro w hSw; (try dsimp only at hSw); go_simp; (try with_reducible rfl)
        try simp only [puts]
        refine wpAnyZ_take (i := 15) (v := ?_) (List.getElem?_toArray.trans rfl) (by kernel_rfl) (by kernel_rfl) (by kernel_rfl) (by kernel_rfl) (fun _ _ _ h => h) (Or.inl ⟨by rfl, ?_⟩) hS0 ?_; rotate_left; · intro w hSw; (try dsimp only at hSw); go_simp; (try with_reducible rfl)
        try simp only [puts]
        refine wpAnyZ_take (i := 16) (v := ?_) (List.getElem?_toArray.trans rfl) (by kernel_rfl) (by kernel_rfl) (by kernel_rfl) (by kernel_rfl) (fun _ _ _ h => h) (Or.inl ⟨by rfl, ?_⟩) hS0 ?_; rotate_left; · intro w hSw; (try dsimp only at hSw); go_simp; (try with_reducible rfl)
        try simp only [puts]
        refine wpAnyZ_take (i := 17) (v := ?_) (List.getElem?_toArray.trans rfl) (by kernel_rfl) (by kernel_rfl) (by kernel_rfl) (by kernel_rfl) (fun _ _ _ h => h) (Or.inl ⟨by rfl, ?_⟩) hS0 ?_; rotate_left; · intro w hSw; (try dsimp only at hSw); go_simp; (try with_reducible rfl)
        try simp only [puts]
        refine wpAnyZ_take (i := 18) (v := ?_) (List.getElem?_toArray.trans rfl) (by kernel_rfl) (by kernel_rfl) (by kernel_rfl) (by kernel_rfl) (fun _ _ _ h => h) (Or.inl ⟨by rfl, ?_⟩) hS0 ?_; rotate_left; · intro w hSw; (try dsimp only at hSw); go_simp; (try with_reducible rfl)
        try simp only [puts]
        refine wpAnyZ_two (i := 1) (j := 11) (by kernel_rfl) (List.getElem?_toArray.trans rfl) (List.getElem?_toArray.trans rfl) (fun K' hK => ?_) (fun K' hK => ?_)
        · go_simp
          refine hK _ _ (fun _ => HK.out _ (Chg.alloc (Chg.drew (Chg.refl _ _)) _)) ?_
          try simp only [puts]
          clear hK
          refine wpAnyZ_two (i := 8) (j := 11) (by kernel_rfl) (List.getElem?_toArray.trans rfl) (List.getElem?_toArray.trans rfl) (fun K' hK => ?_) (fun K' hK => ?_)
          · refine step_appS (by rfl) (.tmp 166) (.tmp 172) _ (by rfl) slS (by rfl) (base := W.heap.size) (by exact own_lit W.drew W.heap.size _ 3 #[] 0 (Nat.le_refl _) (by decide) rfl) (by rfl) B.out.2.2.2.2.2.2.1 (by exact Hrd1.out.alloc _) (one_is3 _) B.out.1 B.out.2.1 (by simp) ?_
            intro A5 c5 w5 hown5 hchg5 hat5
            have hcz : Same W w5 := ((Chg.alloc (Chg.drew (Chg.refl _ W)) _).trans hchg5 (by intro k hk h; simp [blkOf] at h; omega))
            rw [Nat.zero_add] at hown5
            have Hown5 := hide hown5
            have Hs5 := hide hcz
            clear hown5 hchg5 hat5 hcz
            refine hK _ _ (fun _ => HK.out _ Hs5.out) ?_
            try simp only [puts]
            clear hK
            refine wpAnyZ_one (i := 11) (by kernel_rfl) (List.getElem?_toArray.trans rfl) (fun K' hK => ?_)
            go_simp
            refine hK _ _ (fun _ => HK.out _ (Chg.alloc Hs5.out _)) ?_
            try simp only [puts]
            clear hK
            refine wpAnyZ_one (i := 12) (by kernel_rfl) (List.getElem?_toArray.trans rfl) (fun K' hK => ?_)
            refine step_appS (by rfl) (.tmp 173) (.tmp 176) _ (by rfl) slS (by rfl) (base := W.heap.size) (by exact Hown5.out.alloc _) (by rfl) (by rfl) (by exact rd_new3 w5 _ _ _ _) (show ∀ u ∈ [Value.int .i64 si, Value.int .i64 lo, Value.int .i64 hi], u.oneCell' = true from one_is3 [(si, lo, hi)]) (by omega) (by omega) (by have := Hs5.out.size; simp; omega) ?_
            intro A6 c6 w6 hown6 hchg6 hat6
            have hcz : Same W w6 := Hs5.out.app1 Hown5.out (Nat.le_refl _) hchg6
            have Hown6 := hide hown6
            have Hs6 := hide hcz
            clear hown6 hchg6 hat6 hcz
            refine hK _ _ (fun _ => HK.out _ Hs6.out) ?_
            try simp only [puts]
            clear hK
            refine wpAnyZ_one (i := 19) (by kernel_rfl) (List.getElem?_toArray.trans rfl) (fun K' hK => ?_)
            refine step_appS (by rfl) (.tmp 177) (.tmp 183) _ (by rfl) slS (by rfl) (base := W.heap.size) (by exact Hown6.out) (by rfl) B.out.2.2.2.2.2.2.2 (by exact Hrd2.out.same Hs6.out) (one_is3 _) (by omega) (by omega) (by exact Hs6.out.size) ?_
            intro A7 c7 w7 hown7 hchg7 hat7
            have hcz : Same W w7 := Hs6.out.app Hown6.out (Nat.le_refl _) hchg7
            have hg7 := (H.out.same (Same.trans HsW0.out hcz)).blk
            have hkg7 := hg7.cell
            have hzg7 := hg7.frozen
            have hkc7 := (HcW.out.same hcz).cell
            have hb7 := HbW.out.same hcz
            have hkb7 := hb7.cell
            have hzb7 := hb7.frozen
            have bb7 := hb7.lt
            have bc7 := (HcW.out.same hcz).lt
            have hS7 := HK.out _ hcz
            have Hown7 := hide hown7
            have Hs7 := hide hcz
            have Hb7 := hide hb7
            clear hown7 hchg7 hat7 hcz hg7 hb7
            refine hK _ _ (fun _ => hS7) ?_
            try simp only [puts]
            clear hK
            refine wpAnyZ_one (i := 20) (by kernel_rfl) (List.getElem?_toArray.trans rfl) (fun K' hK => ?_)
            go_simp
            refine hK _ _ (fun _ => hS7) ?_
            try simp only [puts]
            clear hK
            refine wpAnyZ_one (i := 21) (by kernel_rfl) (List.getElem?_toArray.trans rfl) (fun K' hK => ?_)
            go_simp
            refine hK _ _ (fun _ => hS7) ?_
            try simp only [puts]
            clear hK
            refine wpAnyZ_one (i := 22) (by kernel_rfl) (List.getElem?_toArray.trans rfl) (fun K' hK => ?_)
            go_simp
            refine hK _ _ (fun h => absurd rfl h) ?_
            try simp only [puts]
            clear hK hS7 hS0
            refine wpAnyZ_done (by kernel_rfl) (NoPanic.normal ?_) _
            have hlb := HbW.out.lt
            have hlg := H.out.blk.lt
            obtain ⟨w8, hw8⟩ : ∃ w8, w8 = w7.setCell ⟨g, 1, none⟩ (.slice A7 (i + 1 + (n - i)) c7) := ⟨_, rfl⟩
            have hb8 := Hb7.out.far (p := ⟨g, 1, none⟩) (by show ¬ w.heap.size + 1 = g; omega) (.slice A7 (i + 1 + (n - i)) c7)
            have hc8 := (HcW.out.same Hs7.out).far (p := ⟨g, 1, none⟩) (by show ¬ w.heap.size = g; omega) (.slice A7 (i + 1 + (n - i)) c7)
            rw [← hw8] at hb8 hc8 ⊢
            have hkb8 := hb8.cell
            have hzb8 := hb8.frozen
            have hkc8 := hc8.cell
            have Hw8 := hide hw8
            clear hw8 hb8 hc8 hkg7 hzg7 hkc7 hkb7 hzb7
            go_wp2_with fail
            have hw8 := Hw8.out
            subst hw8
            have h7 := Hown7.out
            try rw [Nat.zero_add] at h7
            have e7 : put3 (si, lo, hi) s = s.take i ++ (si, lo, hi) :: s.drop i := by rw [Hput.out, Hat.out]
            have hl7 : (put3 (si, lo, hi) s).length = i + 1 + (n - i) := by rw [e7]; have := Hn.out; simp; omega
            have hE := doR_endS (base := W.heap.size) (l := put3 (si, lo, hi) s) H.out (Same.trans HsW0.out Hs7.out) Hb7.out (by omega) (by rw [e7, is3_append, is3_cons]; simpa using h7) (by omega) hl7 (.int .i64 4) (.int .i64 0) (.int .i64 0) (.int .i64 0) (.int .i64 si) (.int .i64 lo) (.int .i64 hi)
            try simp only [Exit.inBlock, Exit.then]
            refine bodyPost_ret (results_cell2 rfl rfl hE.1 Tryz.underlying29 rfl (by kernel_rfl)) rfl ⟨rfl, A7, c7, hE.2.1, hE.2.2.1, hE.2.2.2⟩
          · go_simp
            refine hK _ _ (fun _ => HK.out _ (Chg.alloc (Chg.alloc (Chg.drew (Chg.refl _ _)) _) _)) ?_
            try simp only [puts]
            clear hK
            refine wpAnyZ_one (i := 8) (by kernel_rfl) (List.getElem?_toArray.trans rfl) (fun K' hK => ?_)
            refine step_appS (by rfl) (.tmp 166) (.tmp 172) _ (by rfl) slS (by rfl) (base := W.heap.size) (by exact (own_lit W.drew W.heap.size _ 3 #[] 0 (Nat.le_refl _) (by decide) rfl).alloc _) (by rfl) B.out.2.2.2.2.2.2.1 (by exact (Hrd1.out.alloc _).alloc _) (one_is3 _) B.out.1 B.out.2.1 (by simp; omega) ?_
            intro A5 c5 w5 hown5 hchg5 hat5
            have hcz : Same W w5 := ((Chg.alloc (Chg.alloc (Chg.drew (Chg.refl _ W)) _) _).trans hchg5 (by intro k hk h; simp [blkOf] at h; omega))
            have h91 : Rd w5 (some ⟨W.heap.size + 1, 0, none⟩) [Value.int .i64 si, Value.int .i64 lo, Value.int .i64 hi] := by
              have h := (rd_new3 (W.drew.alloc (.cells #[] 27)) _ _ _ 27).chg (w' := w5) hchg5 (by intro b hb hlt h; simp [blkOf] at h hb; omega)
              simpa using h
            have H91 := hide h91
            have Hown5 := hide hown5
            have Hs5 := hide hcz
            clear hown5 hchg5 hat5 hcz h91
            refine hK _ _ (fun _ => HK.out _ Hs5.out) ?_
            try simp only [puts]
            clear hK
            refine wpAnyZ_one (i := 12) (by kernel_rfl) (List.getElem?_toArray.trans rfl) (fun K' hK => ?_)
            refine step_appS (by rfl) (.tmp 173) (.tmp 176) _ (by rfl) slS (by rfl) (base := W.heap.size) (by exact Hown5.out) (by rfl) (by rfl) (by exact H91.out) (show ∀ u ∈ [Value.int .i64 si, Value.int .i64 lo, Value.int .i64 hi], u.oneCell' = true from one_is3 [(si, lo, hi)]) (by omega) (by omega) (by exact Hs5.out.size) ?_
            intro A6 c6 w6 hown6 hchg6 hat6
            have hcz : Same W w6 := Hs5.out.app Hown5.out (Nat.le_refl _) hchg6
            have Hown6 := hide hown6
            have Hs6 := hide hcz
            clear hown6 hchg6 hat6 hcz
            refine hK _ _ (fun _ => HK.out _ Hs6.out) ?_
            try simp only [puts]
            clear hK
            refine wpAnyZ_one (i := 19) (by kernel_rfl) (List.getElem?_toArray.trans rfl) (fun K' hK => ?_)
            refine step_appS (by rfl) (.tmp 177) (.tmp 183) _ (by rfl) slS (by rfl) (base := W.heap.size) (by exact Hown6.out) (by rfl) B.out.2.2.2.2.2.2.2 (by exact Hrd2.out.same Hs6.out) (one_is3 _) (by omega) (by omega) (by exact Hs6.out.size) ?_
            intro A7 c7 w7 hown7 hchg7 hat7
            have hcz : Same W w7 := Hs6.out.app Hown6.out (Nat.le_refl _) hchg7
            have hg7 := (H.out.same (Same.trans HsW0.out hcz)).blk
            have hkg7 := hg7.cell
            have hzg7 := hg7.frozen
            have hkc7 := (HcW.out.same hcz).cell
            have hb7 := HbW.out.same hcz
            have hkb7 := hb7.cell
            have hzb7 := hb7.frozen
            have bb7 := hb7.lt
            have bc7 := (HcW.out.same hcz).lt
            have hS7 := HK.out _ hcz
            have Hown7 := hide hown7
            have Hs7 := hide hcz
            have Hb7 := hide hb7
            clear hown7 hchg7 hat7 hcz hg7 hb7
            refine hK _ _ (fun _ => hS7) ?_
            try simp only [puts]
            clear hK
            refine wpAnyZ_one (i := 20) (by kernel_rfl) (List.getElem?_toArray.trans rfl) (fun K' hK => ?_)
            go_simp
            refine hK _ _ (fun _ => hS7) ?_
            try simp only [puts]
            clear hK
            refine wpAnyZ_one (i := 21) (by kernel_rfl) (List.getElem?_toArray.trans rfl) (fun K' hK => ?_)
            go_simp
            refine hK _ _ (fun _ => hS7) ?_
            try simp only [puts]
            clear hK
            refine wpAnyZ_one (i := 22) (by kernel_rfl) (List.getElem?_toArray.trans rfl) (fun K' hK => ?_)
            go_simp
            refine hK _ _ (fun h => absurd rfl h) ?_
            try simp only [puts]
            clear hK hS7 hS0
            refine wpAnyZ_done (by kernel_rfl) (NoPanic.normal ?_) _
            have hlb := HbW.out.lt
            have hlg := H.out.blk.lt
            obtain ⟨w8, hw8⟩ : ∃ w8, w8 = w7.setCell ⟨g, 1, none⟩ (.slice A7 (i + 1 + (n - i)) c7) := ⟨_, rfl⟩
            have hb8 := Hb7.out.far (p := ⟨g, 1, none⟩) (by show ¬ w.heap.size + 1 = g; omega) (.slice A7 (i + 1 + (n - i)) c7)
            have hc8 := (HcW.out.same Hs7.out).far (p := ⟨g, 1, none⟩) (by show ¬ w.heap.size = g; omega) (.slice A7 (i + 1 + (n - i)) c7)
            rw [← hw8] at hb8 hc8 ⊢
            have hkb8 := hb8.cell
            have hzb8 := hb8.frozen
            have hkc8 := hc8.cell
            have Hw8 := hide hw8
            clear hw8 hb8 hc8 hkg7 hzg7 hkc7 hkb7 hzb7
            go_wp2_with fail
            have hw8 := Hw8.out
            subst hw8
            have h7 := Hown7.out
            try rw [Nat.zero_add] at h7
            have e7 : put3 (si, lo, hi) s = s.take i ++ (si, lo, hi) :: s.drop i := by rw [Hput.out, Hat.out]
            have hl7 : (put3 (si, lo, hi) s).length = i + 1 + (n - i) := by rw [e7]; have := Hn.out; simp; omega
            have hE := doR_endS (base := W.heap.size) (l := put3 (si, lo, hi) s) H.out (Same.trans HsW0.out Hs7.out) Hb7.out (by omega) (by rw [e7, is3_append, is3_cons]; simpa using h7) (by omega) hl7 (.int .i64 4) (.int .i64 0) (.int .i64 0) (.int .i64 0) (.int .i64 si) (.int .i64 lo) (.int .i64 hi)
            try simp only [Exit.inBlock, Exit.then]
            refine bodyPost_ret (results_cell2 rfl rfl hE.1 Tryz.underlying29 rfl (by kernel_rfl)) rfl ⟨rfl, A7, c7, hE.2.1, hE.2.2.1, hE.2.2.2⟩
        · go_simp
          refine hK _ _ (fun _ => HK.out _ (Chg.alloc (Chg.drew (Chg.refl _ _)) _)) ?_
          try simp only [puts]
          clear hK
          refine wpAnyZ_one (i := 1) (by kernel_rfl) (List.getElem?_toArray.trans rfl) (fun K' hK => ?_)
          go_simp
          refine hK _ _ (fun _ => HK.out _ (Chg.alloc (Chg.alloc (Chg.drew (Chg.refl _ _)) _) _)) ?_
          try simp only [puts]
          clear hK
          refine wpAnyZ_one (i := 8) (by kernel_rfl) (List.getElem?_toArray.trans rfl) (fun K' hK => ?_)
          refine step_appS (by rfl) (.tmp 166) (.tmp 172) _ (by rfl) slS (by rfl) (base := W.heap.size) (by exact (by have h := own_lit (W.alloc (.cells #[Value.int .i64 si, Value.int .i64 lo, Value.int .i64 hi] 27)) W.heap.size 27 3 #[] 0 (by simp) (by decide) rfl; rw [show (W.alloc (.cells #[Value.int .i64 si, Value.int .i64 lo, Value.int .i64 hi] 27)).heap.size = W.heap.size + 1 by simp] at h; exact h)) (by rfl) B.out.2.2.2.2.2.2.1 (by exact (Hrd1.out.alloc _).alloc _) (one_is3 _) B.out.1 B.out.2.1 (by simp; omega) ?_
          intro A5 c5 w5 hown5 hchg5 hat5
          have hcz : Same W w5 := ((Chg.alloc (Chg.alloc (Chg.drew (Chg.refl _ W)) _) _).trans hchg5 (by intro k hk h; simp [blkOf] at h; omega))
          have h91 : Rd w5 (some ⟨W.heap.size, 0, none⟩) [Value.int .i64 si, Value.int .i64 lo, Value.int .i64 hi] := ((rd_new3 W.drew _ _ _ 27).alloc _).chg hchg5 (by intro b hb hlt h; simp [blkOf] at h hb; omega)
          have H91 := hide h91
          have Hown5 := hide hown5
          have Hs5 := hide hcz
          clear hown5 hchg5 hat5 hcz h91
          refine hK _ _ (fun _ => HK.out _ Hs5.out) ?_
          try simp only [puts]
          clear hK
          refine wpAnyZ_one (i := 12) (by kernel_rfl) (List.getElem?_toArray.trans rfl) (fun K' hK => ?_)
          refine step_appS (by rfl) (.tmp 173) (.tmp 176) _ (by rfl) slS (by rfl) (base := W.heap.size) (by exact Hown5.out) (by rfl) (by rfl) (by exact H91.out) (show ∀ u ∈ [Value.int .i64 si, Value.int .i64 lo, Value.int .i64 hi], u.oneCell' = true from one_is3 [(si, lo, hi)]) (by omega) (by omega) (by exact Hs5.out.size) ?_
          intro A6 c6 w6 hown6 hchg6 hat6
          have hcz : Same W w6 := Hs5.out.app Hown5.out (Nat.le_refl _) hchg6
          have Hown6 := hide hown6
          have Hs6 := hide hcz
          clear hown6 hchg6 hat6 hcz
          refine hK _ _ (fun _ => HK.out _ Hs6.out) ?_
          try simp only [puts]
          clear hK
          refine wpAnyZ_one (i := 19) (by kernel_rfl) (List.getElem?_toArray.trans rfl) (fun K' hK => ?_)
          refine step_appS (by rfl) (.tmp 177) (.tmp 183) _ (by rfl) slS (by rfl) (base := W.heap.size) (by exact Hown6.out) (by rfl) B.out.2.2.2.2.2.2.2 (by exact Hrd2.out.same Hs6.out) (one_is3 _) (by omega) (by omega) (by exact Hs6.out.size) ?_
          intro A7 c7 w7 hown7 hchg7 hat7
          have hcz : Same W w7 := Hs6.out.app Hown6.out (Nat.le_refl _) hchg7
          have hg7 := (H.out.same (Same.trans HsW0.out hcz)).blk
          have hkg7 := hg7.cell
          have hzg7 := hg7.frozen
          have hkc7 := (HcW.out.same hcz).cell
          have hb7 := HbW.out.same hcz
          have hkb7 := hb7.cell
          have hzb7 := hb7.frozen
          have bb7 := hb7.lt
          have bc7 := (HcW.out.same hcz).lt
          have hS7 := HK.out _ hcz
          have Hown7 := hide hown7
          have Hs7 := hide hcz
          have Hb7 := hide hb7
          clear hown7 hchg7 hat7 hcz hg7 hb7
          refine hK _ _ (fun _ => hS7) ?_
          try simp only [puts]
          clear hK
          refine wpAnyZ_one (i := 20) (by kernel_rfl) (List.getElem?_toArray.trans rfl) (fun K' hK => ?_)
          go_simp
          refine hK _ _ (fun _ => hS7) ?_
          try simp only [puts]
          clear hK
          refine wpAnyZ_one (i := 21) (by kernel_rfl) (List.getElem?_toArray.trans rfl) (fun K' hK => ?_)
          go_simp
          refine hK _ _ (fun _ => hS7) ?_
          try simp only [puts]
          clear hK
          refine wpAnyZ_one (i := 22) (by kernel_rfl) (List.getElem?_toArray.trans rfl) (fun K' hK => ?_)
          go_simp
          refine hK _ _ (fun h => absurd rfl h) ?_
          try simp only [puts]
          clear hK hS7 hS0
          refine wpAnyZ_done (by kernel_rfl) (NoPanic.normal ?_) _
          have hlb := HbW.out.lt
          have hlg := H.out.blk.lt
          obtain ⟨w8, hw8⟩ : ∃ w8, w8 = w7.setCell ⟨g, 1, none⟩ (.slice A7 (i + 1 + (n - i)) c7) := ⟨_, rfl⟩
          have hb8 := Hb7.out.far (p := ⟨g, 1, none⟩) (by show ¬ w.heap.size + 1 = g; omega) (.slice A7 (i + 1 + (n - i)) c7)
          have hc8 := (HcW.out.same Hs7.out).far (p := ⟨g, 1, none⟩) (by show ¬ w.heap.size = g; omega) (.slice A7 (i + 1 + (n - i)) c7)
          rw [← hw8] at hb8 hc8 ⊢
          have hkb8 := hb8.cell
          have hzb8 := hb8.frozen
          have hkc8 := hc8.cell
          have Hw8 := hide hw8
          clear hw8 hb8 hc8 hkg7 hzg7 hkc7 hkb7 hzb7
          go_wp2_with fail
          have hw8 := Hw8.out
          subst hw8
          have h7 := Hown7.out
          try rw [Nat.zero_add] at h7
          have e7 : put3 (si, lo, hi) s = s.take i ++ (si, lo, hi) :: s.drop i := by rw [Hput.out, Hat.out]
          have hl7 : (put3 (si, lo, hi) s).length = i + 1 + (n - i) := by rw [e7]; have := Hn.out; simp; omega
          have hE := doR_endS (base := W.heap.size) (l := put3 (si, lo, hi) s) H.out (Same.trans HsW0.out Hs7.out) Hb7.out (by omega) (by rw [e7, is3_append, is3_cons]; simpa using h7) (by omega) hl7 (.int .i64 4) (.int .i64 0) (.int .i64 0) (.int .i64 0) (.int .i64 si) (.int .i64 lo) (.int .i64 hi)
          try simp only [Exit.inBlock, Exit.then]
          refine bodyPost_ret (results_cell2 rfl rfl hE.1 Tryz.underlying29 rfl (by kernel_rfl)) rfl ⟨rfl, A7, c7, hE.2.1, hE.2.2.1, hE.2.2.2⟩
end
end Go.Proofs.YtlimpepdelpogaaGreatDoor
