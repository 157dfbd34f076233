/-
  The table's Do. Condition: ids that an int holds.
  The table's Do, as one contract; Point, Span, Len, Most; what is told of no table; the law's own 'lives'. Condition: ids that an int holds.
-/
import Derived.Test.YtlimpepdelpogaaGreatDoorTbC
/-! TbD -/
namespace Go.Proofs.YtlimpepdelpogaaGreatDoor
open Go.RowKit Go.Al
set_option linter.unusedVariables false
set_option maxHeartbeats 1000000
set_option maxRecDepth 100000
def z3 : P3 := (0, 0, 0)
/-- the change that turns one back -/
def backC (p s : List P3) (c : Cg) : Cg :=
  if c.k = 1 then ⟨2, c.p, z3⟩ else if c.k = 2 then ⟨1, (find3 p c.p.1).getD z3, z3⟩ else if c.k = 3 then ⟨4, z3, c.s⟩ else ⟨3, z3, (find3 s c.s.1).getD z3⟩
def doP (p : List P3) (c : Cg) : List P3 := if c.k = 1 then put3 c.p p else if c.k = 2 then del3 c.p.1 p else p
def doS (s : List P3) (c : Cg) : List P3 := if c.k = 3 then put3 c.s s else if c.k = 4 then del3 c.s.1 s else s
theorem do_bad {g pm sm : Nat} {most : Int} {p s : List P3} (c : Cg) (w : World) (h : Tab w g pm sm most p s) (hw : WfC c) (hm : ¬ mayE p s most c = 0) :
    Calls Tryz.prog 50 #[.pointer (some ⟨g, 0, none⟩), cgV c] w fun e w' => e = .returned (.tuple #[cgV ⟨0, z3, z3⟩, .int .i64 (mayE p s most c)]) ∧ Same w w' := by
  have HM := hide (fun w' (hs : Same w w') => may_any c w' (h.same hs) hw)
  generalize mayE p s most c = j at *
  have hs : Same w ((w.alloc (.cells (bx c) 29)).alloc (.cells (bx ⟨0, z3, z3⟩) 29)) := ((Chg.refl _ w).alloc _).alloc _
  have hb := Blk.new (w.alloc (.cells (bx c) 29)) 29 (bx ⟨0, z3, z3⟩)
  rw [show (w.alloc (.cells (bx c) 29)).heap.size = w.heap.size + 1 by simp] at hb
  have Hs := hide hs
  have Hb := hide hb
  clear hs h hb
  obtain ⟨k, ⟨pi, px, py⟩, ⟨si, lo, hi⟩⟩ := c
  unfold cgV bx z3 at *
  go_enter Tryz.func50, Tryz.ntmps50
  go_wp2_with (go_at_call 80; refine (HM.out _ Hs.out).mono ?_; rintro e w1 ⟨rfl, hs1⟩; have hk1 := (Hb.out.same hs1).cell; have hz1 := (Hb.out.same hs1).frozen; have bb1 := (Hb.out.same hs1).lt; have Hs1 := hide hs1; clear hs1)
  refine bodyPost_ret (results_cell2 rfl rfl (Blk.put7 (Hb.out.same Hs1.out) _ _ _ _ _ _ _) Tryz.underlying29 rfl (by kernel_rfl)) rfl ⟨rfl, Chg.put7 (Hs.out.trans Hs1.out) (.inr (by omega)) _ _ _ _ _ _ _⟩
theorem put_far {w : World} {n b : Nat} {t : TypeId} {cs : Array Value} (h : Blk w b t cs) (hne : ¬ b = n) (u0 u1 u2 u3 u4 u5 u6 : Value) :
    Blk (((((((w.setCell ⟨n, 0, none⟩ u0).setCell ⟨n, 1, none⟩ u1).setCell ⟨n, 2, none⟩ u2).setCell ⟨n, 3, none⟩ u3).setCell ⟨n, 4, none⟩ u4).setCell ⟨n, 5, none⟩ u5).setCell ⟨n, 6, none⟩ u6) b t cs :=
  h.chg (Chg.put7 (S := fun k => k = n) (Chg.refl _ w) (.inl rfl) u0 u1 u2 u3 u4 u5 u6) hne
theorem put_map {w : World} {n b : Nat} {l : List P3} (h : MapI w b l) (hne : ¬ b = n) (u0 u1 u2 u3 u4 u5 u6 : Value) :
    MapI (((((((w.setCell ⟨n, 0, none⟩ u0).setCell ⟨n, 1, none⟩ u1).setCell ⟨n, 2, none⟩ u2).setCell ⟨n, 3, none⟩ u3).setCell ⟨n, 4, none⟩ u4).setCell ⟨n, 5, none⟩ u5).setCell ⟨n, 6, none⟩ u6) b l :=
  h.chg (Chg.put7 (S := fun k => k = n) (Chg.refl _ w) (.inl rfl) u0 u1 u2 u3 u4 u5 u6) hne
theorem do_1 {g pm sm : Nat} {most : Int} {p s : List P3} (q x : P3) (w : World) (h : Tab w g pm sm most p s) (hw : WfC ⟨1, q, x⟩) (hm : mayE p s most ⟨1, q, x⟩ = 0) :
    Calls Tryz.prog 50 #[.pointer (some ⟨g, 0, none⟩), cgV ⟨1, q, x⟩] w fun e w' => e = .returned (.tuple #[cgV ⟨2, q, z3⟩, .int .i64 0]) ∧ MapI w' pm (put3 q p) ∧ Chg (fun k => k = pm) w w' := by
  have HM := hide (fun w' (hs : Same w w') => may_any _ w' (h.same hs) hw)
  rw [hm] at HM
  have hs : Same w ((w.alloc (.cells (bx ⟨1, q, x⟩) 29)).alloc (.cells (bx ⟨0, z3, z3⟩) 29)) := ((Chg.refl _ w).alloc _).alloc _
  have hc := (Blk.new w 29 (bx ⟨1, q, x⟩)).alloc (.cells (bx ⟨0, z3, z3⟩) 29)
  have hb := Blk.new (w.alloc (.cells (bx ⟨1, q, x⟩) 29)) 29 (bx ⟨0, z3, z3⟩)
  rw [show (w.alloc (.cells (bx ⟨1, q, x⟩) 29)).heap.size = w.heap.size + 1 by simp] at hb
  have H := hide h
  have Hw := hide hw
  have Hs := hide hs
  have Hb := hide hb
  have Hc := hide hc
  clear hs h hb hw hc hm
  obtain ⟨pi, px, py⟩ := q
  obtain ⟨si, lo, hi⟩ := x
  unfold cgV bx z3 at *
  go_enter Tryz.func50, Tryz.ntmps50
  go_wp2_with (go_at_call 80; refine (HM.out _ Hs.out).mono ?_; rintro e w1 ⟨rfl, hs1⟩; have hk1 := (Hb.out.same hs1).cell; have hz1 := (Hb.out.same hs1).frozen; have bb1 := (Hb.out.same hs1).lt; have hk2 := (Hc.out.same hs1).cell; have bb2 := (Hc.out.same hs1).lt; have Hs1 := hide hs1; clear hs1)
  have hsW : Same w (w1.alloc (.cells #[.int .i64 0, .int .i64 0, .int .i64 0, .int .i64 0, .int .i64 0, .int .i64 0, .int .i64 0] 29)) := Chg.alloc (Hs.out.trans Hs1.out) _
  have hcW := (Hc.out.same Hs1.out).alloc (.cells #[.int .i64 0, .int .i64 0, .int .i64 0, .int .i64 0, .int .i64 0, .int .i64 0, .int .i64 0] 29)
  have hbW := (Hb.out.same Hs1.out).alloc (.cells #[.int .i64 0, .int .i64 0, .int .i64 0, .int .i64 0, .int .i64 0, .int .i64 0, .int .i64 0] 29)
  have hnW := Blk.new w1 29 #[.int .i64 0, .int .i64 0, .int .i64 0, .int .i64 0, .int .i64 0, .int .i64 0, .int .i64 0]
  generalize w1.alloc (.cells #[.int .i64 0, .int .i64 0, .int .i64 0, .int .i64 0, .int .i64 0, .int .i64 0, .int .i64 0] 29) = W at *
  clear hk1 hz1 hk2
  have hT := H.out.same hsW
  have hkt := hT.blk.cell
  have hkc := hcW.cell
  have hne : w1.heap.size ≠ w.heap.size + 1 := by omega
  have hlp := H.out.mp.lt
  have hls := H.out.ms.lt
  have hlg := H.out.blk.lt
  obtain ⟨w2, hrun, hM, hch⟩ := (hT.mp.same ((Chg.refl (fun _ => False) W).drew)).store Tryz.underlying3 Tryz.underlying85 (by have := hT.room; have := hT.bound; unfold maxLen; omega) (pi, px, py) Hw.out.1
  have hb2 := (hbW.drew).chg hch (by omega)
  have hn2 := (hnW.drew).chg hch (by omega)
  have hc2 := (hcW.drew).chg hch (by omega)
  have hkb2 := hb2.cell
  have hkn2 := hn2.cell
  have hkc2 := hc2.cell
  have hzb2 := hb2.frozen
  have hzn2 := hn2.frozen
  have Hb2 := hide hb2
  have HM2 := hide hM
  have Hch := hide hch
  have HsW := hide hsW
  unfold agg3 at hrun
  clear hT hcW hbW hnW hb2 hn2 hc2 hM hch hsW
  go_region
  go_wp2_with fail
  have hcw : Chg (fun k => k = pm) w _ := Chg.put7 (g := w1.heap.size) (Chg.of_same (Same.trans HsW.out (Chg.drew (Chg.refl _ _))) Hch.out) (.inr (by omega)) (.int .i64 2) (.int .i64 pi) (.int .i64 px) (.int .i64 py) (.int .i64 0) (.int .i64 0) (.int .i64 0)
  refine bodyPost_ret (results_cell2 rfl rfl (Blk.put7 (put_far Hb2.out (fun e => hne e.symm) _ _ _ _ _ _ _) _ _ _ _ _ _ _) Tryz.underlying29 rfl (by kernel_rfl)) rfl ⟨rfl, put_map (put_map HM2.out (by omega) _ _ _ _ _ _ _) (by omega) _ _ _ _ _ _ _, Chg.put7 hcw (.inr (by omega)) _ _ _ _ _ _ _⟩
theorem do_3 {g pm sm : Nat} {most : Int} {p s : List P3} (q x : P3) (w : World) (h : Tab w g pm sm most p s) (hw : WfC ⟨3, q, x⟩) (hm : mayE p s most ⟨3, q, x⟩ = 0) :
    Calls Tryz.prog 50 #[.pointer (some ⟨g, 0, none⟩), cgV ⟨3, q, x⟩] w fun e w' => e = .returned (.tuple #[cgV ⟨4, z3, x⟩, .int .i64 0]) ∧ MapI w' sm (put3 x s) ∧ Chg (fun k => k = sm) w w' := by
  have HM := hide (fun w' (hs : Same w w') => may_any _ w' (h.same hs) hw)
  rw [hm] at HM
  have hs : Same w ((w.alloc (.cells (bx ⟨3, q, x⟩) 29)).alloc (.cells (bx ⟨0, z3, z3⟩) 29)) := ((Chg.refl _ w).alloc _).alloc _
  have hc := (Blk.new w 29 (bx ⟨3, q, x⟩)).alloc (.cells (bx ⟨0, z3, z3⟩) 29)
  have hb := Blk.new (w.alloc (.cells (bx ⟨3, q, x⟩) 29)) 29 (bx ⟨0, z3, z3⟩)
  rw [show (w.alloc (.cells (bx ⟨3, q, x⟩) 29)).heap.size = w.heap.size + 1 by simp] at hb
  have H := hide h
  have Hw := hide hw
  have Hs := hide hs
  have Hb := hide hb
  have Hc := hide hc
  clear hs h hb hw hc hm
  obtain ⟨pi, px, py⟩ := q
  obtain ⟨si, lo, hi⟩ := x
  unfold cgV bx z3 at *
  go_enter Tryz.func50, Tryz.ntmps50
  go_wp2_with (go_at_call 80; refine (HM.out _ Hs.out).mono ?_; rintro e w1 ⟨rfl, hs1⟩; have hk1 := (Hb.out.same hs1).cell; have hz1 := (Hb.out.same hs1).frozen; have bb1 := (Hb.out.same hs1).lt; have hk2 := (Hc.out.same hs1).cell; have bb2 := (Hc.out.same hs1).lt; have Hs1 := hide hs1; clear hs1)
  have hsW : Same w (w1.alloc (.cells #[.int .i64 0, .int .i64 0, .int .i64 0, .int .i64 0, .int .i64 0, .int .i64 0, .int .i64 0] 29)) := Chg.alloc (Hs.out.trans Hs1.out) _
  have hcW := (Hc.out.same Hs1.out).alloc (.cells #[.int .i64 0, .int .i64 0, .int .i64 0, .int .i64 0, .int .i64 0, .int .i64 0, .int .i64 0] 29)
  have hbW := (Hb.out.same Hs1.out).alloc (.cells #[.int .i64 0, .int .i64 0, .int .i64 0, .int .i64 0, .int .i64 0, .int .i64 0, .int .i64 0] 29)
  have hnW := Blk.new w1 29 #[.int .i64 0, .int .i64 0, .int .i64 0, .int .i64 0, .int .i64 0, .int .i64 0, .int .i64 0]
  generalize w1.alloc (.cells #[.int .i64 0, .int .i64 0, .int .i64 0, .int .i64 0, .int .i64 0, .int .i64 0, .int .i64 0] 29) = W at *
  clear hk1 hz1 hk2
  have hT := H.out.same hsW
  have hkt := hT.blk.cell
  have hkc := hcW.cell
  have hne : w1.heap.size ≠ w.heap.size + 1 := by omega
  have hlp := H.out.mp.lt
  have hls := H.out.ms.lt
  have hlg := H.out.blk.lt
  obtain ⟨w2, hrun, hM, hch⟩ := (hT.ms.same ((Chg.refl (fun _ => False) W).drew)).store Tryz.underlying3 Tryz.underlying86 (by have := hT.room; have := hT.bound; unfold maxLen; omega) (si, lo, hi) Hw.out.2
  have hb2 := (hbW.drew).chg hch (by omega)
  have hn2 := (hnW.drew).chg hch (by omega)
  have hc2 := (hcW.drew).chg hch (by omega)
  have hkb2 := hb2.cell
  have hkn2 := hn2.cell
  have hkc2 := hc2.cell
  have hzb2 := hb2.frozen
  have hzn2 := hn2.frozen
  have Hb2 := hide hb2
  have HM2 := hide hM
  have Hch := hide hch
  have HsW := hide hsW
  unfold agg3 at hrun
  clear hT hcW hbW hnW hb2 hn2 hc2 hM hch hsW
  go_region
  go_wp2_with fail
  have hcw : Chg (fun k => k = sm) w _ := Chg.put7 (g := w1.heap.size) (Chg.of_same (Same.trans HsW.out (Chg.drew (Chg.refl _ _))) Hch.out) (.inr (by omega)) (.int .i64 4) (.int .i64 0) (.int .i64 0) (.int .i64 0) (.int .i64 si) (.int .i64 lo) (.int .i64 hi)
  refine bodyPost_ret (results_cell2 rfl rfl (Blk.put7 (put_far Hb2.out (fun e => hne e.symm) _ _ _ _ _ _ _) _ _ _ _ _ _ _) Tryz.underlying29 rfl (by kernel_rfl)) rfl ⟨rfl, put_map (put_map HM2.out (by omega) _ _ _ _ _ _ _) (by omega) _ _ _ _ _ _ _, Chg.put7 hcw (.inr (by omega)) _ _ _ _ _ _ _⟩
theorem do_2 {g pm sm : Nat} {most : Int} {p s : List P3} (q x : P3) (w : World) (h : Tab w g pm sm most p s) (hw : WfC ⟨2, q, x⟩) (hm : mayE p s most ⟨2, q, x⟩ = 0) :
    Calls Tryz.prog 50 #[.pointer (some ⟨g, 0, none⟩), cgV ⟨2, q, x⟩] w fun e w' => e = .returned (.tuple #[cgV ⟨1, (find3 p q.1).getD z3, z3⟩, .int .i64 0]) ∧ MapI w' pm (del3 q.1 p) ∧ Chg (fun k => k = pm) w w' := by
  have HM := hide (fun w' (hs : Same w w') => may_any _ w' (h.same hs) hw)
  rw [hm] at HM
  have hs : Same w ((w.alloc (.cells (bx ⟨2, q, x⟩) 29)).alloc (.cells (bx ⟨0, z3, z3⟩) 29)) := ((Chg.refl _ w).alloc _).alloc _
  have hc := (Blk.new w 29 (bx ⟨2, q, x⟩)).alloc (.cells (bx ⟨0, z3, z3⟩) 29)
  have hb := Blk.new (w.alloc (.cells (bx ⟨2, q, x⟩) 29)) 29 (bx ⟨0, z3, z3⟩)
  rw [show (w.alloc (.cells (bx ⟨2, q, x⟩) 29)).heap.size = w.heap.size + 1 by simp] at hb
  have H := hide h
  have Hw := hide hw
  have Hs := hide hs
  have Hb := hide hb
  have Hc := hide hc
  clear hs h hb hw hc hm
  generalize hy0 : (find3 p q.1).getD z3 = y at *
  obtain ⟨y1, y2, y3⟩ := y
  obtain ⟨pi, px, py⟩ := q
  obtain ⟨si, lo, hi⟩ := x
  unfold cgV bx z3 at *
  have hy : (find3 p pi).getD (0, 0, 0) = (y1, y2, y3) := hy0
  clear hy0
  go_enter Tryz.func50, Tryz.ntmps50
  go_wp2_with (go_at_call 80; refine (HM.out _ Hs.out).mono ?_; rintro e w1 ⟨rfl, hs1⟩; have hk1 := (Hb.out.same hs1).cell; have hz1 := (Hb.out.same hs1).frozen; have bb1 := (Hb.out.same hs1).lt; have hk2 := (Hc.out.same hs1).cell; have bb2 := (Hc.out.same hs1).lt; have Hs1 := hide hs1; clear hs1)
  have hsW : Same w (w1.alloc (.cells #[.int .i64 0, .int .i64 0, .int .i64 0, .int .i64 0, .int .i64 0, .int .i64 0, .int .i64 0] 29)) := Chg.alloc (Hs.out.trans Hs1.out) _
  have hcW := (Hc.out.same Hs1.out).alloc (.cells #[.int .i64 0, .int .i64 0, .int .i64 0, .int .i64 0, .int .i64 0, .int .i64 0, .int .i64 0] 29)
  have hbW := (Hb.out.same Hs1.out).alloc (.cells #[.int .i64 0, .int .i64 0, .int .i64 0, .int .i64 0, .int .i64 0, .int .i64 0, .int .i64 0] 29)
  have hnW := Blk.new w1 29 #[.int .i64 0, .int .i64 0, .int .i64 0, .int .i64 0, .int .i64 0, .int .i64 0, .int .i64 0]
  generalize w1.alloc (.cells #[.int .i64 0, .int .i64 0, .int .i64 0, .int .i64 0, .int .i64 0, .int .i64 0, .int .i64 0] 29) = W at *
  clear hk1 hz1 hk2
  have hT := H.out.same hsW
  have hkt := hT.blk.cell
  have hkc := hcW.cell
  have hne : w1.heap.size ≠ w.heap.size + 1 := by omega
  have hlp := H.out.mp.lt
  have hls := H.out.ms.lt
  have hlg := H.out.blk.lt
  have hlook := (hT.mp.same ((Chg.refl (fun _ => False) W).drew)).look1 (k := pi) Tryz.underlying3 Tryz.underlying85 (zeroP _) Hw.out.1
  rw [hy] at hlook
  have hkn := hnW.cell
  have hzn := hnW.frozen
  have HbW := hide hbW
  have HnW := hide hnW
  have HcW := hide hcW
  have HT := hide hT
  have HsW := hide hsW
  unfold agg3 at hlook
  clear hT hcW hbW hnW hsW hy
  go_region
  have hsV : Same w (((((((W.setCell ⟨w1.heap.size, 0, none⟩ (.int .i64 1)).setCell ⟨w1.heap.size, 1, none⟩ (.int .i64 y1)).setCell ⟨w1.heap.size, 2, none⟩ (.int .i64 y2)).setCell ⟨w1.heap.size, 3, none⟩ (.int .i64 y3)).setCell ⟨w1.heap.size, 4, none⟩ (.int .i64 0)).setCell ⟨w1.heap.size, 5, none⟩ (.int .i64 0)).setCell ⟨w1.heap.size, 6, none⟩ (.int .i64 0)) := Chg.put7 (g := w1.heap.size) HsW.out (.inr (by omega)) (.int .i64 1) (.int .i64 y1) (.int .i64 y2) (.int .i64 y3) (.int .i64 0) (.int .i64 0) (.int .i64 0)
  have hcV : Blk (((((((W.setCell ⟨w1.heap.size, 0, none⟩ (.int .i64 1)).setCell ⟨w1.heap.size, 1, none⟩ (.int .i64 y1)).setCell ⟨w1.heap.size, 2, none⟩ (.int .i64 y2)).setCell ⟨w1.heap.size, 3, none⟩ (.int .i64 y3)).setCell ⟨w1.heap.size, 4, none⟩ (.int .i64 0)).setCell ⟨w1.heap.size, 5, none⟩ (.int .i64 0)).setCell ⟨w1.heap.size, 6, none⟩ (.int .i64 0)) _ _ _ := put_far HcW.out (by omega) (.int .i64 1) (.int .i64 y1) (.int .i64 y2) (.int .i64 y3) (.int .i64 0) (.int .i64 0) (.int .i64 0)
  have hbV : Blk (((((((W.setCell ⟨w1.heap.size, 0, none⟩ (.int .i64 1)).setCell ⟨w1.heap.size, 1, none⟩ (.int .i64 y1)).setCell ⟨w1.heap.size, 2, none⟩ (.int .i64 y2)).setCell ⟨w1.heap.size, 3, none⟩ (.int .i64 y3)).setCell ⟨w1.heap.size, 4, none⟩ (.int .i64 0)).setCell ⟨w1.heap.size, 5, none⟩ (.int .i64 0)).setCell ⟨w1.heap.size, 6, none⟩ (.int .i64 0)) _ _ _ := put_far HbW.out (by omega) (.int .i64 1) (.int .i64 y1) (.int .i64 y2) (.int .i64 y3) (.int .i64 0) (.int .i64 0) (.int .i64 0)
  have hnV : Blk (((((((W.setCell ⟨w1.heap.size, 0, none⟩ (.int .i64 1)).setCell ⟨w1.heap.size, 1, none⟩ (.int .i64 y1)).setCell ⟨w1.heap.size, 2, none⟩ (.int .i64 y2)).setCell ⟨w1.heap.size, 3, none⟩ (.int .i64 y3)).setCell ⟨w1.heap.size, 4, none⟩ (.int .i64 0)).setCell ⟨w1.heap.size, 5, none⟩ (.int .i64 0)).setCell ⟨w1.heap.size, 6, none⟩ (.int .i64 0)) _ _ _ := Blk.put7 HnW.out (.int .i64 1) (.int .i64 y1) (.int .i64 y2) (.int .i64 y3) (.int .i64 0) (.int .i64 0) (.int .i64 0)
  generalize ((((((W.setCell ⟨w1.heap.size, 0, none⟩ (.int .i64 1)).setCell ⟨w1.heap.size, 1, none⟩ (.int .i64 y1)).setCell ⟨w1.heap.size, 2, none⟩ (.int .i64 y2)).setCell ⟨w1.heap.size, 3, none⟩ (.int .i64 y3)).setCell ⟨w1.heap.size, 4, none⟩ (.int .i64 0)).setCell ⟨w1.heap.size, 5, none⟩ (.int .i64 0)).setCell ⟨w1.heap.size, 6, none⟩ (.int .i64 0) = V at *
  clear hkt hkc hkn hzn hlook
  have hT := H.out.same hsV
  have hkt := hT.blk.cell
  have hkc := hcV.cell
  obtain ⟨w2, hrun, hM, hch⟩ := (hT.mp.same (((Chg.refl (fun _ => False) V).drew).drew)).drop (k := pi) Tryz.underlying3 Tryz.underlying85 Hw.out.1 0
  have hb2 := (hbV.drew.drew).chg hch (by omega)
  have hn2 := (hnV.drew.drew).chg hch (by omega)
  have hkb2 := hb2.cell
  have hkn2 := hn2.cell
  have hzb2 := hb2.frozen
  have hzn2 := hn2.frozen
  have Hb2 := hide hb2
  have HM2 := hide hM
  have Hch := hide hch
  have HsV := hide hsV
  clear hT hcV hbV hnV hb2 hn2 hM hch hsV
  go_wp2_with fail
  go_region
  go_wp2_with fail
  have hcw : Chg (fun k => k = pm) w w2 := Chg.of_same (Same.trans HsV.out (Chg.drew (Chg.drew (Chg.refl _ _)))) Hch.out
  refine bodyPost_ret (results_cell2 rfl rfl (Blk.put7 Hb2.out _ _ _ _ _ _ _) Tryz.underlying29 rfl (by kernel_rfl)) rfl ⟨rfl, put_map HM2.out (by omega) _ _ _ _ _ _ _, Chg.put7 hcw (.inr (by omega)) _ _ _ _ _ _ _⟩
theorem do_4 {g pm sm : Nat} {most : Int} {p s : List P3} (q x : P3) (w : World) (h : Tab w g pm sm most p s) (hw : WfC ⟨4, q, x⟩) (hm : mayE p s most ⟨4, q, x⟩ = 0) :
    Calls Tryz.prog 50 #[.pointer (some ⟨g, 0, none⟩), cgV ⟨4, q, x⟩] w fun e w' => e = .returned (.tuple #[cgV ⟨3, z3, (find3 s x.1).getD z3⟩, .int .i64 0]) ∧ MapI w' sm (del3 x.1 s) ∧ Chg (fun k => k = sm) w w' := by
  have HM := hide (fun w' (hs : Same w w') => may_any _ w' (h.same hs) hw)
  rw [hm] at HM
  have hs : Same w ((w.alloc (.cells (bx ⟨4, q, x⟩) 29)).alloc (.cells (bx ⟨0, z3, z3⟩) 29)) := ((Chg.refl _ w).alloc _).alloc _
  have hc := (Blk.new w 29 (bx ⟨4, q, x⟩)).alloc (.cells (bx ⟨0, z3, z3⟩) 29)
  have hb := Blk.new (w.alloc (.cells (bx ⟨4, q, x⟩) 29)) 29 (bx ⟨0, z3, z3⟩)
  rw [show (w.alloc (.cells (bx ⟨4, q, x⟩) 29)).heap.size = w.heap.size + 1 by simp] at hb
  have H := hide h
  have Hw := hide hw
  have Hs := hide hs
  have Hb := hide hb
  have Hc := hide hc
  clear hs h hb hw hc hm
  generalize hy0 : (find3 s x.1).getD z3 = y at *
  obtain ⟨y1, y2, y3⟩ := y
  obtain ⟨pi, px, py⟩ := q
  obtain ⟨si, lo, hi⟩ := x
  unfold cgV bx z3 at *
  have hy : (find3 s si).getD (0, 0, 0) = (y1, y2, y3) := hy0
  clear hy0
  go_enter Tryz.func50, Tryz.ntmps50
  go_wp2_with (go_at_call 80; refine (HM.out _ Hs.out).mono ?_; rintro e w1 ⟨rfl, hs1⟩; have hk1 := (Hb.out.same hs1).cell; have hz1 := (Hb.out.same hs1).frozen; have bb1 := (Hb.out.same hs1).lt; have hk2 := (Hc.out.same hs1).cell; have bb2 := (Hc.out.same hs1).lt; have Hs1 := hide hs1; clear hs1)
  have hsW : Same w (w1.alloc (.cells #[.int .i64 0, .int .i64 0, .int .i64 0, .int .i64 0, .int .i64 0, .int .i64 0, .int .i64 0] 29)) := Chg.alloc (Hs.out.trans Hs1.out) _
  have hcW := (Hc.out.same Hs1.out).alloc (.cells #[.int .i64 0, .int .i64 0, .int .i64 0, .int .i64 0, .int .i64 0, .int .i64 0, .int .i64 0] 29)
  have hbW := (Hb.out.same Hs1.out).alloc (.cells #[.int .i64 0, .int .i64 0, .int .i64 0, .int .i64 0, .int .i64 0, .int .i64 0, .int .i64 0] 29)
  have hnW := Blk.new w1 29 #[.int .i64 0, .int .i64 0, .int .i64 0, .int .i64 0, .int .i64 0, .int .i64 0, .int .i64 0]
  generalize w1.alloc (.cells #[.int .i64 0, .int .i64 0, .int .i64 0, .int .i64 0, .int .i64 0, .int .i64 0, .int .i64 0] 29) = W at *
  clear hk1 hz1 hk2
  have hT := H.out.same hsW
  have hkt := hT.blk.cell
  have hkc := hcW.cell
  have hne : w1.heap.size ≠ w.heap.size + 1 := by omega
  have hlp := H.out.mp.lt
  have hls := H.out.ms.lt
  have hlg := H.out.blk.lt
  have hlook := (hT.ms.same ((Chg.refl (fun _ => False) W).drew)).look1 (k := si) Tryz.underlying3 Tryz.underlying86 (zeroS _) Hw.out.2
  rw [hy] at hlook
  have hkn := hnW.cell
  have hzn := hnW.frozen
  have HbW := hide hbW
  have HnW := hide hnW
  have HcW := hide hcW
  have HT := hide hT
  have HsW := hide hsW
  unfold agg3 at hlook
  clear hT hcW hbW hnW hsW hy
  go_region
  have hsV : Same w (((((((W.setCell ⟨w1.heap.size, 0, none⟩ (.int .i64 3)).setCell ⟨w1.heap.size, 1, none⟩ (.int .i64 0)).setCell ⟨w1.heap.size, 2, none⟩ (.int .i64 0)).setCell ⟨w1.heap.size, 3, none⟩ (.int .i64 0)).setCell ⟨w1.heap.size, 4, none⟩ (.int .i64 y1)).setCell ⟨w1.heap.size, 5, none⟩ (.int .i64 y2)).setCell ⟨w1.heap.size, 6, none⟩ (.int .i64 y3)) := Chg.put7 (g := w1.heap.size) HsW.out (.inr (by omega)) (.int .i64 3) (.int .i64 0) (.int .i64 0) (.int .i64 0) (.int .i64 y1) (.int .i64 y2) (.int .i64 y3)
  have hcV : Blk (((((((W.setCell ⟨w1.heap.size, 0, none⟩ (.int .i64 3)).setCell ⟨w1.heap.size, 1, none⟩ (.int .i64 0)).setCell ⟨w1.heap.size, 2, none⟩ (.int .i64 0)).setCell ⟨w1.heap.size, 3, none⟩ (.int .i64 0)).setCell ⟨w1.heap.size, 4, none⟩ (.int .i64 y1)).setCell ⟨w1.heap.size, 5, none⟩ (.int .i64 y2)).setCell ⟨w1.heap.size, 6, none⟩ (.int .i64 y3)) _ _ _ := put_far HcW.out (by omega) (.int .i64 3) (.int .i64 0) (.int .i64 0) (.int .i64 0) (.int .i64 y1) (.int .i64 y2) (.int .i64 y3)
  have hbV : Blk (((((((W.setCell ⟨w1.heap.size, 0, none⟩ (.int .i64 3)).setCell ⟨w1.heap.size, 1, none⟩ (.int .i64 0)).setCell ⟨w1.heap.size, 2, none⟩ (.int .i64 0)).setCell ⟨w1.heap.size, 3, none⟩ (.int .i64 0)).setCell ⟨w1.heap.size, 4, none⟩ (.int .i64 y1)).setCell ⟨w1.heap.size, 5, none⟩ (.int .i64 y2)).setCell ⟨w1.heap.size, 6, none⟩ (.int .i64 y3)) _ _ _ := put_far HbW.out (by omega) (.int .i64 3) (.int .i64 0) (.int .i64 0) (.int .i64 0) (.int .i64 y1) (.int .i64 y2) (.int .i64 y3)
  have hnV : Blk (((((((W.setCell ⟨w1.heap.size, 0, none⟩ (.int .i64 3)).setCell ⟨w1.heap.size, 1, none⟩ (.int .i64 0)).setCell ⟨w1.heap.size, 2, none⟩ (.int .i64 0)).setCell ⟨w1.heap.size, 3, none⟩ (.int .i64 0)).setCell ⟨w1.heap.size, 4, none⟩ (.int .i64 y1)).setCell ⟨w1.heap.size, 5, none⟩ (.int .i64 y2)).setCell ⟨w1.heap.size, 6, none⟩ (.int .i64 y3)) _ _ _ := Blk.put7 HnW.out (.int .i64 3) (.int .i64 0) (.int .i64 0) (.int .i64 0) (.int .i64 y1) (.int .i64 y2) (.int .i64 y3)
  generalize ((((((W.setCell ⟨w1.heap.size, 0, none⟩ (.int .i64 3)).setCell ⟨w1.heap.size, 1, none⟩ (.int .i64 0)).setCell ⟨w1.heap.size, 2, none⟩ (.int .i64 0)).setCell ⟨w1.heap.size, 3, none⟩ (.int .i64 0)).setCell ⟨w1.heap.size, 4, none⟩ (.int .i64 y1)).setCell ⟨w1.heap.size, 5, none⟩ (.int .i64 y2)).setCell ⟨w1.heap.size, 6, none⟩ (.int .i64 y3) = V at *
  clear hkt hkc hkn hzn hlook
  have hT := H.out.same hsV
  have hkt := hT.blk.cell
  have hkc := hcV.cell
  obtain ⟨w2, hrun, hM, hch⟩ := (hT.ms.same (((Chg.refl (fun _ => False) V).drew).drew)).drop (k := si) Tryz.underlying3 Tryz.underlying86 Hw.out.2 0
  have hb2 := (hbV.drew.drew).chg hch (by omega)
  have hn2 := (hnV.drew.drew).chg hch (by omega)
  have hkb2 := hb2.cell
  have hkn2 := hn2.cell
  have hzb2 := hb2.frozen
  have hzn2 := hn2.frozen
  have Hb2 := hide hb2
  have HM2 := hide hM
  have Hch := hide hch
  have HsV := hide hsV
  clear hT hcV hbV hnV hb2 hn2 hM hch hsV
  go_wp2_with fail
  go_region
  go_wp2_with fail
  have hcw : Chg (fun k => k = sm) w w2 := Chg.of_same (Same.trans HsV.out (Chg.drew (Chg.drew (Chg.refl _ _)))) Hch.out
  refine bodyPost_ret (results_cell2 rfl rfl (Blk.put7 Hb2.out _ _ _ _ _ _ _) Tryz.underlying29 rfl (by kernel_rfl)) rfl ⟨rfl, put_map HM2.out (by omega) _ _ _ _ _ _ _, Chg.put7 hcw (.inr (by omega)) _ _ _ _ _ _ _⟩
end Go.Proofs.YtlimpepdelpogaaGreatDoor
/-! TbE -/
namespace Go.Proofs.YtlimpepdelpogaaGreatDoor
open Go.RowKit Go.Al
set_option linter.unusedVariables false
set_option maxHeartbeats 400000
set_option maxRecDepth 100000
/-! Do in one contract -/
def doB (p s : List P3) (most : Int) (c : Cg) : Cg := if mayE p s most c = 0 then backC p s c else ⟨0, z3, z3⟩
def doP' (p s : List P3) (most : Int) (c : Cg) : List P3 := if mayE p s most c = 0 then doP p c else p
def doS' (p s : List P3) (most : Int) (c : Cg) : List P3 := if mayE p s most c = 0 then doS s c else s
theorem may_zero {p s : List P3} {most : Int} {c : Cg} (h : mayE p s most c = 0) :
    (c.k = 1 ∨ c.k = 2 ∨ c.k = 3 ∨ c.k = 4) ∧ (addsC c = true → isC p s c = false ∧ (p.length : Int) + (s.length : Int) < most) ∧ (addsC c = false → isC p s c = true) ∧ judgeE c = 0 := by
  unfold mayE at h
  by_cases hj : judgeE c = 0
  · rw [if_pos hj] at h
    refine ⟨?_, ?_, ?_, hj⟩
    · unfold judgeE at hj
      split at hj
      · omega
      · rename_i hn
        have : kindC c = true := by
          cases hk : kindC c
          · exact absurd (.inl hk) hn
          · rfl
        simpa [kindC] using this
    · intro ha
      rw [if_pos ha] at h
      cases hi : isC p s c
      · rw [hi] at h
        refine ⟨rfl, ?_⟩
        by_cases hl : most ≤ (p.length : Int) + (s.length : Int)
        · rw [if_pos hl] at h; simp at h
        · omega
      · rw [hi] at h; simp at h
    · intro ha
      rw [if_neg (by simp [ha])] at h
      cases hi : isC p s c
      · rw [hi] at h; simp at h
      · rfl
  · rw [if_neg hj] at h
    exact absurd h hj
theorem do_any {g pm sm : Nat} {most : Int} {p s : List P3} (c : Cg) (w : World) (h : Tab w g pm sm most p s) (hw : WfC c) :
    Calls Tryz.prog 50 #[.pointer (some ⟨g, 0, none⟩), cgV c] w fun e w' => e = .returned (.tuple #[cgV (doB p s most c), .int .i64 (mayE p s most c)]) ∧
      Tab w' g pm sm most (doP' p s most c) (doS' p s most c) ∧ Chg (fun k => k = pm ∨ k = sm) w w' := by
  unfold doB doP' doS'
  have hne := h.ne
  have hgp := h.gp
  have hgs := h.gs
  have hr := h.room
  by_cases hm : mayE p s most c = 0
  · rw [if_pos hm, if_pos hm, if_pos hm, hm]
    obtain ⟨hk, hadd, hdrop, _⟩ := may_zero hm
    obtain ⟨k, q, x⟩ := c
    simp only at hk
    rcases hk with rfl | rfl | rfl | rfl
    · obtain ⟨h1, h2⟩ := hadd rfl
      have h3 : hasK p q.1 = false := h1
      exact (do_1 q x w h hw hm).mono fun e w' ⟨he, hM, hc⟩ => ⟨he, ⟨h.blk.chg hc hgp, hM, h.ms.chg hc (fun e => hne e.symm), h.ne, h.gp, h.gs, (by show ((put3 q p).length : Int) + (s.length : Int) ≤ most; rw [len_put3 h3]; omega), h.bound⟩, hc.mono fun _ _ e => .inl e⟩
    · have h3 : hasK p q.1 = true := hdrop rfl
      exact (do_2 q x w h hw hm).mono fun e w' ⟨he, hM, hc⟩ => ⟨he, ⟨h.blk.chg hc hgp, hM, h.ms.chg hc (fun e => hne e.symm), h.ne, h.gp, h.gs, (by show ((del3 q.1 p).length : Int) + (s.length : Int) ≤ most; have := len_del3 h.mp.2 h3; omega), h.bound⟩, hc.mono fun _ _ e => .inl e⟩
    · obtain ⟨h1, h2⟩ := hadd rfl
      have h3 : hasK s x.1 = false := h1
      exact (do_3 q x w h hw hm).mono fun e w' ⟨he, hM, hc⟩ => ⟨he, ⟨h.blk.chg hc hgs, h.mp.chg hc hne, hM, h.ne, h.gp, h.gs, (by show (p.length : Int) + ((put3 x s).length : Int) ≤ most; rw [len_put3 h3]; omega), h.bound⟩, hc.mono fun _ _ e => .inr e⟩
    · have h3 : hasK s x.1 = true := hdrop rfl
      exact (do_4 q x w h hw hm).mono fun e w' ⟨he, hM, hc⟩ => ⟨he, ⟨h.blk.chg hc hgs, h.mp.chg hc hne, hM, h.ne, h.gp, h.gs, (by show (p.length : Int) + ((del3 x.1 s).length : Int) ≤ most; have := len_del3 h.ms.2 h3; omega), h.bound⟩, hc.mono fun _ _ e => .inr e⟩
  · rw [if_neg hm, if_neg hm, if_neg hm]
    exact (do_bad c w h hw hm).mono fun e w' ⟨he, hs⟩ => ⟨he, h.same hs, hs.to⟩
theorem len_any {g pm sm : Nat} {most : Int} {p s : List P3} (w : World) (h : Tab w g pm sm most p s) :
    Calls Tryz.prog 14 #[.pointer (some ⟨g, 0, none⟩)] w fun e w' => e = .returned (.int .i64 ((p.length : Int) + (s.length : Int))) ∧ Same w w' := by
  have HS := hide (size_any w h)
  clear h
  go_enter Tryz.func14, Tryz.ntmps14
  go_wp2_with (go_at_call 30; have hF := HS.out; refine hF.mono ?_; rintro e w1 ⟨rfl, hs1⟩; have Hs1 := hide hs1; clear hs1 hF)
  go_ret
  exact ⟨rfl, Hs1.out⟩
/-! no table -/
end Go.Proofs.YtlimpepdelpogaaGreatDoor
