/-
  ScriptShows' walk. Conditions: bytes as they lie; numbers that an int holds; what Go's library has laid.
-/
import Derived.Test.YtlodanjpkjfjiaaGreatDoorShR
import Derived.Test.YtlodanjpkjfjiaaGreatDoorOnG
import Derived.Test.YtlodanjpkjfjiaaGreatDoorScN
import Derived.Test.YtlodanjpkjfjiaaGreatDoorLvA
import Derived.Test.YtlodanjpkjfjiaaGreatDoorSpl
import Derived.Test.YtlodanjpkjfjiaaGreatDoorMy
namespace Go.Proofs.YtlodanjpkjfjiaaGreatDoor
open Go.RowKit Go.Al
set_option linter.unusedVariables false

/-- what operation i of the first region may change, and what may have changed when operation k begins -/
def EffS (g1 g2 i : Nat) (w w' : World) : Prop := Chg (fun b => (i = 4 ∧ b = g1) ∨ (i = 5 ∧ b = g2)) w w'
def RelS (g1 g2 k : Nat) (w w' : World) : Prop := Chg (fun b => (k ≠ 0 ∧ k ≠ 1 ∧ k ≠ 4 ∧ b = g1) ∨ (k ≠ 2 ∧ k ≠ 3 ∧ k ≠ 5 ∧ b = g2)) w w'
theorem EffS.of_same {g1 g2 i : Nat} {w w' : World} (h : Same w w') : EffS g1 g2 i w w' := Same.to h
theorem RelS.trans {g1 g2 k : Nat} {a b c : World} (h : RelS g1 g2 k a b) (h' : RelS g1 g2 k b c) : RelS g1 g2 k a c := Chg.trans h h' fun _ _ h => h
theorem RelS.of {ops : Array Oper} {g1 g2 k i : Nat} {w w' : World} (h40 : anc .any ops ops.size 4 0 = true) (h41 : anc .any ops ops.size 4 1 = true) (h52 : anc .any ops ops.size 5 2 = true) (h53 : anc .any ops ops.size 5 3 = true)
    (hik : i ≠ k) (ha : k < 6 → anc .any ops ops.size i k = false) (he : EffS g1 g2 i w w') : RelS g1 g2 k w w' := he.mono fun b _ hb => by
  rcases hb with ⟨rfl, rfl⟩ | ⟨rfl, rfl⟩
  · refine .inl ⟨?_, ?_, fun e => hik e.symm, rfl⟩
    · rintro rfl; rw [ha (by decide)] at h40; cases h40
    · rintro rfl; rw [ha (by decide)] at h41; cases h41
  · refine .inr ⟨?_, ?_, fun e => hik e.symm, rfl⟩
    · rintro rfl; rw [ha (by decide)] at h52; cases h52
    · rintro rfl; rw [ha (by decide)] at h53; cases h53
theorem RelS.both {g1 g2 k : Nat} {w w' : World} (h : RelS g1 g2 k w w') : Chg (fun b => b = g1 ∨ b = g2) w w' := h.mono fun b _ hb => by
  rcases hb with ⟨_, _, _, h⟩ | ⟨_, _, _, h⟩
  · exact .inl h
  · exact .inr h
theorem EffS.both {g1 g2 k : Nat} {w w' : World} (h : EffS g1 g2 k w w') : Chg (fun b => b = g1 ∨ b = g2) w w' := h.mono fun b _ hb => by
  rcases hb with ⟨_, h⟩ | ⟨_, h⟩
  · exact .inl h
  · exact .inr h
theorem EffS.st4 {g1 g2 : Nat} (w : World) (cs : Array Value) : EffS g1 g2 4 w (w.setRow g1 cs) := Chg.setRow (S := fun b => (4 = 4 ∧ b = g1) ∨ (4 = 5 ∧ b = g2)) (Chg.refl _ _) (.inl (.inl ⟨rfl, rfl⟩)) _
theorem EffS.st5 {g1 g2 : Nat} (w : World) (cs : Array Value) : EffS g1 g2 5 w (w.setRow g2 cs) := Chg.setRow (S := fun b => (5 = 4 ∧ b = g1) ∨ (5 = 5 ∧ b = g2)) (Chg.refl _ _) (.inl (.inr ⟨rfl, rfl⟩)) _
/-- what a few in the region hands back -/
def FewG (d : Ac) (B : Nat) (v : Value) (w : World) : Prop := ∃ x c, v = .agg (acL d (some x) c).toArray ∧ ActAt w d (some x) c ∧ B ≤ x.block
theorem FewG.chg {d : Ac} {B g1 g2 : Nat} {v : Value} {w w' : World} (h : FewG d B v w) (hc : Chg (fun b => b = g1 ∨ b = g2) w w') (h1 : g1 < B) (h2 : g2 < B) : FewG d B v w' := by
  obtain ⟨x, c, e, ha, hb⟩ := h
  refine ⟨x, c, e, ⟨ha.1.chg hc fun b hb' _ e' => ?_, ha.2⟩, hb⟩
  have h3 : x.block = b := Option.some.inj hb'
  rcases e' with e' | e' <;> omega
theorem FewG.same {d : Ac} {B : Nat} {v : Value} {w w' : World} (h : FewG d B v w) (hs : Same w w') : FewG d B v w' := by
  obtain ⟨x, c, e, ha, hb⟩ := h
  exact ⟨x, c, e, ha.same hs, hb⟩
/-- what a store in the region leaves -/
def StoG (g : Nat) (v : Value) (w : World) : Prop := ∀ L : List Value, v = .agg L.toArray → Blk w g 38 L.toArray
theorem agg_inj {L M : List Value} (h : Value.agg L.toArray = Value.agg M.toArray) : L = M := by
  have := Value.agg.inj h
  exact List.toArray_inj this
def AppG (l : List UInt8) (v : Value) (w : World) : Prop := ∃ A c, v = .slice A l.length c ∧ Rd w A (bs l)
theorem AppG.same {l : List UInt8} {v : Value} {w w' : World} (h : AppG l v w) (hs : Same w w') : AppG l v w' := by
  obtain ⟨A, c, h1, h2⟩ := h
  exact ⟨A, c, h1, h2.same hs⟩
def BldG (v : Value) : Prop := ∃ b, v = .slice (some ⟨b, 0, none⟩) 0 0
set_option maxRecDepth 100000 in
set_option maxHeartbeats 16000000 in
theorem shows_bad (a b : Ac) {A B : Option Addr} {c0 k0 : Nat} (w : World) (ha : Amb w) (hA : ActAt w a A c0) (hB : ActAt w b B k0) (hwa : WfA a) (hwb : WfA b) (hgd0 : goodA (fewA a) = false) :
    Calls Tryz.prog 7 #[acV a A c0, acV b B k0] w fun e w' => e = .returned (.bool true) ∧ Same w w'  := by
  have hb1 := (Blk.new w 38 (acL a A c0).toArray).alloc (.cells (acL b B k0).toArray 38)
  have hb2 := Blk.new (w.alloc (.cells (acL a A c0).toArray 38)) 38 (acL b B k0).toArray
  rw [World.size_alloc] at hb2
  have hs : Same w ((w.alloc (.cells (acL a A c0).toArray 38)).alloc (.cells (acL b B k0).toArray 38)) := ((Chg.refl _ w).alloc _).alloc _
  have HSw := hide (fun (w' : World) (h : Chg (fun b => b = w.heap.size ∨ b = w.heap.size + 1) ((w.alloc (.cells (acL a A c0).toArray 38)).alloc (.cells (acL b B k0).toArray 38)) w') => (Chg.fresh (S := fun k => w.heap.size ≤ k) (Chg.trans (Same.to hs) h (fun k _ e => (by omega))) (fun _ h => h) : Same w w'))
  have HbA := hide (fun (w' : World) (h : RelS w.heap.size (w.heap.size + 1) 4 ((w.alloc (.cells (acL a A c0).toArray 38)).alloc (.cells (acL b B k0).toArray 38)) w') => hb1.chg h (by simp))
  have HbB := hide (fun (w' : World) (h : RelS w.heap.size (w.heap.size + 1) 5 ((w.alloc (.cells (acL a A c0).toArray 38)).alloc (.cells (acL b B k0).toArray 38)) w') => hb2.chg h (by simp))
  have HraA := hide (fun (w' : World) (h : RelS w.heap.size (w.heap.size + 1) 0 ((w.alloc (.cells (acL a A c0).toArray 38)).alloc (.cells (acL b B k0).toArray 38)) w') => blk_range (hb1.chg h (by simp)))
  have HraB := hide (fun (w' : World) (h : RelS w.heap.size (w.heap.size + 1) 2 ((w.alloc (.cells (acL a A c0).toArray 38)).alloc (.cells (acL b B k0).toArray 38)) w') => blk_range (hb2.chg h (by simp)))
  have HFa := hide (fun (w' : World) (h : Chg (fun b => b = w.heap.size ∨ b = w.heap.size + 1) ((w.alloc (.cells (acL a A c0).toArray 38)).alloc (.cells (acL b B k0).toArray 38)) w') => few_any a w' (c := c0) ⟨hA.1.same (HSw.out w' h), hA.2⟩)
  have HFb := hide (fun (w' : World) (h : Chg (fun b => b = w.heap.size ∨ b = w.heap.size + 1) ((w.alloc (.cells (acL a A c0).toArray 38)).alloc (.cells (acL b B k0).toArray 38)) w') => few_any b w' (c := k0) ⟨hB.1.same (HSw.out w' h), hB.2⟩)
  have HAm := hide (fun w' (hs : Same w w') => ha.same hs)
  have HPr := hide (fun (s : List UInt8) w' (hs : Same w w') (h1 : s.length ≤ 1000000) (h2 : (Lib.split s [32]).length ≤ 1000) => Parse_any s w' (ha.same hs) h1 h2)
  have HL := hide (fun w' (hs : Same w w') => lives_any w' (ha.same hs))
  have Hll1 := hide (acL_len a A c0)
  have Hll2 := hide (acL_len b B k0)
  have Hdw := hide (fewA_good hwa)
  have Hdw2 := hide (fewA_good hwb)
  have Hdl := hide (fewA_len a)
  have Hdl0 := hide (fewA_len b)
  have Hfe := hide (fewA_few a)
  have Hfe2 := hide (fewA_few b)
  clear ha hA hB hwa hwb hb1 hb2 hs
  unfold FewEnd acV at HFa HFb
  unfold acV
  generalize acL a A c0 = La at *
  generalize acL b B k0 = Lb at *
  obtain ⟨d, hd⟩ : ∃ d, fewA a = d := ⟨_, rfl⟩
  obtain ⟨d2, hd2⟩ : ∃ d, fewA b = d := ⟨_, rfl⟩
  rw [hd] at HFa Hdw Hdl Hfe hgd0
  rw [hd2] at HFb Hdw2 Hdl0 Hfe2
  clear hd
  clear hd2
  have hgd1 := hide hgd0
  clear hgd0
  go_enter Tryz.func7, Tryz.ntmps7
  go_wp2_with fail
  refine My.wp_region_mixG (RelS w.heap.size (w.heap.size + 1)) (EffS w.heap.size (w.heap.size + 1)) 6 (fun k i a b hik ha he => RelS.of (by kernel_rfl) (by kernel_rfl) (by kernel_rfl) (by kernel_rfl) hik ha he) (fun k w => EffS.of_same (Chg.refl _ w)) (fun k a b c h1 h2 => RelS.trans h1 h2) (fun k => (Chg.refl _ _).drew) (by kernel_rfl) (by kernel_rfl) fun Fin hFin => ?_
  simp only [List.take_succ_cons, List.take_zero]
  refine My.mix_ld La ?_ (fun w => EffS.of_same (Chg.refl _ w)) (fun _ => by rfl) 38 _ rfl w.heap.size 0 (fun _ => by rfl) _ (fun w1 hR => HraA.out w1 hR) Tryz.underlying38 rfl (by rw [Hll1.out]; exact infoAct) ?_ ?_
  rotate_left
  · intro e; simp only [Act.put, List.setIfInBounds_toArray, List.set_cons_zero, List.set_cons_succ]; rfl
  refine My.mix_let (fun _ v w9 => FewG d ((w.alloc (.cells La.toArray 38)).alloc (.cells Lb.toArray 38)).heap.size v w9) ?_ (by exact Loc.const _ _) (fun i _ _ e u w1 w2 hr h => h.chg hr.both (by simp; omega) (by simp)) ?_ ?_ ?_ ?_
  rotate_left
  · intro e; rfl
  · intro e w9 hR hF K hK; go_simp; go_at_call 8; (refine (HFa.out _ hR.both).mono ?_); rintro _ w8 ⟨⟨x, c, rfl, h1, h2⟩, h3⟩; exact hK _ _ _ (EffS.of_same h3) ⟨x, c, rfl, h1, Nat.le_trans hR.size h2⟩ (by simp only [Act.put, List.setIfInBounds_toArray, List.set_cons_zero, List.set_cons_succ])
  · intro e; simp only [Act.put, List.setIfInBounds_toArray, List.set_cons_zero, List.set_cons_succ]; rfl
  refine My.mix_ld Lb ?_ (fun w => EffS.of_same (Chg.refl _ w)) (fun _ => by rfl) 38 _ rfl (w.heap.size + 1) 0 (fun _ => by rfl) _ (fun w1 hR => HraB.out w1 hR) Tryz.underlying38 rfl (by rw [Hll2.out]; exact infoAct) ?_ ?_
  rotate_left
  · intro e; simp only [Act.put, List.setIfInBounds_toArray, List.set_cons_zero, List.set_cons_succ]; rfl
  refine My.mix_let (fun _ v w9 => FewG d2 ((w.alloc (.cells La.toArray 38)).alloc (.cells Lb.toArray 38)).heap.size v w9) ?_ (by exact Loc.const _ _) (fun i _ _ e u w1 w2 hr h => h.chg hr.both (by simp; omega) (by simp)) ?_ ?_ ?_ ?_
  rotate_left
  · intro e; rfl
  · intro e w9 hR hF K hK; go_simp; go_at_call 8; (refine (HFb.out _ hR.both).mono ?_); rintro _ w8 ⟨⟨x, c, rfl, h1, h2⟩, h3⟩; exact hK _ _ _ (EffS.of_same h3) ⟨x, c, rfl, h1, Nat.le_trans hR.size h2⟩ (by simp only [Act.put, List.setIfInBounds_toArray, List.set_cons_zero, List.set_cons_succ])
  · intro e; simp only [Act.put, List.setIfInBounds_toArray, List.set_cons_zero, List.set_cons_succ]; rfl
  refine My.mix_let (fun e _ w9 => StoG w.heap.size (e 1) w9) ?_ (by intro e e' he; show (fun (_ : Value) w9 => StoG w.heap.size (e 1) w9) = (fun (_ : Value) w9 => StoG w.heap.size (e' 1) w9); rw [he 1 (by kernel_rfl)]) (fun i hi _ e u w1 w2 hr h L hL => (h L hL).chg hr (by omega)) ?_ ?_ ?_ ?_
  rotate_left
  · intro e; rfl
  · intro e w9 hR hF K hK
    obtain ⟨x, c, h1, h2, h3⟩ := (show FewG d ((w.alloc (.cells La.toArray 38)).alloc (.cells Lb.toArray 38)).heap.size (e 1) w9 from hF 1 (by kernel_rfl))
    rw [if_pos (by rfl)]
    refine wp_store_row 38 _ _ rfl w.heap.size (acL d (some x) c).toArray rfl (show e 1 = _ from h1) 38 _ (HbA.out w9 hR) (by kernel_rfl) (by rw [List.size_toArray, Hll1.out]; rfl) (all_oneCell_toArray (one_acL _ _ _)) (hK _ _ _ (EffS.st4 _ _) (fun L hL => (by rw [← agg_inj (h1.symm.trans hL)]; exact Blk.setRow_ (HbA.out w9 hR) _)) rfl)
  · intro e; rfl
  refine My.mix_let (fun e _ w9 => StoG (w.heap.size + 1) (e 3) w9) ?_ (by intro e e' he; show (fun (_ : Value) w9 => StoG (w.heap.size + 1) (e 3) w9) = (fun (_ : Value) w9 => StoG (w.heap.size + 1) (e' 3) w9); rw [he 3 (by kernel_rfl)]) (fun i hi _ e u w1 w2 hr h L hL => (h L hL).chg hr (by omega)) ?_ ?_ ?_ ?_
  rotate_left
  · intro e; rfl
  · intro e w9 hR hF K hK
    obtain ⟨x, c, h1, h2, h3⟩ := (show FewG d2 ((w.alloc (.cells La.toArray 38)).alloc (.cells Lb.toArray 38)).heap.size (e 3) w9 from hF 3 (by kernel_rfl))
    rw [if_pos (by rfl)]
    refine wp_store_row 38 _ _ rfl (w.heap.size + 1) (acL d2 (some x) c).toArray rfl (show e 3 = _ from h1) 38 _ (HbB.out w9 hR) (by kernel_rfl) (by rw [List.size_toArray, Hll2.out]; rfl) (all_oneCell_toArray (one_acL _ _ _)) (hK _ _ _ (EffS.st5 _ _) (fun L hL => (by rw [← agg_inj (h1.symm.trans hL)]; exact Blk.setRow_ (HbB.out w9 hR) _)) rfl)
  · intro e; rfl
  refine My.mix_nil fun e w1 hR hF => hFin _ _ ?_
  simp only [List.drop_succ_cons, List.drop_zero]
  obtain ⟨x, c1, h1, hA1, hz1⟩ := (show FewG d ((w.alloc (.cells La.toArray 38)).alloc (.cells Lb.toArray 38)).heap.size (e 1) w1 from hF 1 (by decide))
  obtain ⟨x2, c2, h2, hA2, hz2⟩ := (show FewG d2 ((w.alloc (.cells La.toArray 38)).alloc (.cells Lb.toArray 38)).heap.size (e 3) w1 from hF 3 (by decide))
  have hB1 := (show StoG w.heap.size (e 1) w1 from hF 4 (by decide)) _ h1
  have hB2 := (show StoG (w.heap.size + 1) (e 3) w1 from hF 5 (by decide)) _ h2
  rw [h1, h2]
  have HS1 := hide (HSw.out _ hR.both)
  have Hat1 := hide hA1
  have Hat2 := hide hA2
  obtain ⟨D, hD⟩ : ∃ D, acL d (some x) c1 = D := ⟨_, rfl⟩
  obtain ⟨D2, hD2⟩ : ∃ D, acL d2 (some x2) c2 = D := ⟨_, rfl⟩
  have HDc : ActC D d (some x) c1 := ⟨hD.symm⟩
  have HDc2 : ActC D2 d2 (some x2) c2 := ⟨hD2.symm⟩
  rw [hD] at hB1 ⊢
  rw [hD2] at hB2 ⊢
  have HB1 := hide hB1
  have HB2 := hide hB2
  clear hR hF hFin h1 h2 hA1 hA2 hz1 hz2 hB1 hB2 hD hD2
  have hgd := hgd1.out
  have HrD := hide (fun (w' : World) (hs : Same w1 w') => blk_range (HB1.out.same hs))
  have HrD2 := hide (fun (w' : World) (hs : Same w1 w') => blk_range (HB2.out.same hs))
  have Hsl := hide (fun (w' : World) (hs : Same w1 w') => (show w'.cell? ⟨w.heap.size, 21, none⟩ = some (.slice (some x) d.b.length c1) from by rw [(HB1.out.same hs).cell 21, List.getElem?_toArray]; exact HDc.c21))
  have HFd : Hid (∀ w', Same w1 w' → Calls Tryz.prog 8 #[.agg D.toArray] w' fun e w'' => (∃ x c, e = .returned (.agg (acL d (some x) c).toArray) ∧ ActAt w'' d (some x) c) ∧ Same w' w'') := hide fun w' hs => (by
    have h := few_any d w' (Hat1.out.same hs)
    unfold FewEnd at h
    rw [Hfe.out] at h
    rw [show acV d (some x) c1 = .agg D.toArray from by unfold acV; rw [← HDc.eq]] at h
    exact h.mono fun e w'' ⟨⟨x, c, h1, h2, _⟩, h3⟩ => ⟨⟨x, c, h1, h2⟩, h3⟩)
  have HFd2 : Hid (∀ w', Same w1 w' → Calls Tryz.prog 8 #[.agg D2.toArray] w' fun e w'' => (∃ x c, e = .returned (.agg (acL d2 (some x) c).toArray) ∧ ActAt w'' d2 (some x) c) ∧ Same w' w'') := hide fun w' hs => (by
    have h := few_any d2 w' (Hat2.out.same hs)
    unfold FewEnd at h
    rw [Hfe2.out] at h
    rw [show acV d2 (some x2) c2 = .agg D2.toArray from by unfold acV; rw [← HDc2.eq]] at h
    exact h.mono fun e w'' ⟨⟨x, c, h1, h2, _⟩, h3⟩ => ⟨⟨x, c, h1, h2⟩, h3⟩)
  have HSh : Hid (∀ (x : Addr) (c : Nat) w', ActAt w' d (some x) c → Same w1 w' → Calls Tryz.prog 18 #[.agg (acL d (some x) c).toArray] w' fun e w'' => e = .returned (.tuple #[.string ⟨([] : List UInt8).toArray⟩, .int .i64 8]) ∧ Same w' w'') := hide fun x c w' h hs => (by
    have h1 := Show_any (c := c) d w' h.1 (Nat.le_trans Hdl.out (by decide)) Hdw.out (HAm.out w' (Same.trans HS1.out hs))
    unfold ShowEnd strV at h1
    rw [hgd] at h1
    simp only [Bool.false_eq_true, if_false] at h1
    exact h1)
  have HGo : Hid (∀ (x : Addr) (c : Nat) w', Calls Tryz.prog 19 #[.agg (acL d (some x) c).toArray] w' fun e w'' => e = .returned (.bool false) ∧ Same w' w'') := hide fun x c w' => (by
    have h1 := sGood_any d (some x) c w' (Nat.le_trans Hdl.out (by decide))
    rw [hgd] at h1
    exact h1)
  have HGr : Hid (∀ w', Calls Tryz.prog 11 #[.agg D.toArray] w' fun e w'' => e = .returned (.bool false) ∧ Same w' w'') := hide fun w' => (by
    have h1 := rgoodA_any d (some x) c1 w' (Nat.le_trans Hdl.out (by decide))
    rw [hgd, show acV d (some x) c1 = .agg D.toArray from by unfold acV; rw [← HDc.eq]] at h1
    exact h1)
  have HHx := hide (fun (A : Option Addr) (c : Nat) (w' : World) (h : Rd w' A (bs d.b)) => Hex_any (c := c) d.b w' h (Nat.le_trans Hdl.out (by decide)))
  have HHr := hide (fun (w' : World) (hs : Same w1 w') => rHex_any (c := c1) d.b w' (Hat1.out.1.same hs) (Nat.le_trans Hdl.out (by decide)))
  have HLi : Hid (∀ w', Same w1 w' → Calls Tryz.prog 13 #[] w' fun e w'' => e = .returned (.bool true) ∧ Same w' w'') := hide fun w' hs => HL.out w' (Same.trans HS1.out hs)
  have Hbl := hide (show (bs d.b).length = d.b.length * 1 by simp [bs])
  have Hdl2 := Hdl.out
  unfold strV at HHx HHr
  have HrD0 := hide (HrD.out w1 (Chg.refl _ _))
  clear hgd
  go_wp2_with (first
    | ((with_reducible refine ldR 38 w.heap.size 0 22 D rowAct HDc.len HrD0.out ?_ ?_ ?_); rfl; rfl)
    | (go_at_call 8; ((with_reducible refine (HFd.out _ (Chg.refl _ _)).mono ?_); rintro e w2 ⟨⟨x', c', rfl, hat⟩, hs2⟩; have hSh2 := HSh.out x' c' w2 hat hs2; have HSh2 := hide hSh2; have Hs2 := hide hs2; obtain ⟨F, hF⟩ : ∃ F, acL d (some x') c' = F := ⟨_, rfl⟩; rw [hF] at HSh2 ⊢; clear hat hSh2 hs2 hF))
    | (go_at_call 18; ((with_reducible refine HSh2.out.mono ?_); rintro e w12 ⟨rfl, hs12⟩; have Hs12 := hide (Same.trans Hs2.out hs12); clear hs12))
    | fail)
  refine wp_region_mixS 17 (by kernel_rfl) (by kernel_rfl) fun Fin hFin => ?_
  simp only [List.take_succ_cons, List.take_zero]
  refine mix_ld D ?_ (fun w => Chg.refl _ w) (fun _ => by rfl) 38 _ rfl w.heap.size 0 (fun _ => by rfl) _ (fun w1 hR => HrD.out _ (Same.trans Hs12.out hR)) Tryz.underlying38 rfl (by rw [HDc.len]; exact infoAct) ?_ ?_
  rotate_left
  · intro e; simp only [Act.put, List.setIfInBounds_toArray, List.set_cons_zero, List.set_cons_succ]; rfl
  refine mix_letS (fun _ v w9 => ∃ x c, v = .agg (acL d (some x) c).toArray ∧ ActAt w9 d (some x) c) ?_ (by exact Loc.const _ _) ?_ ?_ ?_ ?_ ?_
  rotate_left
  · rintro e u w1 w2 hs ⟨x, c, h1, h2⟩; exact ⟨x, c, h1, h2.same hs⟩
  · intro e; rfl
  · intro e w9 hR hF K hK; go_simp; go_at_call 8; (refine (HFd.out _ (Same.trans Hs12.out hR)).mono ?_); rintro _ w8 ⟨⟨x, c, rfl, h1⟩, h3⟩; exact hK _ _ _ h3 ⟨x, c, rfl, h1⟩ (by simp only [Act.put, List.setIfInBounds_toArray, List.set_cons_zero, List.set_cons_succ])
  · intro e; simp only [Act.put, List.setIfInBounds_toArray, List.set_cons_zero, List.set_cons_succ]; rfl
  iterate 1 (
      (refine mix_lit ?_ ?_ (fun w => Chg.refl _ w) ?_ ?_ ?_ ?_
       rotate_left; rotate_left
       · intro e w1 hR hF K hK; (obtain ⟨x, c, hx, hxa⟩ := (show ∃ x c, e 1 = .agg (acL d (some x) c).toArray ∧ ActAt w1 d (some x) c from hF 1 (by kernel_rfl))); go_simp; (first | (go_at_call 19; (with_reducible refine (HGo.out x c _).mono ?_); rintro _ w2 ⟨rfl, hs⟩; refine hK _ _ hs ?_; rw [← hx]))
       · intro e; simp only [Act.put, List.setIfInBounds_toArray, List.set_cons_zero, List.set_cons_succ]; rfl
       · exact Loc.const _ _))
  refine mix_ld D ?_ (fun w => Chg.refl _ w) (fun _ => by rfl) 38 _ rfl w.heap.size 0 (fun _ => by rfl) _ (fun w1 hR => HrD.out _ (Same.trans Hs12.out hR)) Tryz.underlying38 rfl (by rw [HDc.len]; exact infoAct) ?_ ?_
  rotate_left
  · intro e; simp only [Act.put, List.setIfInBounds_toArray, List.set_cons_zero, List.set_cons_succ]; rfl
  iterate 3 (
      (refine mix_lit ?_ ?_ (fun w => Chg.refl _ w) ?_ ?_ ?_ ?_
       rotate_left; rotate_left
       · intro e w1 hR hF K hK; (skip); go_simp; (first | (refine hK _ _ (Chg.refl _ _) ?_; rfl) | (go_at_call 11; (with_reducible refine (HGr.out _).mono ?_); rintro _ w2 ⟨rfl, hs⟩; refine hK _ _ hs ?_; rfl))
       · intro e; simp only [Act.put, List.setIfInBounds_toArray, List.set_cons_zero, List.set_cons_succ]; rfl
       · exact Loc.const _ _))
  refine mix_letS (fun _ v w9 => BldG v) ?_ (by exact Loc.const _ _) ?_ ?_ ?_ ?_ ?_
  rotate_left
  · intro e u w1 w2 hs h; exact h
  · intro e; rfl
  · intro e w9 hR hF K hK; go_simp; exact hK _ _ _ ((Chg.refl _ _).alloc _) ⟨_, rfl⟩ rfl
  · intro e; simp only [Act.put, List.setIfInBounds_toArray, List.set_cons_zero, List.set_cons_succ]; rfl
  iterate 2 (
      (refine mix_lit ?_ ?_ (fun w => Chg.refl _ w) ?_ ?_ ?_ ?_
       rotate_left; rotate_left
       · intro e w1 hR hF K hK; (have cs := Hsl.out w1 (Same.trans Hs12.out hR)); go_simp; (refine hK _ _ (Chg.refl _ _) ?_; rfl)
       · intro e; simp only [Act.put, List.setIfInBounds_toArray, List.set_cons_zero, List.set_cons_succ]; rfl
       · exact Loc.const _ _))
  refine mix_letS (fun _ v w9 => AppG d.b v w9) ?_ (by exact Loc.const _ _) ?_ ?_ ?_ ?_ ?_
  rotate_left
  · intro e u w1 w2 hs h; exact h.same hs
  · intro e; rfl
  · intro e w9 hR hF K hK
    obtain ⟨b9, hb9⟩ := (show BldG (e 7) from hF 7 (by kernel_rfl))
    rw [if_pos (by rfl)]
    exact wp_app0 w9 (.tmp 26) (.tmp 28) _ (by rfl) slB (show e 7 = _ from hb9) (by rfl) Hbl.out (Hat1.out.1.same (Same.trans Hs12.out hR)) (by omega) (by omega) fun A' c' w' hr _ _ hs _ => hK _ _ _ hs ⟨A', c', rfl, hr⟩ (by rfl)
  · intro e; simp only [Act.put, List.setIfInBounds_toArray, List.set_cons_zero, List.set_cons_succ]; rfl
  iterate 1 (
      (refine mix_lit ?_ ?_ (fun w => Chg.refl _ w) ?_ ?_ ?_ ?_
       rotate_left; rotate_left
       · intro e w1 hR hF K hK; (obtain ⟨A9, c9, hx, hxr⟩ := (show AppG d.b (e 10) w1 from hF 10 (by kernel_rfl))); go_simp; (first | (go_at_call 20; (with_reducible refine (HHx.out A9 c9 _ hxr).mono ?_); rintro _ w2 ⟨rfl, hs⟩; refine hK _ _ hs ?_; rw [← hx]))
       · intro e; simp only [Act.put, List.setIfInBounds_toArray, List.set_cons_zero, List.set_cons_succ]; rfl
       · exact Loc.const _ _))
  iterate 2 (
      (refine mix_lit ?_ ?_ (fun w => Chg.refl _ w) ?_ ?_ ?_ ?_
       rotate_left; rotate_left
       · intro e w1 hR hF K hK; (have cs := Hsl.out w1 (Same.trans Hs12.out hR)); go_simp; (refine hK _ _ (Chg.refl _ _) ?_; rfl)
       · intro e; simp only [Act.put, List.setIfInBounds_toArray, List.set_cons_zero, List.set_cons_succ]; rfl
       · exact Loc.const _ _))
  iterate 3 (
      (refine mix_lit ?_ ?_ (fun w => Chg.refl _ w) ?_ ?_ ?_ ?_
       rotate_left; rotate_left
       · intro e w1 hR hF K hK; (skip); go_simp; (first | (refine hK _ _ (Chg.refl _ _) ?_; rfl) | (go_at_call 21; (with_reducible refine (HHr.out _ (Same.trans Hs12.out hR)).mono ?_); rintro _ w2 ⟨rfl, hs⟩; refine hK _ _ hs ?_; rfl))
       · intro e; simp only [Act.put, List.setIfInBounds_toArray, List.set_cons_zero, List.set_cons_succ]; rfl
       · exact Loc.const _ _))
  refine mix_nil fun e w3 hR hF => hFin _ _ ?_
  simp only [List.drop_succ_cons, List.drop_zero]
  have Hs3 := hide (Same.trans Hs12.out hR)
  clear hR hF hFin
  have HrD3 := hide (HrD.out _ Hs3.out)
  go_wp2_with (first
    | ((with_reducible refine ldR 38 w.heap.size 0 22 D rowAct HDc.len HrD3.out ?_ ?_ ?_); rfl; rfl)
    | (go_at_call 11; ((with_reducible refine (HGr.out _).mono ?_); rintro e w4 ⟨rfl, hs4⟩; have Hs4 := hide (Same.trans Hs3.out hs4); clear hs4))
    | (go_at_call 13; ((with_reducible refine (HLi.out _ Hs4.out).mono ?_); rintro e w9 ⟨rfl, hs9⟩; have Hs9 := hide (Same.trans Hs4.out hs9); clear hs9))
    | fail)
  go_ret
  exact ⟨rfl, Same.trans HS1.out Hs9.out⟩
set_option maxRecDepth 100000 in
set_option maxHeartbeats 16000000 in
theorem shows_gb (a b : Ac) {A B : Option Addr} {c0 k0 : Nat} (w : World) (ha : Amb w) (hA : ActAt w a A c0) (hB : ActAt w b B k0) (hwa : WfA a) (hwb : WfA b) (hgd0 : goodA (fewA a) = true) (hg20 : goodA (fewA b) = false) :
    Calls Tryz.prog 7 #[acV a A c0, acV b B k0] w fun e w' => e = .returned (.bool true) ∧ Same w w'  := by
  have hb1 := (Blk.new w 38 (acL a A c0).toArray).alloc (.cells (acL b B k0).toArray 38)
  have hb2 := Blk.new (w.alloc (.cells (acL a A c0).toArray 38)) 38 (acL b B k0).toArray
  rw [World.size_alloc] at hb2
  have hs : Same w ((w.alloc (.cells (acL a A c0).toArray 38)).alloc (.cells (acL b B k0).toArray 38)) := ((Chg.refl _ w).alloc _).alloc _
  have HSw := hide (fun (w' : World) (h : Chg (fun b => b = w.heap.size ∨ b = w.heap.size + 1) ((w.alloc (.cells (acL a A c0).toArray 38)).alloc (.cells (acL b B k0).toArray 38)) w') => (Chg.fresh (S := fun k => w.heap.size ≤ k) (Chg.trans (Same.to hs) h (fun k _ e => (by omega))) (fun _ h => h) : Same w w'))
  have HbA := hide (fun (w' : World) (h : RelS w.heap.size (w.heap.size + 1) 4 ((w.alloc (.cells (acL a A c0).toArray 38)).alloc (.cells (acL b B k0).toArray 38)) w') => hb1.chg h (by simp))
  have HbB := hide (fun (w' : World) (h : RelS w.heap.size (w.heap.size + 1) 5 ((w.alloc (.cells (acL a A c0).toArray 38)).alloc (.cells (acL b B k0).toArray 38)) w') => hb2.chg h (by simp))
  have HraA := hide (fun (w' : World) (h : RelS w.heap.size (w.heap.size + 1) 0 ((w.alloc (.cells (acL a A c0).toArray 38)).alloc (.cells (acL b B k0).toArray 38)) w') => blk_range (hb1.chg h (by simp)))
  have HraB := hide (fun (w' : World) (h : RelS w.heap.size (w.heap.size + 1) 2 ((w.alloc (.cells (acL a A c0).toArray 38)).alloc (.cells (acL b B k0).toArray 38)) w') => blk_range (hb2.chg h (by simp)))
  have HFa := hide (fun (w' : World) (h : Chg (fun b => b = w.heap.size ∨ b = w.heap.size + 1) ((w.alloc (.cells (acL a A c0).toArray 38)).alloc (.cells (acL b B k0).toArray 38)) w') => few_any a w' (c := c0) ⟨hA.1.same (HSw.out w' h), hA.2⟩)
  have HFb := hide (fun (w' : World) (h : Chg (fun b => b = w.heap.size ∨ b = w.heap.size + 1) ((w.alloc (.cells (acL a A c0).toArray 38)).alloc (.cells (acL b B k0).toArray 38)) w') => few_any b w' (c := k0) ⟨hB.1.same (HSw.out w' h), hB.2⟩)
  have HAm := hide (fun w' (hs : Same w w') => ha.same hs)
  have HPr := hide (fun (s : List UInt8) w' (hs : Same w w') (h1 : s.length ≤ 1000000) (h2 : (Lib.split s [32]).length ≤ 1000) => Parse_any s w' (ha.same hs) h1 h2)
  have HL := hide (fun w' (hs : Same w w') => lives_any w' (ha.same hs))
  have Hll1 := hide (acL_len a A c0)
  have Hll2 := hide (acL_len b B k0)
  have Hdw := hide (fewA_good hwa)
  have Hdw2 := hide (fewA_good hwb)
  have Hdl := hide (fewA_len a)
  have Hdl0 := hide (fewA_len b)
  have Hfe := hide (fewA_few a)
  have Hfe2 := hide (fewA_few b)
  clear ha hA hB hwa hwb hb1 hb2 hs
  unfold FewEnd acV at HFa HFb
  unfold acV
  generalize acL a A c0 = La at *
  generalize acL b B k0 = Lb at *
  obtain ⟨d, hd⟩ : ∃ d, fewA a = d := ⟨_, rfl⟩
  obtain ⟨d2, hd2⟩ : ∃ d, fewA b = d := ⟨_, rfl⟩
  rw [hd] at HFa Hdw Hdl Hfe hgd0
  rw [hd2] at HFb Hdw2 Hdl0 Hfe2
  clear hd
  rw [hd2] at hg20
  have hg2 := hide hg20
  clear hg20
  clear hd2
  have hgd1 := hide hgd0
  clear hgd0
  go_enter Tryz.func7, Tryz.ntmps7
  go_wp2_with fail
  refine My.wp_region_mixG (RelS w.heap.size (w.heap.size + 1)) (EffS w.heap.size (w.heap.size + 1)) 6 (fun k i a b hik ha he => RelS.of (by kernel_rfl) (by kernel_rfl) (by kernel_rfl) (by kernel_rfl) hik ha he) (fun k w => EffS.of_same (Chg.refl _ w)) (fun k a b c h1 h2 => RelS.trans h1 h2) (fun k => (Chg.refl _ _).drew) (by kernel_rfl) (by kernel_rfl) fun Fin hFin => ?_
  simp only [List.take_succ_cons, List.take_zero]
  refine My.mix_ld La ?_ (fun w => EffS.of_same (Chg.refl _ w)) (fun _ => by rfl) 38 _ rfl w.heap.size 0 (fun _ => by rfl) _ (fun w1 hR => HraA.out w1 hR) Tryz.underlying38 rfl (by rw [Hll1.out]; exact infoAct) ?_ ?_
  rotate_left
  · intro e; simp only [Act.put, List.setIfInBounds_toArray, List.set_cons_zero, List.set_cons_succ]; rfl
  refine My.mix_let (fun _ v w9 => FewG d ((w.alloc (.cells La.toArray 38)).alloc (.cells Lb.toArray 38)).heap.size v w9) ?_ (by exact Loc.const _ _) (fun i _ _ e u w1 w2 hr h => h.chg hr.both (by simp; omega) (by simp)) ?_ ?_ ?_ ?_
  rotate_left
  · intro e; rfl
  · intro e w9 hR hF K hK; go_simp; go_at_call 8; (refine (HFa.out _ hR.both).mono ?_); rintro _ w8 ⟨⟨x, c, rfl, h1, h2⟩, h3⟩; exact hK _ _ _ (EffS.of_same h3) ⟨x, c, rfl, h1, Nat.le_trans hR.size h2⟩ (by simp only [Act.put, List.setIfInBounds_toArray, List.set_cons_zero, List.set_cons_succ])
  · intro e; simp only [Act.put, List.setIfInBounds_toArray, List.set_cons_zero, List.set_cons_succ]; rfl
  refine My.mix_ld Lb ?_ (fun w => EffS.of_same (Chg.refl _ w)) (fun _ => by rfl) 38 _ rfl (w.heap.size + 1) 0 (fun _ => by rfl) _ (fun w1 hR => HraB.out w1 hR) Tryz.underlying38 rfl (by rw [Hll2.out]; exact infoAct) ?_ ?_
  rotate_left
  · intro e; simp only [Act.put, List.setIfInBounds_toArray, List.set_cons_zero, List.set_cons_succ]; rfl
  refine My.mix_let (fun _ v w9 => FewG d2 ((w.alloc (.cells La.toArray 38)).alloc (.cells Lb.toArray 38)).heap.size v w9) ?_ (by exact Loc.const _ _) (fun i _ _ e u w1 w2 hr h => h.chg hr.both (by simp; omega) (by simp)) ?_ ?_ ?_ ?_
  rotate_left
  · intro e; rfl
  · intro e w9 hR hF K hK; go_simp; go_at_call 8; (refine (HFb.out _ hR.both).mono ?_); rintro _ w8 ⟨⟨x, c, rfl, h1, h2⟩, h3⟩; exact hK _ _ _ (EffS.of_same h3) ⟨x, c, rfl, h1, Nat.le_trans hR.size h2⟩ (by simp only [Act.put, List.setIfInBounds_toArray, List.set_cons_zero, List.set_cons_succ])
  · intro e; simp only [Act.put, List.setIfInBounds_toArray, List.set_cons_zero, List.set_cons_succ]; rfl
  refine My.mix_let (fun e _ w9 => StoG w.heap.size (e 1) w9) ?_ (by intro e e' he; show (fun (_ : Value) w9 => StoG w.heap.size (e 1) w9) = (fun (_ : Value) w9 => StoG w.heap.size (e' 1) w9); rw [he 1 (by kernel_rfl)]) (fun i hi _ e u w1 w2 hr h L hL => (h L hL).chg hr (by omega)) ?_ ?_ ?_ ?_
  rotate_left
  · intro e; rfl
  · intro e w9 hR hF K hK
    obtain ⟨x, c, h1, h2, h3⟩ := (show FewG d ((w.alloc (.cells La.toArray 38)).alloc (.cells Lb.toArray 38)).heap.size (e 1) w9 from hF 1 (by kernel_rfl))
    rw [if_pos (by rfl)]
    refine wp_store_row 38 _ _ rfl w.heap.size (acL d (some x) c).toArray rfl (show e 1 = _ from h1) 38 _ (HbA.out w9 hR) (by kernel_rfl) (by rw [List.size_toArray, Hll1.out]; rfl) (all_oneCell_toArray (one_acL _ _ _)) (hK _ _ _ (EffS.st4 _ _) (fun L hL => (by rw [← agg_inj (h1.symm.trans hL)]; exact Blk.setRow_ (HbA.out w9 hR) _)) rfl)
  · intro e; rfl
  refine My.mix_let (fun e _ w9 => StoG (w.heap.size + 1) (e 3) w9) ?_ (by intro e e' he; show (fun (_ : Value) w9 => StoG (w.heap.size + 1) (e 3) w9) = (fun (_ : Value) w9 => StoG (w.heap.size + 1) (e' 3) w9); rw [he 3 (by kernel_rfl)]) (fun i hi _ e u w1 w2 hr h L hL => (h L hL).chg hr (by omega)) ?_ ?_ ?_ ?_
  rotate_left
  · intro e; rfl
  · intro e w9 hR hF K hK
    obtain ⟨x, c, h1, h2, h3⟩ := (show FewG d2 ((w.alloc (.cells La.toArray 38)).alloc (.cells Lb.toArray 38)).heap.size (e 3) w9 from hF 3 (by kernel_rfl))
    rw [if_pos (by rfl)]
    refine wp_store_row 38 _ _ rfl (w.heap.size + 1) (acL d2 (some x) c).toArray rfl (show e 3 = _ from h1) 38 _ (HbB.out w9 hR) (by kernel_rfl) (by rw [List.size_toArray, Hll2.out]; rfl) (all_oneCell_toArray (one_acL _ _ _)) (hK _ _ _ (EffS.st5 _ _) (fun L hL => (by rw [← agg_inj (h1.symm.trans hL)]; exact Blk.setRow_ (HbB.out w9 hR) _)) rfl)
  · intro e; rfl
  refine My.mix_nil fun e w1 hR hF => hFin _ _ ?_
  simp only [List.drop_succ_cons, List.drop_zero]
  obtain ⟨x, c1, h1, hA1, hz1⟩ := (show FewG d ((w.alloc (.cells La.toArray 38)).alloc (.cells Lb.toArray 38)).heap.size (e 1) w1 from hF 1 (by decide))
  obtain ⟨x2, c2, h2, hA2, hz2⟩ := (show FewG d2 ((w.alloc (.cells La.toArray 38)).alloc (.cells Lb.toArray 38)).heap.size (e 3) w1 from hF 3 (by decide))
  have hB1 := (show StoG w.heap.size (e 1) w1 from hF 4 (by decide)) _ h1
  have hB2 := (show StoG (w.heap.size + 1) (e 3) w1 from hF 5 (by decide)) _ h2
  rw [h1, h2]
  have HS1 := hide (HSw.out _ hR.both)
  have Hat1 := hide hA1
  have Hat2 := hide hA2
  obtain ⟨D, hD⟩ : ∃ D, acL d (some x) c1 = D := ⟨_, rfl⟩
  obtain ⟨D2, hD2⟩ : ∃ D, acL d2 (some x2) c2 = D := ⟨_, rfl⟩
  have HDc : ActC D d (some x) c1 := ⟨hD.symm⟩
  have HDc2 : ActC D2 d2 (some x2) c2 := ⟨hD2.symm⟩
  rw [hD] at hB1 ⊢
  rw [hD2] at hB2 ⊢
  have HB1 := hide hB1
  have HB2 := hide hB2
  clear hR hF hFin h1 h2 hA1 hA2 hz1 hz2 hB1 hB2 hD hD2
  have hgd := hgd1.out
  have HrD := hide (fun (w' : World) (hs : Same w1 w') => blk_range (HB1.out.same hs))
  have HrD2 := hide (fun (w' : World) (hs : Same w1 w') => blk_range (HB2.out.same hs))
  have Hsl := hide (fun (w' : World) (hs : Same w1 w') => (show w'.cell? ⟨w.heap.size, 21, none⟩ = some (.slice (some x) d.b.length c1) from by rw [(HB1.out.same hs).cell 21, List.getElem?_toArray]; exact HDc.c21))
  have HFd : Hid (∀ w', Same w1 w' → Calls Tryz.prog 8 #[.agg D.toArray] w' fun e w'' => (∃ x c, e = .returned (.agg (acL d (some x) c).toArray) ∧ ActAt w'' d (some x) c) ∧ Same w' w'') := hide fun w' hs => (by
    have h := few_any d w' (Hat1.out.same hs)
    unfold FewEnd at h
    rw [Hfe.out] at h
    rw [show acV d (some x) c1 = .agg D.toArray from by unfold acV; rw [← HDc.eq]] at h
    exact h.mono fun e w'' ⟨⟨x, c, h1, h2, _⟩, h3⟩ => ⟨⟨x, c, h1, h2⟩, h3⟩)
  have HFd2 : Hid (∀ w', Same w1 w' → Calls Tryz.prog 8 #[.agg D2.toArray] w' fun e w'' => (∃ x c, e = .returned (.agg (acL d2 (some x) c).toArray) ∧ ActAt w'' d2 (some x) c) ∧ Same w' w'') := hide fun w' hs => (by
    have h := few_any d2 w' (Hat2.out.same hs)
    unfold FewEnd at h
    rw [Hfe2.out] at h
    rw [show acV d2 (some x2) c2 = .agg D2.toArray from by unfold acV; rw [← HDc2.eq]] at h
    exact h.mono fun e w'' ⟨⟨x, c, h1, h2, _⟩, h3⟩ => ⟨⟨x, c, h1, h2⟩, h3⟩)
  have HSh : Hid (∀ (x : Addr) (c : Nat) w', ActAt w' d (some x) c → Same w1 w' → Calls Tryz.prog 18 #[.agg (acL d (some x) c).toArray] w' fun e w'' => e = .returned (.tuple #[.string ⟨(showB d).toArray⟩, .int .i64 0]) ∧ Same w' w'') := hide fun x c w' h hs => (by
    have h1 := Show_any (c := c) d w' h.1 (Nat.le_trans Hdl.out (by decide)) Hdw.out (HAm.out w' (Same.trans HS1.out hs))
    unfold ShowEnd strV at h1
    rw [hgd] at h1
    simp only [if_true] at h1
    exact h1)
  have HGo : Hid (∀ (x : Addr) (c : Nat) w', Calls Tryz.prog 19 #[.agg (acL d (some x) c).toArray] w' fun e w'' => e = .returned (.bool true) ∧ Same w' w'') := hide fun x c w' => (by
    have h1 := sGood_any d (some x) c w' (Nat.le_trans Hdl.out (by decide))
    rw [hgd] at h1
    exact h1)
  have HGr : Hid (∀ w', Calls Tryz.prog 11 #[.agg D.toArray] w' fun e w'' => e = .returned (.bool true) ∧ Same w' w'') := hide fun w' => (by
    have h1 := rgoodA_any d (some x) c1 w' (Nat.le_trans Hdl.out (by decide))
    rw [hgd, show acV d (some x) c1 = .agg D.toArray from by unfold acV; rw [← HDc.eq]] at h1
    exact h1)
  have HHx := hide (fun (A : Option Addr) (c : Nat) (w' : World) (h : Rd w' A (bs d.b)) => Hex_any (c := c) d.b w' h (Nat.le_trans Hdl.out (by decide)))
  have HHr := hide (fun (w' : World) (hs : Same w1 w') => rHex_any (c := c1) d.b w' (Hat1.out.1.same hs) (Nat.le_trans Hdl.out (by decide)))
  have HLi : Hid (∀ w', Same w1 w' → Calls Tryz.prog 13 #[] w' fun e w'' => e = .returned (.bool true) ∧ Same w' w'') := hide fun w' hs => HL.out w' (Same.trans HS1.out hs)
  have Hbl := hide (show (bs d.b).length = d.b.length * 1 by simp [bs])
  have Hdl2 := Hdl.out
  unfold strV at HHx HHr
  have HrD0 := hide (HrD.out w1 (Chg.refl _ _))
  have Hps := hide (parse_show ones_W hgd Hdw.out)
  have Hsl1 := hide (showB_len hgd Hdw.out)
  have Hsw := hide (showW_len hgd)
  have Hspl := hide (split_show d)
  have HRs : Hid (∀ w', Same w1 w' → Calls Tryz.prog 12 #[.agg D.toArray] w' fun e w'' => e = .returned (.string ⟨(showB d).toArray⟩) ∧ Same w' w'') := hide fun w' hs => (by
    have h := rshow_any d (c := c1) w' (Hat1.out.1.same hs) hgd Hdw.out
    rw [show acV d (some x) c1 = .agg D.toArray from by unfold acV; rw [← HDc.eq]] at h
    exact h)
  have HOn : Hid (∀ w', Calls Tryz.prog 15 #[.agg D.toArray] w' fun e w'' => e = .returned (acV (onlyA d) (onlyAt d (some x)) (onlyCap d c1)) ∧ Same w' w'') := hide fun w' => (by
    have h := ronlyA_any d (A0 := some x) (c := c1) w' hgd
    rw [show acV d (some x) c1 = .agg D.toArray from by unfold acV; rw [← HDc.eq]] at h
    exact h)
  have HPa : Hid (∀ w', Same w1 w' → Calls Tryz.prog 9 #[.string ⟨(showB d).toArray⟩] w' fun e w'' => (∃ A2 c2, e = .returned (.tuple #[.agg (acL (onlyA d) A2 c2).toArray, .int .i64 0]) ∧ ActAt w'' (onlyA d) A2 c2) ∧ Same w' w'') := hide fun w' hs => (by
    have h := HPr.out (showB d) w' (Same.trans HS1.out hs) (by have := Hsl1.out; omega) (by rw [Hspl.out]; have := Hsw.out; omega)
    refine h.mono fun e w'' ⟨h1, h2⟩ => ⟨?_, h2⟩
    rcases h1 with ⟨a2, A2, cc, h3, h4, h5, h6⟩ | ⟨h3, _⟩
    · rw [Hps.out] at h3; cases h3; exact ⟨A2, cc, h4, h5⟩
    · rw [Hps.out] at h3; cases h3)
  have HG2 : Hid (∀ w', Calls Tryz.prog 11 #[.agg D2.toArray] w' fun e w'' => e = .returned (.bool false) ∧ Same w' w'') := hide fun w' => (by
    have h1 := rgoodA_any d2 (some x2) c2 w' (Nat.le_trans Hdl0.out (by decide))
    rw [hg2.out, show acV d2 (some x2) c2 = .agg D2.toArray from by unfold acV; rw [← HDc2.eq]] at h1
    exact h1)
  clear hgd
  go_wp2_with (first
    | ((with_reducible refine ldR 38 w.heap.size 0 22 D rowAct HDc.len HrD0.out ?_ ?_ ?_); rfl; rfl)
    | (go_at_call 8; ((with_reducible refine (HFd.out _ (Chg.refl _ _)).mono ?_); rintro e w2 ⟨⟨x', c', rfl, hat⟩, hs2⟩; have hSh2 := HSh.out x' c' w2 hat hs2; have HSh2 := hide hSh2; have Hs2 := hide hs2; obtain ⟨F, hF⟩ : ∃ F, acL d (some x') c' = F := ⟨_, rfl⟩; rw [hF] at HSh2 ⊢; clear hat hSh2 hs2 hF))
    | (go_at_call 18; ((with_reducible refine HSh2.out.mono ?_); rintro e w12 ⟨rfl, hs12⟩; have Hs12 := hide (Same.trans Hs2.out hs12); clear hs12))
    | fail)
  refine wp_region_mixS 17 (by kernel_rfl) (by kernel_rfl) fun Fin hFin => ?_
  simp only [List.take_succ_cons, List.take_zero]
  refine mix_ld D ?_ (fun w => Chg.refl _ w) (fun _ => by rfl) 38 _ rfl w.heap.size 0 (fun _ => by rfl) _ (fun w1 hR => HrD.out _ (Same.trans Hs12.out hR)) Tryz.underlying38 rfl (by rw [HDc.len]; exact infoAct) ?_ ?_
  rotate_left
  · intro e; simp only [Act.put, List.setIfInBounds_toArray, List.set_cons_zero, List.set_cons_succ]; rfl
  refine mix_letS (fun _ v w9 => ∃ x c, v = .agg (acL d (some x) c).toArray ∧ ActAt w9 d (some x) c) ?_ (by exact Loc.const _ _) ?_ ?_ ?_ ?_ ?_
  rotate_left
  · rintro e u w1 w2 hs ⟨x, c, h1, h2⟩; exact ⟨x, c, h1, h2.same hs⟩
  · intro e; rfl
  · intro e w9 hR hF K hK; go_simp; go_at_call 8; (refine (HFd.out _ (Same.trans Hs12.out hR)).mono ?_); rintro _ w8 ⟨⟨x, c, rfl, h1⟩, h3⟩; exact hK _ _ _ h3 ⟨x, c, rfl, h1⟩ (by simp only [Act.put, List.setIfInBounds_toArray, List.set_cons_zero, List.set_cons_succ])
  · intro e; simp only [Act.put, List.setIfInBounds_toArray, List.set_cons_zero, List.set_cons_succ]; rfl
  iterate 1 (
      (refine mix_lit ?_ ?_ (fun w => Chg.refl _ w) ?_ ?_ ?_ ?_
       rotate_left; rotate_left
       · intro e w1 hR hF K hK; (obtain ⟨x, c, hx, hxa⟩ := (show ∃ x c, e 1 = .agg (acL d (some x) c).toArray ∧ ActAt w1 d (some x) c from hF 1 (by kernel_rfl))); go_simp; (first | (go_at_call 19; (with_reducible refine (HGo.out x c _).mono ?_); rintro _ w2 ⟨rfl, hs⟩; refine hK _ _ hs ?_; rw [← hx]))
       · intro e; simp only [Act.put, List.setIfInBounds_toArray, List.set_cons_zero, List.set_cons_succ]; rfl
       · exact Loc.const _ _))
  refine mix_ld D ?_ (fun w => Chg.refl _ w) (fun _ => by rfl) 38 _ rfl w.heap.size 0 (fun _ => by rfl) _ (fun w1 hR => HrD.out _ (Same.trans Hs12.out hR)) Tryz.underlying38 rfl (by rw [HDc.len]; exact infoAct) ?_ ?_
  rotate_left
  · intro e; simp only [Act.put, List.setIfInBounds_toArray, List.set_cons_zero, List.set_cons_succ]; rfl
  iterate 3 (
      (refine mix_lit ?_ ?_ (fun w => Chg.refl _ w) ?_ ?_ ?_ ?_
       rotate_left; rotate_left
       · intro e w1 hR hF K hK; (skip); go_simp; (first | (refine hK _ _ (Chg.refl _ _) ?_; rfl) | (go_at_call 11; (with_reducible refine (HGr.out _).mono ?_); rintro _ w2 ⟨rfl, hs⟩; refine hK _ _ hs ?_; rfl))
       · intro e; simp only [Act.put, List.setIfInBounds_toArray, List.set_cons_zero, List.set_cons_succ]; rfl
       · exact Loc.const _ _))
  refine mix_letS (fun _ v w9 => BldG v) ?_ (by exact Loc.const _ _) ?_ ?_ ?_ ?_ ?_
  rotate_left
  · intro e u w1 w2 hs h; exact h
  · intro e; rfl
  · intro e w9 hR hF K hK; go_simp; exact hK _ _ _ ((Chg.refl _ _).alloc _) ⟨_, rfl⟩ rfl
  · intro e; simp only [Act.put, List.setIfInBounds_toArray, List.set_cons_zero, List.set_cons_succ]; rfl
  iterate 2 (
      (refine mix_lit ?_ ?_ (fun w => Chg.refl _ w) ?_ ?_ ?_ ?_
       rotate_left; rotate_left
       · intro e w1 hR hF K hK; (have cs := Hsl.out w1 (Same.trans Hs12.out hR)); go_simp; (refine hK _ _ (Chg.refl _ _) ?_; rfl)
       · intro e; simp only [Act.put, List.setIfInBounds_toArray, List.set_cons_zero, List.set_cons_succ]; rfl
       · exact Loc.const _ _))
  refine mix_letS (fun _ v w9 => AppG d.b v w9) ?_ (by exact Loc.const _ _) ?_ ?_ ?_ ?_ ?_
  rotate_left
  · intro e u w1 w2 hs h; exact h.same hs
  · intro e; rfl
  · intro e w9 hR hF K hK
    obtain ⟨b9, hb9⟩ := (show BldG (e 7) from hF 7 (by kernel_rfl))
    rw [if_pos (by rfl)]
    exact wp_app0 w9 (.tmp 26) (.tmp 28) _ (by rfl) slB (show e 7 = _ from hb9) (by rfl) Hbl.out (Hat1.out.1.same (Same.trans Hs12.out hR)) (by omega) (by omega) fun A' c' w' hr _ _ hs _ => hK _ _ _ hs ⟨A', c', rfl, hr⟩ (by rfl)
  · intro e; simp only [Act.put, List.setIfInBounds_toArray, List.set_cons_zero, List.set_cons_succ]; rfl
  iterate 1 (
      (refine mix_lit ?_ ?_ (fun w => Chg.refl _ w) ?_ ?_ ?_ ?_
       rotate_left; rotate_left
       · intro e w1 hR hF K hK; (obtain ⟨A9, c9, hx, hxr⟩ := (show AppG d.b (e 10) w1 from hF 10 (by kernel_rfl))); go_simp; (first | (go_at_call 20; (with_reducible refine (HHx.out A9 c9 _ hxr).mono ?_); rintro _ w2 ⟨rfl, hs⟩; refine hK _ _ hs ?_; rw [← hx]))
       · intro e; simp only [Act.put, List.setIfInBounds_toArray, List.set_cons_zero, List.set_cons_succ]; rfl
       · exact Loc.const _ _))
  iterate 2 (
      (refine mix_lit ?_ ?_ (fun w => Chg.refl _ w) ?_ ?_ ?_ ?_
       rotate_left; rotate_left
       · intro e w1 hR hF K hK; (have cs := Hsl.out w1 (Same.trans Hs12.out hR)); go_simp; (refine hK _ _ (Chg.refl _ _) ?_; rfl)
       · intro e; simp only [Act.put, List.setIfInBounds_toArray, List.set_cons_zero, List.set_cons_succ]; rfl
       · exact Loc.const _ _))
  iterate 3 (
      (refine mix_lit ?_ ?_ (fun w => Chg.refl _ w) ?_ ?_ ?_ ?_
       rotate_left; rotate_left
       · intro e w1 hR hF K hK; (skip); go_simp; (first | (refine hK _ _ (Chg.refl _ _) ?_; rfl) | (go_at_call 21; (with_reducible refine (HHr.out _ (Same.trans Hs12.out hR)).mono ?_); rintro _ w2 ⟨rfl, hs⟩; refine hK _ _ hs ?_; rfl))
       · intro e; simp only [Act.put, List.setIfInBounds_toArray, List.set_cons_zero, List.set_cons_succ]; rfl
       · exact Loc.const _ _))
  refine mix_nil fun e w3 hR hF => hFin _ _ ?_
  simp only [List.drop_succ_cons, List.drop_zero]
  have Hs3 := hide (Same.trans Hs12.out hR)
  clear hR hF hFin
  have HrD3 := hide (HrD.out _ Hs3.out)
  go_wp2_with (first
    | ((with_reducible refine ldR 38 w.heap.size 0 22 D rowAct HDc.len HrD3.out ?_ ?_ ?_); rfl; rfl)
    | (go_at_call 11; ((with_reducible refine (HGr.out _).mono ?_); rintro e w4 ⟨rfl, hs4⟩; have Hs4 := hide (Same.trans Hs3.out hs4); clear hs4))
    | (go_at_call 9; ((with_reducible refine (HPa.out _ Hs4.out).mono ?_); rintro e w5 ⟨⟨A5, c5, rfl, hat5⟩, hs5⟩; have Hs5 := hide (Same.trans Hs4.out hs5); have Hat5 := hide hat5; obtain ⟨Y, hY⟩ : ∃ Y, acL (onlyA d) A5 c5 = Y := ⟨_, rfl⟩; have HYc : ActC Y (onlyA d) A5 c5 := ⟨hY.symm⟩; rw [hY]; clear hs5 hat5 hY))
    | ((with_reducible refine stNg 38 22 Y 38 _ rowAct HYc.len ?_ HYc.one ?_ ?_ ?_); rfl; rfl; rfl; intro w6 hs6 hz hb; have Hy6 := hide hb; have Hs6 := hide (Same.trans Hs5.out hs6); have Hat6 := hide (Hat5.out.same hs6); clear hs6 hz hb)
    | fail)
  have HrY := hide (fun (w' : World) (hs : Same w6 w') => blk_range (Hy6.out.same hs))
  have HSm : Hid (∀ w', Same w6 w' → Calls Tryz.prog 14 #[.agg Y.toArray, acV (onlyA d) (onlyAt d (some x)) (onlyCap d c1)] w' fun e w'' => e = .returned (.bool true) ∧ Same w' w'') := hide fun w' hs => (by
    have h := rsame_any (onlyA d) (onlyA d) (c := c5) (d := onlyCap d c1) w' (Hat6.out.1.same hs) ((onlyA_at Hat1.out).1.same (Same.trans Hs6.out hs))
    rw [eqA_refl] at h
    rw [show acV (onlyA d) A5 c5 = .agg Y.toArray from by unfold acV; rw [← HYc.eq]] at h
    exact h)
  obtain ⟨OV, hOV⟩ : ∃ v, acV (onlyA d) (onlyAt d (some x)) (onlyCap d c1) = v := ⟨_, rfl⟩
  rw [hOV] at HOn HSm
  clear hOV
  refine wp_region_mixS 19 (by kernel_rfl) (by kernel_rfl) fun Fin hFin => ?_
  simp only [List.take_succ_cons, List.take_zero]
  iterate 4 (
      (refine mix_lit ?_ ?_ (fun w => Chg.refl _ w) ?_ ?_ ?_ ?_
       rotate_left; rotate_left
       · intro e w1 hR hF K hK; (skip); go_simp; (first | (refine hK _ _ (Chg.refl _ _) ?_; rfl) | (go_at_call 12; (with_reducible refine (HRs.out _ (Same.trans Hs6.out hR)).mono ?_); rintro _ w2 ⟨rfl, hs⟩; refine hK _ _ hs ?_; rfl) | (go_at_call 15; (with_reducible refine (HOn.out _).mono ?_); rintro _ w2 ⟨rfl, hs⟩; refine hK _ _ hs ?_; rfl) | (go_at_call 14; (with_reducible refine (HSm.out _ hR).mono ?_); rintro _ w2 ⟨rfl, hs⟩; refine hK _ _ hs ?_; rfl))
       · intro e; simp only [Act.put, List.setIfInBounds_toArray, List.set_cons_zero, List.set_cons_succ]; rfl
       · exact Loc.const _ _))
  refine mix_ld D ?_ (fun w => Chg.refl _ w) (fun _ => by rfl) 38 _ rfl w.heap.size 0 (fun _ => by rfl) _ (fun w1 hR => HrD.out _ (Same.trans Hs6.out hR)) Tryz.underlying38 rfl (by rw [HDc.len]; exact infoAct) ?_ ?_
  rotate_left
  · intro e; simp only [Act.put, List.setIfInBounds_toArray, List.set_cons_zero, List.set_cons_succ]; rfl
  iterate 8 (
      (refine mix_lit ?_ ?_ (fun w => Chg.refl _ w) ?_ ?_ ?_ ?_
       rotate_left; rotate_left
       · intro e w1 hR hF K hK; (skip); go_simp; (first | (refine hK _ _ (Chg.refl _ _) ?_; rfl) | (go_at_call 12; (with_reducible refine (HRs.out _ (Same.trans Hs6.out hR)).mono ?_); rintro _ w2 ⟨rfl, hs⟩; refine hK _ _ hs ?_; rfl) | (go_at_call 15; (with_reducible refine (HOn.out _).mono ?_); rintro _ w2 ⟨rfl, hs⟩; refine hK _ _ hs ?_; rfl) | (go_at_call 14; (with_reducible refine (HSm.out _ hR).mono ?_); rintro _ w2 ⟨rfl, hs⟩; refine hK _ _ hs ?_; rfl))
       · intro e; simp only [Act.put, List.setIfInBounds_toArray, List.set_cons_zero, List.set_cons_succ]; rfl
       · exact Loc.const _ _))
  refine mix_ld Y ?_ (fun w => Chg.refl _ w) (fun _ => by rfl) 38 _ rfl w5.heap.size 0 (fun _ => by rfl) _ (fun w1 hR => HrY.out _ hR) Tryz.underlying38 rfl (by rw [HYc.len]; exact infoAct) ?_ ?_
  rotate_left
  · intro e; simp only [Act.put, List.setIfInBounds_toArray, List.set_cons_zero, List.set_cons_succ]; rfl
  refine mix_ld D ?_ (fun w => Chg.refl _ w) (fun _ => by rfl) 38 _ rfl w.heap.size 0 (fun _ => by rfl) _ (fun w1 hR => HrD.out _ (Same.trans Hs6.out hR)) Tryz.underlying38 rfl (by rw [HDc.len]; exact infoAct) ?_ ?_
  rotate_left
  · intro e; simp only [Act.put, List.setIfInBounds_toArray, List.set_cons_zero, List.set_cons_succ]; rfl
  iterate 4 (
      (refine mix_lit ?_ ?_ (fun w => Chg.refl _ w) ?_ ?_ ?_ ?_
       rotate_left; rotate_left
       · intro e w1 hR hF K hK; (skip); go_simp; (first | (refine hK _ _ (Chg.refl _ _) ?_; rfl) | (go_at_call 12; (with_reducible refine (HRs.out _ (Same.trans Hs6.out hR)).mono ?_); rintro _ w2 ⟨rfl, hs⟩; refine hK _ _ hs ?_; rfl) | (go_at_call 15; (with_reducible refine (HOn.out _).mono ?_); rintro _ w2 ⟨rfl, hs⟩; refine hK _ _ hs ?_; rfl) | (go_at_call 14; (with_reducible refine (HSm.out _ hR).mono ?_); rintro _ w2 ⟨rfl, hs⟩; refine hK _ _ hs ?_; rfl))
       · intro e; simp only [Act.put, List.setIfInBounds_toArray, List.set_cons_zero, List.set_cons_succ]; rfl
       · exact Loc.const _ _))
  refine mix_nil fun e w7 hR hF => hFin _ _ ?_
  simp only [List.drop_succ_cons, List.drop_zero]
  have Hs7 := hide (Same.trans Hs6.out hR)
  clear hR hF hFin
  go_wp2_with fail
  refine wp_region_mixS 20 (by kernel_rfl) (by kernel_rfl) fun Fin hFin => ?_
  simp only [List.take_succ_cons, List.take_zero]
  refine mix_ld D2 ?_ (fun w => Chg.refl _ w) (fun _ => by rfl) 38 _ rfl (w.heap.size + 1) 0 (fun _ => by rfl) _ (fun w1 hR => HrD2.out _ (Same.trans Hs7.out hR)) Tryz.underlying38 rfl (by rw [HDc2.len]; exact infoAct) ?_ ?_
  rotate_left
  · intro e; simp only [Act.put, List.setIfInBounds_toArray, List.set_cons_zero, List.set_cons_succ]; rfl
  iterate 19 (
      (refine mix_lit ?_ ?_ (fun w => Chg.refl _ w) ?_ ?_ ?_ ?_
       rotate_left; rotate_left
       · intro e w1 hR hF K hK; (skip); go_simp; (first | (refine hK _ _ (Chg.refl _ _) ?_; rfl) | (go_at_call 11; (with_reducible refine (HG2.out _).mono ?_); rintro _ w2 ⟨rfl, hs⟩; refine hK _ _ hs ?_; rfl) | (go_at_call 13; (with_reducible refine (HLi.out _ (Same.trans Hs7.out hR)).mono ?_); rintro _ w2 ⟨rfl, hs⟩; refine hK _ _ hs ?_; rfl))
       · intro e; simp only [Act.put, List.setIfInBounds_toArray, List.set_cons_zero, List.set_cons_succ]; rfl
       · exact Loc.const _ _))
  refine mix_nil fun e w9 hR hF => hFin _ _ ?_
  simp only [List.drop_succ_cons, List.drop_zero]
  have Hs9 := hide (Same.trans Hs7.out hR)
  clear hR hF hFin
  go_wp2_with fail
  go_ret
  exact ⟨rfl, Same.trans HS1.out Hs9.out⟩
set_option maxRecDepth 100000 in
set_option maxHeartbeats 16000000 in
theorem shows_gg (a b : Ac) {A B : Option Addr} {c0 k0 : Nat} (w : World) (ha : Amb w) (hA : ActAt w a A c0) (hB : ActAt w b B k0) (hwa : WfA a) (hwb : WfA b) (hgd0 : goodA (fewA a) = true) (hg20 : goodA (fewA b) = true) :
    Calls Tryz.prog 7 #[acV a A c0, acV b B k0] w fun e w' => e = .returned (.bool true) ∧ Same w w'  := by
  have hb1 := (Blk.new w 38 (acL a A c0).toArray).alloc (.cells (acL b B k0).toArray 38)
  have hb2 := Blk.new (w.alloc (.cells (acL a A c0).toArray 38)) 38 (acL b B k0).toArray
  rw [World.size_alloc] at hb2
  have hs : Same w ((w.alloc (.cells (acL a A c0).toArray 38)).alloc (.cells (acL b B k0).toArray 38)) := ((Chg.refl _ w).alloc _).alloc _
  have HSw := hide (fun (w' : World) (h : Chg (fun b => b = w.heap.size ∨ b = w.heap.size + 1) ((w.alloc (.cells (acL a A c0).toArray 38)).alloc (.cells (acL b B k0).toArray 38)) w') => (Chg.fresh (S := fun k => w.heap.size ≤ k) (Chg.trans (Same.to hs) h (fun k _ e => (by omega))) (fun _ h => h) : Same w w'))
  have HbA := hide (fun (w' : World) (h : RelS w.heap.size (w.heap.size + 1) 4 ((w.alloc (.cells (acL a A c0).toArray 38)).alloc (.cells (acL b B k0).toArray 38)) w') => hb1.chg h (by simp))
  have HbB := hide (fun (w' : World) (h : RelS w.heap.size (w.heap.size + 1) 5 ((w.alloc (.cells (acL a A c0).toArray 38)).alloc (.cells (acL b B k0).toArray 38)) w') => hb2.chg h (by simp))
  have HraA := hide (fun (w' : World) (h : RelS w.heap.size (w.heap.size + 1) 0 ((w.alloc (.cells (acL a A c0).toArray 38)).alloc (.cells (acL b B k0).toArray 38)) w') => blk_range (hb1.chg h (by simp)))
  have HraB := hide (fun (w' : World) (h : RelS w.heap.size (w.heap.size + 1) 2 ((w.alloc (.cells (acL a A c0).toArray 38)).alloc (.cells (acL b B k0).toArray 38)) w') => blk_range (hb2.chg h (by simp)))
  have HFa := hide (fun (w' : World) (h : Chg (fun b => b = w.heap.size ∨ b = w.heap.size + 1) ((w.alloc (.cells (acL a A c0).toArray 38)).alloc (.cells (acL b B k0).toArray 38)) w') => few_any a w' (c := c0) ⟨hA.1.same (HSw.out w' h), hA.2⟩)
  have HFb := hide (fun (w' : World) (h : Chg (fun b => b = w.heap.size ∨ b = w.heap.size + 1) ((w.alloc (.cells (acL a A c0).toArray 38)).alloc (.cells (acL b B k0).toArray 38)) w') => few_any b w' (c := k0) ⟨hB.1.same (HSw.out w' h), hB.2⟩)
  have HAm := hide (fun w' (hs : Same w w') => ha.same hs)
  have HPr := hide (fun (s : List UInt8) w' (hs : Same w w') (h1 : s.length ≤ 1000000) (h2 : (Lib.split s [32]).length ≤ 1000) => Parse_any s w' (ha.same hs) h1 h2)
  have HL := hide (fun w' (hs : Same w w') => lives_any w' (ha.same hs))
  have Hll1 := hide (acL_len a A c0)
  have Hll2 := hide (acL_len b B k0)
  have Hdw := hide (fewA_good hwa)
  have Hdw2 := hide (fewA_good hwb)
  have Hdl := hide (fewA_len a)
  have Hdl0 := hide (fewA_len b)
  have Hfe := hide (fewA_few a)
  have Hfe2 := hide (fewA_few b)
  clear ha hA hB hwa hwb hb1 hb2 hs
  unfold FewEnd acV at HFa HFb
  unfold acV
  generalize acL a A c0 = La at *
  generalize acL b B k0 = Lb at *
  obtain ⟨d, hd⟩ : ∃ d, fewA a = d := ⟨_, rfl⟩
  obtain ⟨d2, hd2⟩ : ∃ d, fewA b = d := ⟨_, rfl⟩
  rw [hd] at HFa Hdw Hdl Hfe hgd0
  rw [hd2] at HFb Hdw2 Hdl0 Hfe2
  clear hd
  rw [hd2] at hg20
  have hg2 := hide hg20
  clear hg20
  clear hd2
  have hgd1 := hide hgd0
  clear hgd0
  go_enter Tryz.func7, Tryz.ntmps7
  go_wp2_with fail
  refine My.wp_region_mixG (RelS w.heap.size (w.heap.size + 1)) (EffS w.heap.size (w.heap.size + 1)) 6 (fun k i a b hik ha he => RelS.of (by kernel_rfl) (by kernel_rfl) (by kernel_rfl) (by kernel_rfl) hik ha he) (fun k w => EffS.of_same (Chg.refl _ w)) (fun k a b c h1 h2 => RelS.trans h1 h2) (fun k => (Chg.refl _ _).drew) (by kernel_rfl) (by kernel_rfl) fun Fin hFin => ?_
  simp only [List.take_succ_cons, List.take_zero]
  refine My.mix_ld La ?_ (fun w => EffS.of_same (Chg.refl _ w)) (fun _ => by rfl) 38 _ rfl w.heap.size 0 (fun _ => by rfl) _ (fun w1 hR => HraA.out w1 hR) Tryz.underlying38 rfl (by rw [Hll1.out]; exact infoAct) ?_ ?_
  rotate_left
  · intro e; simp only [Act.put, List.setIfInBounds_toArray, List.set_cons_zero, List.set_cons_succ]; rfl
  refine My.mix_let (fun _ v w9 => FewG d ((w.alloc (.cells La.toArray 38)).alloc (.cells Lb.toArray 38)).heap.size v w9) ?_ (by exact Loc.const _ _) (fun i _ _ e u w1 w2 hr h => h.chg hr.both (by simp; omega) (by simp)) ?_ ?_ ?_ ?_
  rotate_left
  · intro e; rfl
  · intro e w9 hR hF K hK; go_simp; go_at_call 8; (refine (HFa.out _ hR.both).mono ?_); rintro _ w8 ⟨⟨x, c, rfl, h1, h2⟩, h3⟩; exact hK _ _ _ (EffS.of_same h3) ⟨x, c, rfl, h1, Nat.le_trans hR.size h2⟩ (by simp only [Act.put, List.setIfInBounds_toArray, List.set_cons_zero, List.set_cons_succ])
  · intro e; simp only [Act.put, List.setIfInBounds_toArray, List.set_cons_zero, List.set_cons_succ]; rfl
  refine My.mix_ld Lb ?_ (fun w => EffS.of_same (Chg.refl _ w)) (fun _ => by rfl) 38 _ rfl (w.heap.size + 1) 0 (fun _ => by rfl) _ (fun w1 hR => HraB.out w1 hR) Tryz.underlying38 rfl (by rw [Hll2.out]; exact infoAct) ?_ ?_
  rotate_left
  · intro e; simp only [Act.put, List.setIfInBounds_toArray, List.set_cons_zero, List.set_cons_succ]; rfl
  refine My.mix_let (fun _ v w9 => FewG d2 ((w.alloc (.cells La.toArray 38)).alloc (.cells Lb.toArray 38)).heap.size v w9) ?_ (by exact Loc.const _ _) (fun i _ _ e u w1 w2 hr h => h.chg hr.both (by simp; omega) (by simp)) ?_ ?_ ?_ ?_
  rotate_left
  · intro e; rfl
  · intro e w9 hR hF K hK; go_simp; go_at_call 8; (refine (HFb.out _ hR.both).mono ?_); rintro _ w8 ⟨⟨x, c, rfl, h1, h2⟩, h3⟩; exact hK _ _ _ (EffS.of_same h3) ⟨x, c, rfl, h1, Nat.le_trans hR.size h2⟩ (by simp only [Act.put, List.setIfInBounds_toArray, List.set_cons_zero, List.set_cons_succ])
  · intro e; simp only [Act.put, List.setIfInBounds_toArray, List.set_cons_zero, List.set_cons_succ]; rfl
  refine My.mix_let (fun e _ w9 => StoG w.heap.size (e 1) w9) ?_ (by intro e e' he; show (fun (_ : Value) w9 => StoG w.heap.size (e 1) w9) = (fun (_ : Value) w9 => StoG w.heap.size (e' 1) w9); rw [he 1 (by kernel_rfl)]) (fun i hi _ e u w1 w2 hr h L hL => (h L hL).chg hr (by omega)) ?_ ?_ ?_ ?_
  rotate_left
  · intro e; rfl
  · intro e w9 hR hF K hK
    obtain ⟨x, c, h1, h2, h3⟩ := (show FewG d ((w.alloc (.cells La.toArray 38)).alloc (.cells Lb.toArray 38)).heap.size (e 1) w9 from hF 1 (by kernel_rfl))
    rw [if_pos (by rfl)]
    refine wp_store_row 38 _ _ rfl w.heap.size (acL d (some x) c).toArray rfl (show e 1 = _ from h1) 38 _ (HbA.out w9 hR) (by kernel_rfl) (by rw [List.size_toArray, Hll1.out]; rfl) (all_oneCell_toArray (one_acL _ _ _)) (hK _ _ _ (EffS.st4 _ _) (fun L hL => (by rw [← agg_inj (h1.symm.trans hL)]; exact Blk.setRow_ (HbA.out w9 hR) _)) rfl)
  · intro e; rfl
  refine My.mix_let (fun e _ w9 => StoG (w.heap.size + 1) (e 3) w9) ?_ (by intro e e' he; show (fun (_ : Value) w9 => StoG (w.heap.size + 1) (e 3) w9) = (fun (_ : Value) w9 => StoG (w.heap.size + 1) (e' 3) w9); rw [he 3 (by kernel_rfl)]) (fun i hi _ e u w1 w2 hr h L hL => (h L hL).chg hr (by omega)) ?_ ?_ ?_ ?_
  rotate_left
  · intro e; rfl
  · intro e w9 hR hF K hK
    obtain ⟨x, c, h1, h2, h3⟩ := (show FewG d2 ((w.alloc (.cells La.toArray 38)).alloc (.cells Lb.toArray 38)).heap.size (e 3) w9 from hF 3 (by kernel_rfl))
    rw [if_pos (by rfl)]
    refine wp_store_row 38 _ _ rfl (w.heap.size + 1) (acL d2 (some x) c).toArray rfl (show e 3 = _ from h1) 38 _ (HbB.out w9 hR) (by kernel_rfl) (by rw [List.size_toArray, Hll2.out]; rfl) (all_oneCell_toArray (one_acL _ _ _)) (hK _ _ _ (EffS.st5 _ _) (fun L hL => (by rw [← agg_inj (h1.symm.trans hL)]; exact Blk.setRow_ (HbB.out w9 hR) _)) rfl)
  · intro e; rfl
  refine My.mix_nil fun e w1 hR hF => hFin _ _ ?_
  simp only [List.drop_succ_cons, List.drop_zero]
  obtain ⟨x, c1, h1, hA1, hz1⟩ := (show FewG d ((w.alloc (.cells La.toArray 38)).alloc (.cells Lb.toArray 38)).heap.size (e 1) w1 from hF 1 (by decide))
  obtain ⟨x2, c2, h2, hA2, hz2⟩ := (show FewG d2 ((w.alloc (.cells La.toArray 38)).alloc (.cells Lb.toArray 38)).heap.size (e 3) w1 from hF 3 (by decide))
  have hB1 := (show StoG w.heap.size (e 1) w1 from hF 4 (by decide)) _ h1
  have hB2 := (show StoG (w.heap.size + 1) (e 3) w1 from hF 5 (by decide)) _ h2
  rw [h1, h2]
  have HS1 := hide (HSw.out _ hR.both)
  have Hat1 := hide hA1
  have Hat2 := hide hA2
  obtain ⟨D, hD⟩ : ∃ D, acL d (some x) c1 = D := ⟨_, rfl⟩
  obtain ⟨D2, hD2⟩ : ∃ D, acL d2 (some x2) c2 = D := ⟨_, rfl⟩
  have HDc : ActC D d (some x) c1 := ⟨hD.symm⟩
  have HDc2 : ActC D2 d2 (some x2) c2 := ⟨hD2.symm⟩
  rw [hD] at hB1 ⊢
  rw [hD2] at hB2 ⊢
  have HB1 := hide hB1
  have HB2 := hide hB2
  clear hR hF hFin h1 h2 hA1 hA2 hz1 hz2 hB1 hB2 hD hD2
  have hgd := hgd1.out
  have HrD := hide (fun (w' : World) (hs : Same w1 w') => blk_range (HB1.out.same hs))
  have HrD2 := hide (fun (w' : World) (hs : Same w1 w') => blk_range (HB2.out.same hs))
  have Hsl := hide (fun (w' : World) (hs : Same w1 w') => (show w'.cell? ⟨w.heap.size, 21, none⟩ = some (.slice (some x) d.b.length c1) from by rw [(HB1.out.same hs).cell 21, List.getElem?_toArray]; exact HDc.c21))
  have HFd : Hid (∀ w', Same w1 w' → Calls Tryz.prog 8 #[.agg D.toArray] w' fun e w'' => (∃ x c, e = .returned (.agg (acL d (some x) c).toArray) ∧ ActAt w'' d (some x) c) ∧ Same w' w'') := hide fun w' hs => (by
    have h := few_any d w' (Hat1.out.same hs)
    unfold FewEnd at h
    rw [Hfe.out] at h
    rw [show acV d (some x) c1 = .agg D.toArray from by unfold acV; rw [← HDc.eq]] at h
    exact h.mono fun e w'' ⟨⟨x, c, h1, h2, _⟩, h3⟩ => ⟨⟨x, c, h1, h2⟩, h3⟩)
  have HFd2 : Hid (∀ w', Same w1 w' → Calls Tryz.prog 8 #[.agg D2.toArray] w' fun e w'' => (∃ x c, e = .returned (.agg (acL d2 (some x) c).toArray) ∧ ActAt w'' d2 (some x) c) ∧ Same w' w'') := hide fun w' hs => (by
    have h := few_any d2 w' (Hat2.out.same hs)
    unfold FewEnd at h
    rw [Hfe2.out] at h
    rw [show acV d2 (some x2) c2 = .agg D2.toArray from by unfold acV; rw [← HDc2.eq]] at h
    exact h.mono fun e w'' ⟨⟨x, c, h1, h2, _⟩, h3⟩ => ⟨⟨x, c, h1, h2⟩, h3⟩)
  have HSh : Hid (∀ (x : Addr) (c : Nat) w', ActAt w' d (some x) c → Same w1 w' → Calls Tryz.prog 18 #[.agg (acL d (some x) c).toArray] w' fun e w'' => e = .returned (.tuple #[.string ⟨(showB d).toArray⟩, .int .i64 0]) ∧ Same w' w'') := hide fun x c w' h hs => (by
    have h1 := Show_any (c := c) d w' h.1 (Nat.le_trans Hdl.out (by decide)) Hdw.out (HAm.out w' (Same.trans HS1.out hs))
    unfold ShowEnd strV at h1
    rw [hgd] at h1
    simp only [if_true] at h1
    exact h1)
  have HGo : Hid (∀ (x : Addr) (c : Nat) w', Calls Tryz.prog 19 #[.agg (acL d (some x) c).toArray] w' fun e w'' => e = .returned (.bool true) ∧ Same w' w'') := hide fun x c w' => (by
    have h1 := sGood_any d (some x) c w' (Nat.le_trans Hdl.out (by decide))
    rw [hgd] at h1
    exact h1)
  have HGr : Hid (∀ w', Calls Tryz.prog 11 #[.agg D.toArray] w' fun e w'' => e = .returned (.bool true) ∧ Same w' w'') := hide fun w' => (by
    have h1 := rgoodA_any d (some x) c1 w' (Nat.le_trans Hdl.out (by decide))
    rw [hgd, show acV d (some x) c1 = .agg D.toArray from by unfold acV; rw [← HDc.eq]] at h1
    exact h1)
  have HHx := hide (fun (A : Option Addr) (c : Nat) (w' : World) (h : Rd w' A (bs d.b)) => Hex_any (c := c) d.b w' h (Nat.le_trans Hdl.out (by decide)))
  have HHr := hide (fun (w' : World) (hs : Same w1 w') => rHex_any (c := c1) d.b w' (Hat1.out.1.same hs) (Nat.le_trans Hdl.out (by decide)))
  have HLi : Hid (∀ w', Same w1 w' → Calls Tryz.prog 13 #[] w' fun e w'' => e = .returned (.bool true) ∧ Same w' w'') := hide fun w' hs => HL.out w' (Same.trans HS1.out hs)
  have Hbl := hide (show (bs d.b).length = d.b.length * 1 by simp [bs])
  have Hdl2 := Hdl.out
  unfold strV at HHx HHr
  have HrD0 := hide (HrD.out w1 (Chg.refl _ _))
  have Hps := hide (parse_show ones_W hgd Hdw.out)
  have Hsl1 := hide (showB_len hgd Hdw.out)
  have Hsw := hide (showW_len hgd)
  have Hspl := hide (split_show d)
  have HRs : Hid (∀ w', Same w1 w' → Calls Tryz.prog 12 #[.agg D.toArray] w' fun e w'' => e = .returned (.string ⟨(showB d).toArray⟩) ∧ Same w' w'') := hide fun w' hs => (by
    have h := rshow_any d (c := c1) w' (Hat1.out.1.same hs) hgd Hdw.out
    rw [show acV d (some x) c1 = .agg D.toArray from by unfold acV; rw [← HDc.eq]] at h
    exact h)
  have HOn : Hid (∀ w', Calls Tryz.prog 15 #[.agg D.toArray] w' fun e w'' => e = .returned (acV (onlyA d) (onlyAt d (some x)) (onlyCap d c1)) ∧ Same w' w'') := hide fun w' => (by
    have h := ronlyA_any d (A0 := some x) (c := c1) w' hgd
    rw [show acV d (some x) c1 = .agg D.toArray from by unfold acV; rw [← HDc.eq]] at h
    exact h)
  have HPa : Hid (∀ w', Same w1 w' → Calls Tryz.prog 9 #[.string ⟨(showB d).toArray⟩] w' fun e w'' => (∃ A2 c2, e = .returned (.tuple #[.agg (acL (onlyA d) A2 c2).toArray, .int .i64 0]) ∧ ActAt w'' (onlyA d) A2 c2) ∧ Same w' w'') := hide fun w' hs => (by
    have h := HPr.out (showB d) w' (Same.trans HS1.out hs) (by have := Hsl1.out; omega) (by rw [Hspl.out]; have := Hsw.out; omega)
    refine h.mono fun e w'' ⟨h1, h2⟩ => ⟨?_, h2⟩
    rcases h1 with ⟨a2, A2, cc, h3, h4, h5, h6⟩ | ⟨h3, _⟩
    · rw [Hps.out] at h3; cases h3; exact ⟨A2, cc, h4, h5⟩
    · rw [Hps.out] at h3; cases h3)
  have HG2 : Hid (∀ w', Calls Tryz.prog 11 #[.agg D2.toArray] w' fun e w'' => e = .returned (.bool true) ∧ Same w' w'') := hide fun w' => (by
    have h1 := rgoodA_any d2 (some x2) c2 w' (Nat.le_trans Hdl0.out (by decide))
    rw [hg2.out, show acV d2 (some x2) c2 = .agg D2.toArray from by unfold acV; rw [← HDc2.eq]] at h1
    exact h1)
  have HOn2 : Hid (∀ w', Calls Tryz.prog 15 #[.agg D2.toArray] w' fun e w'' => e = .returned (acV (onlyA d2) (onlyAt d2 (some x2)) (onlyCap d2 c2)) ∧ Same w' w'') := hide fun w' => (by
    have h := ronlyA_any d2 (A0 := some x2) (c := c2) w' hg2.out
    rw [show acV d2 (some x2) c2 = .agg D2.toArray from by unfold acV; rw [← HDc2.eq]] at h
    exact h)
  have HRS : Hid (∀ w', Same w1 w' → Calls Tryz.prog 14 #[acV (onlyA d) (onlyAt d (some x)) (onlyCap d c1), acV (onlyA d2) (onlyAt d2 (some x2)) (onlyCap d2 c2)] w' fun e w'' => e = .returned (.bool (eqA (onlyA d) (onlyA d2))) ∧ Same w' w'') := hide fun w' hs => rsame_any (onlyA d) (onlyA d2) w' ((onlyA_at Hat1.out).1.same hs) ((onlyA_at Hat2.out).1.same hs)
  have HSS : Hid (∀ (x y : Addr) (c k : Nat) w', ActAt w' d (some x) c → ActAt w' d2 (some y) k → Calls Tryz.prog 22 #[.agg (acL d (some x) c).toArray, .agg (acL d2 (some y) k).toArray] w' fun e w'' => e = .returned (.bool (eqA (onlyA d) (onlyA d2))) ∧ Same w' w'') := hide fun x y c k w' h1 h2 => ssame_any d d2 w' h1 h2 hgd hg2.out Hdl.out Hdl0.out
  clear hgd
  go_wp2_with (first
    | ((with_reducible refine ldR 38 w.heap.size 0 22 D rowAct HDc.len HrD0.out ?_ ?_ ?_); rfl; rfl)
    | (go_at_call 8; ((with_reducible refine (HFd.out _ (Chg.refl _ _)).mono ?_); rintro e w2 ⟨⟨x', c', rfl, hat⟩, hs2⟩; have hSh2 := HSh.out x' c' w2 hat hs2; have HSh2 := hide hSh2; have Hs2 := hide hs2; obtain ⟨F, hF⟩ : ∃ F, acL d (some x') c' = F := ⟨_, rfl⟩; rw [hF] at HSh2 ⊢; clear hat hSh2 hs2 hF))
    | (go_at_call 18; ((with_reducible refine HSh2.out.mono ?_); rintro e w12 ⟨rfl, hs12⟩; have Hs12 := hide (Same.trans Hs2.out hs12); clear hs12))
    | fail)
  refine wp_region_mixS 17 (by kernel_rfl) (by kernel_rfl) fun Fin hFin => ?_
  simp only [List.take_succ_cons, List.take_zero]
  refine mix_ld D ?_ (fun w => Chg.refl _ w) (fun _ => by rfl) 38 _ rfl w.heap.size 0 (fun _ => by rfl) _ (fun w1 hR => HrD.out _ (Same.trans Hs12.out hR)) Tryz.underlying38 rfl (by rw [HDc.len]; exact infoAct) ?_ ?_
  rotate_left
  · intro e; simp only [Act.put, List.setIfInBounds_toArray, List.set_cons_zero, List.set_cons_succ]; rfl
  refine mix_letS (fun _ v w9 => ∃ x c, v = .agg (acL d (some x) c).toArray ∧ ActAt w9 d (some x) c) ?_ (by exact Loc.const _ _) ?_ ?_ ?_ ?_ ?_
  rotate_left
  · rintro e u w1 w2 hs ⟨x, c, h1, h2⟩; exact ⟨x, c, h1, h2.same hs⟩
  · intro e; rfl
  · intro e w9 hR hF K hK; go_simp; go_at_call 8; (refine (HFd.out _ (Same.trans Hs12.out hR)).mono ?_); rintro _ w8 ⟨⟨x, c, rfl, h1⟩, h3⟩; exact hK _ _ _ h3 ⟨x, c, rfl, h1⟩ (by simp only [Act.put, List.setIfInBounds_toArray, List.set_cons_zero, List.set_cons_succ])
  · intro e; simp only [Act.put, List.setIfInBounds_toArray, List.set_cons_zero, List.set_cons_succ]; rfl
  iterate 1 (
      (refine mix_lit ?_ ?_ (fun w => Chg.refl _ w) ?_ ?_ ?_ ?_
       rotate_left; rotate_left
       · intro e w1 hR hF K hK; (obtain ⟨x, c, hx, hxa⟩ := (show ∃ x c, e 1 = .agg (acL d (some x) c).toArray ∧ ActAt w1 d (some x) c from hF 1 (by kernel_rfl))); go_simp; (first | (go_at_call 19; (with_reducible refine (HGo.out x c _).mono ?_); rintro _ w2 ⟨rfl, hs⟩; refine hK _ _ hs ?_; rw [← hx]))
       · intro e; simp only [Act.put, List.setIfInBounds_toArray, List.set_cons_zero, List.set_cons_succ]; rfl
       · exact Loc.const _ _))
  refine mix_ld D ?_ (fun w => Chg.refl _ w) (fun _ => by rfl) 38 _ rfl w.heap.size 0 (fun _ => by rfl) _ (fun w1 hR => HrD.out _ (Same.trans Hs12.out hR)) Tryz.underlying38 rfl (by rw [HDc.len]; exact infoAct) ?_ ?_
  rotate_left
  · intro e; simp only [Act.put, List.setIfInBounds_toArray, List.set_cons_zero, List.set_cons_succ]; rfl
  iterate 3 (
      (refine mix_lit ?_ ?_ (fun w => Chg.refl _ w) ?_ ?_ ?_ ?_
       rotate_left; rotate_left
       · intro e w1 hR hF K hK; (skip); go_simp; (first | (refine hK _ _ (Chg.refl _ _) ?_; rfl) | (go_at_call 11; (with_reducible refine (HGr.out _).mono ?_); rintro _ w2 ⟨rfl, hs⟩; refine hK _ _ hs ?_; rfl))
       · intro e; simp only [Act.put, List.setIfInBounds_toArray, List.set_cons_zero, List.set_cons_succ]; rfl
       · exact Loc.const _ _))
  refine mix_letS (fun _ v w9 => BldG v) ?_ (by exact Loc.const _ _) ?_ ?_ ?_ ?_ ?_
  rotate_left
  · intro e u w1 w2 hs h; exact h
  · intro e; rfl
  · intro e w9 hR hF K hK; go_simp; exact hK _ _ _ ((Chg.refl _ _).alloc _) ⟨_, rfl⟩ rfl
  · intro e; simp only [Act.put, List.setIfInBounds_toArray, List.set_cons_zero, List.set_cons_succ]; rfl
  iterate 2 (
      (refine mix_lit ?_ ?_ (fun w => Chg.refl _ w) ?_ ?_ ?_ ?_
       rotate_left; rotate_left
       · intro e w1 hR hF K hK; (have cs := Hsl.out w1 (Same.trans Hs12.out hR)); go_simp; (refine hK _ _ (Chg.refl _ _) ?_; rfl)
       · intro e; simp only [Act.put, List.setIfInBounds_toArray, List.set_cons_zero, List.set_cons_succ]; rfl
       · exact Loc.const _ _))
  refine mix_letS (fun _ v w9 => AppG d.b v w9) ?_ (by exact Loc.const _ _) ?_ ?_ ?_ ?_ ?_
  rotate_left
  · intro e u w1 w2 hs h; exact h.same hs
  · intro e; rfl
  · intro e w9 hR hF K hK
    obtain ⟨b9, hb9⟩ := (show BldG (e 7) from hF 7 (by kernel_rfl))
    rw [if_pos (by rfl)]
    exact wp_app0 w9 (.tmp 26) (.tmp 28) _ (by rfl) slB (show e 7 = _ from hb9) (by rfl) Hbl.out (Hat1.out.1.same (Same.trans Hs12.out hR)) (by omega) (by omega) fun A' c' w' hr _ _ hs _ => hK _ _ _ hs ⟨A', c', rfl, hr⟩ (by rfl)
  · intro e; simp only [Act.put, List.setIfInBounds_toArray, List.set_cons_zero, List.set_cons_succ]; rfl
  iterate 1 (
      (refine mix_lit ?_ ?_ (fun w => Chg.refl _ w) ?_ ?_ ?_ ?_
       rotate_left; rotate_left
       · intro e w1 hR hF K hK; (obtain ⟨A9, c9, hx, hxr⟩ := (show AppG d.b (e 10) w1 from hF 10 (by kernel_rfl))); go_simp; (first | (go_at_call 20; (with_reducible refine (HHx.out A9 c9 _ hxr).mono ?_); rintro _ w2 ⟨rfl, hs⟩; refine hK _ _ hs ?_; rw [← hx]))
       · intro e; simp only [Act.put, List.setIfInBounds_toArray, List.set_cons_zero, List.set_cons_succ]; rfl
       · exact Loc.const _ _))
  iterate 2 (
      (refine mix_lit ?_ ?_ (fun w => Chg.refl _ w) ?_ ?_ ?_ ?_
       rotate_left; rotate_left
       · intro e w1 hR hF K hK; (have cs := Hsl.out w1 (Same.trans Hs12.out hR)); go_simp; (refine hK _ _ (Chg.refl _ _) ?_; rfl)
       · intro e; simp only [Act.put, List.setIfInBounds_toArray, List.set_cons_zero, List.set_cons_succ]; rfl
       · exact Loc.const _ _))
  iterate 3 (
      (refine mix_lit ?_ ?_ (fun w => Chg.refl _ w) ?_ ?_ ?_ ?_
       rotate_left; rotate_left
       · intro e w1 hR hF K hK; (skip); go_simp; (first | (refine hK _ _ (Chg.refl _ _) ?_; rfl) | (go_at_call 21; (with_reducible refine (HHr.out _ (Same.trans Hs12.out hR)).mono ?_); rintro _ w2 ⟨rfl, hs⟩; refine hK _ _ hs ?_; rfl))
       · intro e; simp only [Act.put, List.setIfInBounds_toArray, List.set_cons_zero, List.set_cons_succ]; rfl
       · exact Loc.const _ _))
  refine mix_nil fun e w3 hR hF => hFin _ _ ?_
  simp only [List.drop_succ_cons, List.drop_zero]
  have Hs3 := hide (Same.trans Hs12.out hR)
  clear hR hF hFin
  have HrD3 := hide (HrD.out _ Hs3.out)
  go_wp2_with (first
    | ((with_reducible refine ldR 38 w.heap.size 0 22 D rowAct HDc.len HrD3.out ?_ ?_ ?_); rfl; rfl)
    | (go_at_call 11; ((with_reducible refine (HGr.out _).mono ?_); rintro e w4 ⟨rfl, hs4⟩; have Hs4 := hide (Same.trans Hs3.out hs4); clear hs4))
    | (go_at_call 9; ((with_reducible refine (HPa.out _ Hs4.out).mono ?_); rintro e w5 ⟨⟨A5, c5, rfl, hat5⟩, hs5⟩; have Hs5 := hide (Same.trans Hs4.out hs5); have Hat5 := hide hat5; obtain ⟨Y, hY⟩ : ∃ Y, acL (onlyA d) A5 c5 = Y := ⟨_, rfl⟩; have HYc : ActC Y (onlyA d) A5 c5 := ⟨hY.symm⟩; rw [hY]; clear hs5 hat5 hY))
    | ((with_reducible refine stNg 38 22 Y 38 _ rowAct HYc.len ?_ HYc.one ?_ ?_ ?_); rfl; rfl; rfl; intro w6 hs6 hz hb; have Hy6 := hide hb; have Hs6 := hide (Same.trans Hs5.out hs6); have Hat6 := hide (Hat5.out.same hs6); clear hs6 hz hb)
    | fail)
  have HrY := hide (fun (w' : World) (hs : Same w6 w') => blk_range (Hy6.out.same hs))
  have HSm : Hid (∀ w', Same w6 w' → Calls Tryz.prog 14 #[.agg Y.toArray, acV (onlyA d) (onlyAt d (some x)) (onlyCap d c1)] w' fun e w'' => e = .returned (.bool true) ∧ Same w' w'') := hide fun w' hs => (by
    have h := rsame_any (onlyA d) (onlyA d) (c := c5) (d := onlyCap d c1) w' (Hat6.out.1.same hs) ((onlyA_at Hat1.out).1.same (Same.trans Hs6.out hs))
    rw [eqA_refl] at h
    rw [show acV (onlyA d) A5 c5 = .agg Y.toArray from by unfold acV; rw [← HYc.eq]] at h
    exact h)
  obtain ⟨OV, hOV⟩ : ∃ v, acV (onlyA d) (onlyAt d (some x)) (onlyCap d c1) = v := ⟨_, rfl⟩
  obtain ⟨OV2, hOV2⟩ : ∃ v, acV (onlyA d2) (onlyAt d2 (some x2)) (onlyCap d2 c2) = v := ⟨_, rfl⟩
  obtain ⟨eq, heq⟩ : ∃ v, eqA (onlyA d) (onlyA d2) = v := ⟨_, rfl⟩
  rw [hOV2] at HOn2 HRS
  rw [hOV, heq] at HRS
  rw [heq] at HSS
  clear hOV2 heq
  rw [hOV] at HOn HSm
  clear hOV
  refine wp_region_mixS 19 (by kernel_rfl) (by kernel_rfl) fun Fin hFin => ?_
  simp only [List.take_succ_cons, List.take_zero]
  iterate 4 (
      (refine mix_lit ?_ ?_ (fun w => Chg.refl _ w) ?_ ?_ ?_ ?_
       rotate_left; rotate_left
       · intro e w1 hR hF K hK; (skip); go_simp; (first | (refine hK _ _ (Chg.refl _ _) ?_; rfl) | (go_at_call 12; (with_reducible refine (HRs.out _ (Same.trans Hs6.out hR)).mono ?_); rintro _ w2 ⟨rfl, hs⟩; refine hK _ _ hs ?_; rfl) | (go_at_call 15; (with_reducible refine (HOn.out _).mono ?_); rintro _ w2 ⟨rfl, hs⟩; refine hK _ _ hs ?_; rfl) | (go_at_call 14; (with_reducible refine (HSm.out _ hR).mono ?_); rintro _ w2 ⟨rfl, hs⟩; refine hK _ _ hs ?_; rfl))
       · intro e; simp only [Act.put, List.setIfInBounds_toArray, List.set_cons_zero, List.set_cons_succ]; rfl
       · exact Loc.const _ _))
  refine mix_ld D ?_ (fun w => Chg.refl _ w) (fun _ => by rfl) 38 _ rfl w.heap.size 0 (fun _ => by rfl) _ (fun w1 hR => HrD.out _ (Same.trans Hs6.out hR)) Tryz.underlying38 rfl (by rw [HDc.len]; exact infoAct) ?_ ?_
  rotate_left
  · intro e; simp only [Act.put, List.setIfInBounds_toArray, List.set_cons_zero, List.set_cons_succ]; rfl
  iterate 8 (
      (refine mix_lit ?_ ?_ (fun w => Chg.refl _ w) ?_ ?_ ?_ ?_
       rotate_left; rotate_left
       · intro e w1 hR hF K hK; (skip); go_simp; (first | (refine hK _ _ (Chg.refl _ _) ?_; rfl) | (go_at_call 12; (with_reducible refine (HRs.out _ (Same.trans Hs6.out hR)).mono ?_); rintro _ w2 ⟨rfl, hs⟩; refine hK _ _ hs ?_; rfl) | (go_at_call 15; (with_reducible refine (HOn.out _).mono ?_); rintro _ w2 ⟨rfl, hs⟩; refine hK _ _ hs ?_; rfl) | (go_at_call 14; (with_reducible refine (HSm.out _ hR).mono ?_); rintro _ w2 ⟨rfl, hs⟩; refine hK _ _ hs ?_; rfl))
       · intro e; simp only [Act.put, List.setIfInBounds_toArray, List.set_cons_zero, List.set_cons_succ]; rfl
       · exact Loc.const _ _))
  refine mix_ld Y ?_ (fun w => Chg.refl _ w) (fun _ => by rfl) 38 _ rfl w5.heap.size 0 (fun _ => by rfl) _ (fun w1 hR => HrY.out _ hR) Tryz.underlying38 rfl (by rw [HYc.len]; exact infoAct) ?_ ?_
  rotate_left
  · intro e; simp only [Act.put, List.setIfInBounds_toArray, List.set_cons_zero, List.set_cons_succ]; rfl
  refine mix_ld D ?_ (fun w => Chg.refl _ w) (fun _ => by rfl) 38 _ rfl w.heap.size 0 (fun _ => by rfl) _ (fun w1 hR => HrD.out _ (Same.trans Hs6.out hR)) Tryz.underlying38 rfl (by rw [HDc.len]; exact infoAct) ?_ ?_
  rotate_left
  · intro e; simp only [Act.put, List.setIfInBounds_toArray, List.set_cons_zero, List.set_cons_succ]; rfl
  iterate 4 (
      (refine mix_lit ?_ ?_ (fun w => Chg.refl _ w) ?_ ?_ ?_ ?_
       rotate_left; rotate_left
       · intro e w1 hR hF K hK; (skip); go_simp; (first | (refine hK _ _ (Chg.refl _ _) ?_; rfl) | (go_at_call 12; (with_reducible refine (HRs.out _ (Same.trans Hs6.out hR)).mono ?_); rintro _ w2 ⟨rfl, hs⟩; refine hK _ _ hs ?_; rfl) | (go_at_call 15; (with_reducible refine (HOn.out _).mono ?_); rintro _ w2 ⟨rfl, hs⟩; refine hK _ _ hs ?_; rfl) | (go_at_call 14; (with_reducible refine (HSm.out _ hR).mono ?_); rintro _ w2 ⟨rfl, hs⟩; refine hK _ _ hs ?_; rfl))
       · intro e; simp only [Act.put, List.setIfInBounds_toArray, List.set_cons_zero, List.set_cons_succ]; rfl
       · exact Loc.const _ _))
  refine mix_nil fun e w7 hR hF => hFin _ _ ?_
  simp only [List.drop_succ_cons, List.drop_zero]
  have Hs7 := hide (Same.trans Hs6.out hR)
  clear hR hF hFin
  go_wp2_with fail
  refine wp_region_mixS 20 (by kernel_rfl) (by kernel_rfl) fun Fin hFin => ?_
  simp only [List.take_succ_cons, List.take_zero]
  refine mix_ld D2 ?_ (fun w => Chg.refl _ w) (fun _ => by rfl) 38 _ rfl (w.heap.size + 1) 0 (fun _ => by rfl) _ (fun w1 hR => HrD2.out _ (Same.trans Hs7.out hR)) Tryz.underlying38 rfl (by rw [HDc2.len]; exact infoAct) ?_ ?_
  rotate_left
  · intro e; simp only [Act.put, List.setIfInBounds_toArray, List.set_cons_zero, List.set_cons_succ]; rfl
  iterate 3 (
      (refine mix_lit ?_ ?_ (fun w => Chg.refl _ w) ?_ ?_ ?_ ?_
       rotate_left; rotate_left
       · intro e w1 hR hF K hK; (skip); go_simp; (first | (refine hK _ _ (Chg.refl _ _) ?_; rfl) | (go_at_call 11; (with_reducible refine (HG2.out _).mono ?_); rintro _ w2 ⟨rfl, hs⟩; refine hK _ _ hs ?_; rfl) | (go_at_call 13; (with_reducible refine (HLi.out _ (Same.trans Hs7.out hR)).mono ?_); rintro _ w2 ⟨rfl, hs⟩; refine hK _ _ hs ?_; rfl))
       · intro e; simp only [Act.put, List.setIfInBounds_toArray, List.set_cons_zero, List.set_cons_succ]; rfl
       · exact Loc.const _ _))
  refine mix_ld D ?_ (fun w => Chg.refl _ w) (fun _ => by rfl) 38 _ rfl w.heap.size 0 (fun _ => by rfl) _ (fun w1 hR => HrD.out _ (Same.trans Hs7.out hR)) Tryz.underlying38 rfl (by rw [HDc.len]; exact infoAct) ?_ ?_
  rotate_left
  · intro e; simp only [Act.put, List.setIfInBounds_toArray, List.set_cons_zero, List.set_cons_succ]; rfl
  refine mix_letS (fun _ v w9 => ∃ x c, v = .agg (acL d (some x) c).toArray ∧ ActAt w9 d (some x) c) ?_ (by exact Loc.const _ _) ?_ ?_ ?_ ?_ ?_
  rotate_left
  · rintro e u w1 w2 hs ⟨x, c, h1, h2⟩; exact ⟨x, c, h1, h2.same hs⟩
  · intro e; rfl
  · intro e w9 hR hF K hK; go_simp; go_at_call 8; (refine (HFd.out _ (Same.trans Hs7.out hR)).mono ?_); rintro _ w8 ⟨⟨x, c, rfl, h1⟩, h3⟩; exact hK _ _ _ h3 ⟨x, c, rfl, h1⟩ (by simp only [Act.put, List.setIfInBounds_toArray, List.set_cons_zero, List.set_cons_succ])
  · intro e; simp only [Act.put, List.setIfInBounds_toArray, List.set_cons_zero, List.set_cons_succ]; rfl
  refine mix_ld D2 ?_ (fun w => Chg.refl _ w) (fun _ => by rfl) 38 _ rfl (w.heap.size + 1) 0 (fun _ => by rfl) _ (fun w1 hR => HrD2.out _ (Same.trans Hs7.out hR)) Tryz.underlying38 rfl (by rw [HDc2.len]; exact infoAct) ?_ ?_
  rotate_left
  · intro e; simp only [Act.put, List.setIfInBounds_toArray, List.set_cons_zero, List.set_cons_succ]; rfl
  refine mix_letS (fun _ v w9 => ∃ x c, v = .agg (acL d2 (some x) c).toArray ∧ ActAt w9 d2 (some x) c) ?_ (by exact Loc.const _ _) ?_ ?_ ?_ ?_ ?_
  rotate_left
  · rintro e u w1 w2 hs ⟨x, c, h1, h2⟩; exact ⟨x, c, h1, h2.same hs⟩
  · intro e; rfl
  · intro e w9 hR hF K hK; go_simp; go_at_call 8; (refine (HFd2.out _ (Same.trans Hs7.out hR)).mono ?_); rintro _ w8 ⟨⟨x, c, rfl, h1⟩, h3⟩; exact hK _ _ _ h3 ⟨x, c, rfl, h1⟩ (by simp only [Act.put, List.setIfInBounds_toArray, List.set_cons_zero, List.set_cons_succ])
  · intro e; simp only [Act.put, List.setIfInBounds_toArray, List.set_cons_zero, List.set_cons_succ]; rfl
  iterate 1 (
      (refine mix_lit ?_ ?_ (fun w => Chg.refl _ w) ?_ ?_ ?_ ?_
       rotate_left; rotate_left
       · intro e w1 hR hF K hK; (obtain ⟨x9, c9, hx, hxa⟩ := (show ∃ x c, e 5 = .agg (acL d (some x) c).toArray ∧ ActAt w1 d (some x) c from hF 5 (by kernel_rfl)); obtain ⟨y9, k9, hy, hya⟩ := (show ∃ x c, e 7 = .agg (acL d2 (some x) c).toArray ∧ ActAt w1 d2 (some x) c from hF 7 (by kernel_rfl))); go_simp; (first | (go_at_call 22; (with_reducible refine (HSS.out x9 y9 c9 k9 _ hxa hya).mono ?_); rintro _ w2 ⟨rfl, hs⟩; refine hK _ _ hs ?_; rw [← hx, ← hy]))
       · intro e; simp only [Act.put, List.setIfInBounds_toArray, List.set_cons_zero, List.set_cons_succ]; rfl
       · exact Loc.const _ _))
  refine mix_ld D ?_ (fun w => Chg.refl _ w) (fun _ => by rfl) 38 _ rfl w.heap.size 0 (fun _ => by rfl) _ (fun w1 hR => HrD.out _ (Same.trans Hs7.out hR)) Tryz.underlying38 rfl (by rw [HDc.len]; exact infoAct) ?_ ?_
  rotate_left
  · intro e; simp only [Act.put, List.setIfInBounds_toArray, List.set_cons_zero, List.set_cons_succ]; rfl
  iterate 1 (
      (refine mix_lit ?_ ?_ (fun w => Chg.refl _ w) ?_ ?_ ?_ ?_
       rotate_left; rotate_left
       · intro e w1 hR hF K hK; (skip); go_simp; (first | (refine hK _ _ (Chg.refl _ _) ?_; rfl) | (go_at_call 15; (with_reducible refine (HOn.out _).mono ?_); rintro _ w2 ⟨rfl, hs⟩; refine hK _ _ hs ?_; rfl) | (go_at_call 15; (with_reducible refine (HOn2.out _).mono ?_); rintro _ w2 ⟨rfl, hs⟩; refine hK _ _ hs ?_; rfl) | (go_at_call 14; (with_reducible refine (HRS.out _ (Same.trans Hs7.out hR)).mono ?_); rintro _ w2 ⟨rfl, hs⟩; refine hK _ _ hs ?_; rfl) | (go_at_call 13; (with_reducible refine (HLi.out _ (Same.trans Hs7.out hR)).mono ?_); rintro _ w2 ⟨rfl, hs⟩; refine hK _ _ hs ?_; rfl))
       · intro e; simp only [Act.put, List.setIfInBounds_toArray, List.set_cons_zero, List.set_cons_succ]; rfl
       · exact Loc.const _ _))
  refine mix_ld D2 ?_ (fun w => Chg.refl _ w) (fun _ => by rfl) 38 _ rfl (w.heap.size + 1) 0 (fun _ => by rfl) _ (fun w1 hR => HrD2.out _ (Same.trans Hs7.out hR)) Tryz.underlying38 rfl (by rw [HDc2.len]; exact infoAct) ?_ ?_
  rotate_left
  · intro e; simp only [Act.put, List.setIfInBounds_toArray, List.set_cons_zero, List.set_cons_succ]; rfl
  iterate 8 (
      (refine mix_lit ?_ ?_ (fun w => Chg.refl _ w) ?_ ?_ ?_ ?_
       rotate_left; rotate_left
       · intro e w1 hR hF K hK; (skip); go_simp; (first | (refine hK _ _ (Chg.refl _ _) ?_; rfl) | (go_at_call 15; (with_reducible refine (HOn.out _).mono ?_); rintro _ w2 ⟨rfl, hs⟩; refine hK _ _ hs ?_; rfl) | (go_at_call 15; (with_reducible refine (HOn2.out _).mono ?_); rintro _ w2 ⟨rfl, hs⟩; refine hK _ _ hs ?_; rfl) | (go_at_call 14; (with_reducible refine (HRS.out _ (Same.trans Hs7.out hR)).mono ?_); rintro _ w2 ⟨rfl, hs⟩; refine hK _ _ hs ?_; rfl) | (go_at_call 13; (with_reducible refine (HLi.out _ (Same.trans Hs7.out hR)).mono ?_); rintro _ w2 ⟨rfl, hs⟩; refine hK _ _ hs ?_; rfl))
       · intro e; simp only [Act.put, List.setIfInBounds_toArray, List.set_cons_zero, List.set_cons_succ]; rfl
       · exact Loc.const _ _))
  refine mix_nil fun e w9 hR hF => hFin _ _ ?_
  simp only [List.drop_succ_cons, List.drop_zero]
  have Hs9 := hide (Same.trans Hs7.out hR)
  clear hR hF hFin
  go_wp2_with fail
  go_ret
  exact ⟨by first | rfl | simp, Same.trans HS1.out Hs9.out⟩
theorem scriptShows_any (a b : Ac) {A B : Option Addr} {c0 k0 : Nat} (w : World) (ha : Amb w) (hA : ActAt w a A c0) (hB : ActAt w b B k0) (hwa : WfA a) (hwb : WfA b) :
    Calls Tryz.prog 7 #[acV a A c0, acV b B k0] w fun e w' => e = .returned (.bool true) ∧ Same w w' := by
  cases h : goodA (fewA a) with
  | false => exact shows_bad a b w ha hA hB hwa hwb h
  | true =>
    cases h2 : goodA (fewA b) with
    | false => exact shows_gb a b w ha hA hB hwa hwb h h2
    | true => exact shows_gg a b w ha hA hB hwa hwb h h2
end Go.Proofs.YtlodanjpkjfjiaaGreatDoor
