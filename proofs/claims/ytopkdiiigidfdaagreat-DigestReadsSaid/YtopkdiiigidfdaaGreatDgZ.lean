/-
  digest's reader: all: points and intervals out of bytes. Condition: at most 1048576 bytes.
-/
import Derived.Test.YtopkdiiigidfdaaGreatDgV
import Derived.Test.YtopkdiiigidfdaaGreatDgW
import Derived.Test.YtopkdiiigidfdaaGreatMy
import Derived.RegionDies
namespace Go.Proofs.YtopkdiiigidfdaaGreat
open Go.RowKit Go.Al
set_option linter.unusedVariables false

theorem slP : SlTy Tryz.prog 54 23 3 24 := .of (z := agg3 (0, 0, 0)) Tryz.underlying54 (by kernel_rfl) rfl (by decide)
theorem slS : SlTy Tryz.prog 55 25 3 24 := .of (z := agg3 (0, 0, 0)) Tryz.underlying55 (by kernel_rfl) rfl (by decide)
theorem rd_new3 (w : World) (x y z : Value) (t : TypeId) : Rd (w.alloc (.cells #[x, y, z] t)) (some ⟨w.heap.size, 0, none⟩) [x, y, z] := fun _ =>
  ⟨_, 0, rfl, fun i v hv => by
    rw [(Blk.new w t #[x, y, z]).cell]
    simpa using hv⟩
theorem is3_snoc (l : List P3) (q : P3) : is3 (l ++ [q]) = is3 l ++ [.int .i64 q.1, .int .i64 q.2.1, .int .i64 q.2.2] := is3_append l [q]
/-! plain: how many bytes are left -/
theorem rdI_len {l : List UInt8} {q : Int × List UInt8} (h : rdI l = some q) : q.2.length + 1 ≤ l.length ∧ -2199023255552 ≤ q.1 ∧ q.1 ≤ 2199023255552 := by
  unfold rdI at h
  cases hn : rdN l with
  | none => rw [hn] at h; cases h
  | some z =>
    obtain ⟨x, r⟩ := z
    rw [hn, Option.bind_some] at h
    split at h
    · cases h
    · rename_i hf
      cases h
      have h1 := (rdN_some hn).2
      have h2 := congrArg List.length h1
      rw [List.length_append] at h2
      have := encI_pos x
      exact ⟨by show r.length + 1 ≤ l.length; omega, by show -2199023255552 ≤ x; omega, by show x ≤ 2199023255552; omega⟩
/-- what is left of the threes, behind those that are read -/
def RdMore (f : Int → P3 → P3) (n : Nat) (l0 : List UInt8) (i : Nat) (out : List P3) (last : Int) (l : List UInt8) : Prop :=
  rdT f n 0 l0 = (rdT f (n - i) last l).map fun q => (out ++ q.1, q.2)
theorem RdMore.zero (f : Int → P3 → P3) (n : Nat) (l : List UInt8) : RdMore f n l 0 [] 0 l := by
  unfold RdMore
  rw [Nat.sub_zero]
  cases rdT f n 0 l with
  | none => rfl
  | some q => simp
theorem RdMore.next {f : Int → P3 → P3} {n i : Nat} {l0 l r : List UInt8} {out : List P3} {last : Int} {a : P3} (h : RdMore f n l0 i out last l) (hi : i < n) (h3 : rd3 l = some (a, r)) : RdMore f n l0 (i + 1) (out ++ [f last a]) (f last a).1 r := by
  unfold RdMore at h ⊢
  obtain ⟨m, hm⟩ : ∃ m, n - i = m + 1 := ⟨n - i - 1, by omega⟩
  rw [h, hm, show n - (i + 1) = m by omega, rdT, h3, Option.bind_some]
  cases rdT f m (f last a).1 r with
  | none => rfl
  | some q => simp
theorem RdMore.fail {f : Int → P3 → P3} {n i : Nat} {l0 l : List UInt8} {out : List P3} {last : Int} (h : RdMore f n l0 i out last l) (hi : i < n) (h3 : rd3 l = none) : rdT f n 0 l0 = none := by
  unfold RdMore at h
  obtain ⟨m, hm⟩ : ∃ m, n - i = m + 1 := ⟨n - i - 1, by omega⟩
  rw [h, hm, rdT, h3]
  rfl
theorem RdMore.done {f : Int → P3 → P3} {n i : Nat} {l0 l : List UInt8} {out : List P3} {last : Int} (h : RdMore f n l0 i out last l) (hi : i = n) : rdT f n 0 l0 = some (out, l) := by
  subst hi
  unfold RdMore at h
  rw [h, Nat.sub_self, rdT]
  simp
theorem rdM_len {l : List UInt8} {q : Int × List UInt8} (h : rdM l = some q) : 0 ≤ q.1 ∧ q.1 ≤ ((q.2.length / 3 : Nat) : Int) ∧ q.2.length ≤ l.length := by
  unfold rdM at h
  cases hn : rdI l with
  | none => rw [hn] at h; cases h
  | some z =>
    rw [hn, Option.bind_some] at h
    split at h
    · cases h
    · cases h
      have := (rdI_len hn).1
      exact ⟨by omega, by omega, by omega⟩
theorem rdA_n1 {l l1 : List UInt8} {m : Int} (h : rdM l = some (m, l1)) (h2 : rdT ptF m.toNat 0 l1 = none) : rdA l = none := by unfold rdA; rw [h, Option.bind_some, h2]; rfl
theorem rdA_n2 {l l1 l2 : List UInt8} {m : Int} {p : List P3} (h : rdM l = some (m, l1)) (h2 : rdT ptF m.toNat 0 l1 = some (p, l2)) (h3 : rdM l2 = none) : rdA l = none := by unfold rdA; rw [h, Option.bind_some, h2, Option.bind_some, h3]; rfl
theorem rdA_n3 {l l1 l2 l3 : List UInt8} {m k : Int} {p : List P3} (h : rdM l = some (m, l1)) (h2 : rdT ptF m.toNat 0 l1 = some (p, l2)) (h3 : rdM l2 = some (k, l3)) (h4 : rdT spF k.toNat 0 l3 = none) : rdA l = none := by unfold rdA; rw [h, Option.bind_some, h2, Option.bind_some, h3, Option.bind_some, h4]; rfl
theorem rdA_s {l l1 l2 l3 l4 : List UInt8} {m k : Int} {p s : List P3} (h : rdM l = some (m, l1)) (h2 : rdT ptF m.toNat 0 l1 = some (p, l2)) (h3 : rdM l2 = some (k, l3)) (h4 : rdT spF k.toNat 0 l3 = some (s, l4)) : rdA l = some (p, s) := by unfold rdA; rw [h, Option.bind_some, h2, Option.bind_some, h3, Option.bind_some, h4]; rfl
/-- what operation i changes, if the q-th alone writes, and only blocks of S -/
abbrev EffQ (q : Nat) (S : Nat → Prop) (i : Nat) (w w' : World) : Prop := Chg (fun b => i = q ∧ S b) w w'
/-- what is known when operation k begins, or behind all -/
abbrev RelQ (q : Nat) (S : Nat → Prop) (k : Nat) (w w' : World) : Prop := Chg (fun b => k ≠ q ∧ S b) w w'
theorem RelQ.of {q : Nat} {S : Nat → Prop} {k i : Nat} {w w' : World} (hik : i ≠ k) (h : EffQ q S i w w') : RelQ q S k w w' := h.mono fun b _ e => ⟨fun e' => hik (e.1.trans e'.symm), e.2⟩
theorem RelQ.trans {q : Nat} {S : Nat → Prop} {k : Nat} {a b c : World} (h1 : RelQ q S k a b) (h2 : RelQ q S k b c) : RelQ q S k a c := Chg.trans h1 h2 fun _ _ e => e
theorem RelQ.drew {q : Nat} {S : Nat → Prop} {k : Nat} (w : World) : RelQ q S k w w.drew := (Chg.refl _ w).drew
theorem rd3_n1 {l : List UInt8} (h : rdI l = none) : rd3 l = none := by unfold rd3; rw [h]; rfl
theorem rd3_n2 {l : List UInt8} {a : Int × List UInt8} (h : rdI l = some a) (h2 : rdI a.2 = none) : rd3 l = none := by unfold rd3; rw [h, Option.bind_some, h2]; rfl
theorem rd3_n3 {l : List UInt8} {a b : Int × List UInt8} (h : rdI l = some a) (h2 : rdI a.2 = some b) (h3 : rdI b.2 = none) : rd3 l = none := by unfold rd3; rw [h, Option.bind_some, h2, Option.bind_some, h3]; rfl
theorem rd3_s {l : List UInt8} {a b c : Int × List UInt8} (h : rdI l = some a) (h2 : rdI a.2 = some b) (h3 : rdI b.2 = some c) : rd3 l = some ((a.1, b.1, c.1), c.2) := by unfold rd3; rw [h, Option.bind_some, h2, Option.bind_some, h3]; rfl
/-- the state in a loop: the reader; what is found so far, in rows of its own -/
structure Ast (u w : World) (g o : Nat) (l : List UInt8) (p s : List P3) (AP : Option Addr) (np cp : Nat) (AS : Option Addr) (ns cs : Nat) : Prop where
  rdr : Rdr w g u.heap.size l
  blk : Blk w o 113 #[.slice AP np cp, .slice AS ns cs]
  op : w.ownsRow (u.heap.size + 1) 23 3 (.slice AP np cp) np (is3 p)
  os : w.ownsRow (u.heap.size + 1) 25 3 (.slice AS ns cs) ns (is3 s)
  lp : p.length = np
  ls : s.length = ns
  og : o = u.heap.size
  gu : g < u.heap.size
  chg : Chg (fun k => k = g) u w
theorem Ast.same {u w w' : World} {g o np cp ns cs : Nat} {l : List UInt8} {p s : List P3} {AP AS : Option Addr} (h : Ast u w g o l p s AP np cp AS ns cs) (hs : Same w w') : Ast u w' g o l p s AP np cp AS ns cs :=
  ⟨h.rdr.same hs, h.blk.same hs, own_chg h.op hs fun _ _ f => f, own_chg h.os hs fun _ _ f => f, h.lp, h.ls, h.og, h.gu, h.chg.same hs⟩
/-- the reader goes on -/
theorem Ast.move {u w w' : World} {g o np cp ns cs : Nat} {l r : List UInt8} {p s : List P3} {AP AS : Option Addr} (h : Ast u w g o l p s AP np cp AS ns cs) (hc : Chg (fun k => k = g) w w') (hr : Rdr w' g u.heap.size r) : Ast u w' g o r p s AP np cp AS ns cs := by
  have hg := h.gu
  have ho := h.og
  refine ⟨hr, h.blk.chg hc (by omega), own_chg h.op hc fun b hb e => ?_, own_chg h.os hc fun b hb e => ?_, h.lp, h.ls, ho, hg, h.chg.trans hc fun _ _ e => e⟩
  · have := (h.op.lt b hb).1; omega
  · have := (h.os.lt b hb).1; omega
/-- a point behind -/
theorem Ast.pushP {u w w5 : World} {g o np cp ns cs c5 : Nat} {l : List UInt8} {p s : List P3} {AP AS A5 : Option Addr} {q : P3} (h : Ast u w g o l p s AP np cp AS ns cs) (hc : Chg (fun k => blkOf AP = some k) w w5)
    (hown : w5.ownsRow (u.heap.size + 1) 23 3 (.slice A5 (np + 1) c5) (np + 1) (is3 p ++ [.int .i64 q.1, .int .i64 q.2.1, .int .i64 q.2.2])) :
    Ast u (w5.setCell ⟨o, 0, none⟩ (.slice A5 (np + 1) c5)) g o l (p ++ [q]) s A5 (np + 1) c5 AS ns cs := by
  have hg := h.gu
  have ho := h.og
  have hAP : ∀ k, blkOf AP = some k → u.heap.size + 1 ≤ k := fun k e => (h.op.lt k (by rw [ownBlock_slice]; exact e)).1
  have hA5 : ∀ k, blkOf A5 = some k → u.heap.size + 1 ≤ k := fun k e => (hown.lt k (by rw [ownBlock_slice]; exact e)).1
  have hS : ∀ k, blkOf AS = some k → u.heap.size + 1 ≤ k := fun k e => (h.os.lt k (by rw [ownBlock_slice]; exact e)).1
  have hset := (Chg.refl (fun k => k = o) w5).setCell (p := ⟨o, 0, none⟩) (.inl rfl) (.slice A5 (np + 1) c5)
  have hb5 := h.blk.chg hc (fun e => by have := hAP o e; omega)
  have hnew := own_chg hown hset (fun b hb e => by rw [ownBlock_slice] at hb; have := hA5 b hb; omega)
  rw [← is3_snoc] at hnew
  refine ⟨(h.rdr.chg hc fun k e => by have := hAP k e; omega).chg hset fun k e => by omega, by have := hb5.set_ 0 (.slice A5 (np + 1) c5); simpa using this, hnew, own_chg (own_chg h.os hc fun b hb e => ?_) hset fun b hb e => ?_, by rw [List.length_append, h.lp]; rfl, h.ls, ho, hg, ?_⟩
  · have h1 := own_ty h.os hb
    have h2 := own_ty h.op (b := b) (by rw [ownBlock_slice]; exact e)
    rw [h1] at h2
    exact absurd h2 (by decide)
  · rw [ownBlock_slice] at hb; have := hS b hb; omega
  · exact (h.chg.trans hc fun k hk e => by have := hAP k e; omega).setCell (p := ⟨o, 0, none⟩) (.inr (by show u.heap.size ≤ o; omega)) _
theorem Ast.pushS {u w w5 : World} {g o np cp ns cs c5 : Nat} {l : List UInt8} {p s : List P3} {AP AS A5 : Option Addr} {q : P3} (h : Ast u w g o l p s AP np cp AS ns cs) (hc : Chg (fun k => blkOf AS = some k) w w5)
    (hown : w5.ownsRow (u.heap.size + 1) 25 3 (.slice A5 (ns + 1) c5) (ns + 1) (is3 s ++ [.int .i64 q.1, .int .i64 q.2.1, .int .i64 q.2.2])) :
    Ast u (w5.setCell ⟨o, 1, none⟩ (.slice A5 (ns + 1) c5)) g o l p (s ++ [q]) AP np cp A5 (ns + 1) c5 := by
  have hg := h.gu
  have ho := h.og
  have hAS : ∀ k, blkOf AS = some k → u.heap.size + 1 ≤ k := fun k e => (h.os.lt k (by rw [ownBlock_slice]; exact e)).1
  have hA5 : ∀ k, blkOf A5 = some k → u.heap.size + 1 ≤ k := fun k e => (hown.lt k (by rw [ownBlock_slice]; exact e)).1
  have hP : ∀ k, blkOf AP = some k → u.heap.size + 1 ≤ k := fun k e => (h.op.lt k (by rw [ownBlock_slice]; exact e)).1
  have hset := (Chg.refl (fun k => k = o) w5).setCell (p := ⟨o, 1, none⟩) (.inl rfl) (.slice A5 (ns + 1) c5)
  have hb5 := h.blk.chg hc (fun e => by have := hAS o e; omega)
  have hnew := own_chg hown hset (fun b hb e => by rw [ownBlock_slice] at hb; have := hA5 b hb; omega)
  rw [← is3_snoc] at hnew
  refine ⟨(h.rdr.chg hc fun k e => by have := hAS k e; omega).chg hset fun k e => by omega, by have := hb5.set_ 1 (.slice A5 (ns + 1) c5); simpa using this, own_chg (own_chg h.op hc fun b hb e => ?_) hset fun b hb e => ?_, hnew, h.lp, by rw [List.length_append, h.ls]; rfl, ho, hg, ?_⟩
  · have h1 := own_ty h.op hb
    have h2 := own_ty h.os (b := b) (by rw [ownBlock_slice]; exact e)
    rw [h1] at h2
    exact absurd h2 (by decide)
  · rw [ownBlock_slice] at hb; have := hP b hb; omega
  · exact (h.chg.trans hc fun k hk e => by have := hAS k e; omega).setCell (p := ⟨o, 1, none⟩) (.inr (by show u.heap.size ≤ o; omega)) _
/-- where all throws -/
noncomputable def whA (l : List UInt8) : Int := match rdM l with
  | none => whM l
  | some n => match rdT ptF n.1.toNat 0 n.2 with
    | none => 0
    | some p => match rdM p.2 with
      | none => whM p.2
      | some _ => 0
/-- how all ends -/
def AllV (u : World) (l : List UInt8) (q : Option (List P3 × List P3)) (e : Ending) (w' : World) : Prop := match q with
  | none => e = .panicked (fault (whA l) 8)
  | some q => ∃ AP cp AS cs, e = .returned (.agg #[.slice AP q.1.length cp, .slice AS q.2.length cs]) ∧ w'.ownsRow u.heap.size 23 3 (.slice AP q.1.length cp) q.1.length (is3 q.1) ∧ w'.ownsRow u.heap.size 25 3 (.slice AS q.2.length cs) q.2.length (is3 q.2)
def AllEnd (u : World) (g : Nat) (l : List UInt8) (q : Option (List P3 × List P3)) (e : Ending) (w' : World) : Prop := Chg (fun k => k = g) u w' ∧ AllV u l q e w'
theorem Ast.far {u w : World} {g o np cp ns cs : Nat} {l : List UInt8} {p s : List P3} {AP AS : Option Addr} (h : Ast u w g o l p s AP np cp AS ns cs) {a : Addr} (v : Value) (h1 : u.heap.size ≤ a.block) (h2 : ¬ a.block = o) (h3 : blkOf AP ≠ some a.block) (h4 : blkOf AS ≠ some a.block) : Ast u (w.setCell a v) g o l p s AP np cp AS ns cs := by
  have hg := h.gu
  have hc := (Chg.refl (fun k => k = a.block) w).setCell (p := a) (.inl rfl) v
  refine ⟨h.rdr.chg hc fun k e => by omega, h.blk.chg hc (fun e => h2 e.symm), own_chg h.op hc fun b hb e => ?_, own_chg h.os hc fun b hb e => ?_, h.lp, h.ls, h.og, hg, h.chg.setCell (.inr h1) v⟩
  · rw [ownBlock_slice, e] at hb; exact h3 hb
  · rw [ownBlock_slice, e] at hb; exact h4 hb
theorem AllV.two {u w : World} {g o np cp ns cs : Nat} {l : List UInt8} {p s : List P3} {AP AS : Option Addr} (h : Ast u w g o l p s AP np cp AS ns cs) (l0 : List UInt8) (v0 v1 : Value) : AllEnd u g l0 (some (p, s)) (.returned (.agg #[.slice AP np cp, .slice AS ns cs])) ((w.setCell ⟨o, 0, none⟩ v0).setCell ⟨o, 1, none⟩ v1) := by
  have ho := h.og
  have hc : Chg (fun k => k = o) w ((w.setCell ⟨o, 0, none⟩ v0).setCell ⟨o, 1, none⟩ v1) := ((Chg.refl (fun k => k = o) w).setCell (p := ⟨o, 0, none⟩) (.inl rfl) v0).setCell (p := ⟨o, 1, none⟩) (.inl rfl) v1
  have hp := own_chg h.op hc fun b hb e => by have := (h.op.lt b hb).1; omega
  have hs := own_chg h.os hc fun b hb e => by have := (h.os.lt b hb).1; omega
  obtain rfl := h.lp
  obtain rfl := h.ls
  exact ⟨h.chg.trans hc fun k hk e => by omega, AP, cp, AS, cs, rfl, own_mono hp fun b hb => by have := (hp.lt b hb).1; omega, own_mono hs fun b hb => by have := (hs.lt b hb).1; omega⟩
theorem results_cell1 {P : Program} {w : World} {g : Nat} {t : TypeId} {fn : Func} {x : Tmp} {ty : TypeId} (hf : fn.results = #[.cell x ty]) {tmps : Array Value} {cs : Array Value} {d : TypeDesc}
    (ha : tmps.getD x undef = .pointer (some ⟨g, 0, none⟩)) (hb : Blk w g t cs) (hu : P.underlying ty = some d) (hd : (match d with | .struct _ | .array _ _ => true | _ => false) = true) (hi : (P.info? ty).map (·.size) = some cs.size) :
    (results fn tmps).run P w = .ok (.agg cs) w := by
  rw [Array.getD_eq_getD_getElem?] at ha
  simp [results, hf, asAddr, ha, run_loadVar_row w g t ty cs (0, 0) d hb hu hd hi]
theorem Ast.end_ {l0 : List UInt8} {u w : World} {g o np cp ns cs : Nat} {l : List UInt8} {p s : List P3} {AP AS : Option Addr} (h : Ast u w g o l p s AP np cp AS ns cs) : AllEnd u g l0 (some (p, s)) (.returned (.agg #[.slice AP np cp, .slice AS ns cs])) w := by
  have hp := h.op
  have hs := h.os
  obtain rfl := h.lp
  obtain rfl := h.ls
  exact ⟨h.chg, AP, cp, AS, cs, rfl, own_mono hp fun b hb => by have := (hp.lt b hb).1; omega, own_mono hs fun b hb => by have := (hs.lt b hb).1; omega⟩
set_option maxRecDepth 100000 in
set_option maxHeartbeats 8000000 in
theorem all_any {g : Nat} (l : List UInt8) (u : World) (hr : Rdr u g u.heap.size l) (hg : g < u.heap.size) (hl : l.length ≤ 1048576) :
    Calls Tryz.prog 94 #[.pointer (some ⟨g, 0, none⟩)] u (AllEnd u g l (rdA l)) := by
  have HI := hide (fun w' l' (h' : Rdr w' g u.heap.size l') (hl' : l'.length ≤ 1048576) => rint_any l' w' h' hl')
  have HY := hide (fun w' l' (h' : Rdr w' g u.heap.size l') (hl' : l'.length ≤ 1048576) => many_any l' w' h' hl')
  have hs0 : Same u (u.alloc (.cells #[.slice none 0 0, .slice none 0 0] 113)) := (Chg.refl _ u).alloc _
  have hA0 : Ast u (u.alloc (.cells #[.slice none 0 0, .slice none 0 0] 113)) g u.heap.size l [] [] none 0 0 none 0 0 := ⟨hr.same hs0, Blk.new _ _ _, World.ownsRow_nil _ _ _ _, World.ownsRow_nil _ _ _ _, rfl, rfl, rfl, hg, hs0.to⟩
  have HA0 := hide hA0
  have Hll := hide hl
  clear hs0 hA0 hl hr
  have hgu := hg
  cases hm : rdM l with
  | none =>
    have HV : Hid (∀ w', AllV u l (rdA l) (.panicked (fault (whM l) 8)) w') := hide fun w' => by
      rw [show rdA l = none by unfold rdA; rw [hm]; rfl]
      show _ = Ending.panicked (fault (whA l) 8)
      unfold whA
      rw [hm]
    have hF := HY.out _ _ HA0.out.rdr Hll.out
    rw [hm] at hF
    have HF := hide hF
    clear hF hm
    go_enter Tryz.func94, Tryz.ntmps94
    go_wp2_with (first
      | (go_at_call 149; (with_reducible refine HF.out.mono ?_); rintro e w1 ⟨hc, h1⟩; have h2 : e = .panicked (fault (whM l) 8) := h1; subst h2; have HC := hide hc; clear hc h1)
      | fail)
    exact ⟨rfl, HA0.out.chg.trans HC.out fun _ _ e => e, HV.out _⟩
  | some q =>
    obtain ⟨m, l1⟩ := q
    have hm3 := rdM_len hm
    simp only at hm3
    obtain ⟨N, hN⟩ : ∃ N : Nat, m = (N : Int) := ⟨m.toNat, by omega⟩
    subst hN
    have HBAD1 : Hid (∀ w', rdT ptF N 0 l1 = none → AllV u l (rdA l) (.panicked (fault 0 8)) w') := hide fun w' h => by
      rw [rdA_n1 hm (by rw [Int.toNat_natCast]; exact h)]
      show _ = Ending.panicked (fault (whA l) 8)
      unfold whA
      rw [hm]
      simp only [Int.toNat_natCast, h]
    have hF := HY.out _ _ HA0.out.rdr Hll.out
    rw [hm] at hF
    have HF := hide hF
    have HMq := hide hm
    have hN6 : N ≤ 349526 := by have := Hll.out; omega
    have Hl1' : Hid (l1.length ≤ 1048576) := hide (by have := Hll.out; omega)
    clear hF hm hm3
    go_enter Tryz.func94, Tryz.ntmps94
    go_wp2_with (first
      | (go_at_call 149; (with_reducible refine HF.out.mono ?_); rintro e w1 ⟨hc, h1⟩; obtain ⟨rfl, h2⟩ := h1; have HA1 := hide (HA0.out.move hc h2); clear hc h2)
      | fail)
    obtain ⟨o, ho⟩ : ∃ o, u.heap.size = o := ⟨_, rfl⟩
    have HOu := hide ho
    have HA2 : Hid (Ast u w1 g o l1 [] [] none 0 0 none 0 0) := hide (by rw [← ho]; exact HA1.out)
    rw [ho]
    clear HA0 HA1 HF ho
    go_loopg [3, 8] N (fun kk v3 v8 wr => ∃ (i : Nat) (li : List UInt8) (last : Int) (p : List P3) (AP : Option Addr) (cp : Nat), i ≤ N ∧ kk = N - i ∧ v3 = .int .i64 last ∧ v8 = .int .i64 i ∧ Ast u wr g o li p [] AP i cp none 0 0 ∧ RdMore ptF N l1 i p last li ∧ li.length ≤ 1048576 ∧ (-(2199023255552 * (i : Int)) ≤ last ∧ last ≤ 2199023255552 * (i : Int)))
    case atStart => exact ⟨0, l1, 0, [], none, 0, Nat.zero_le _, rfl, rfl, rfl, HA2.out, RdMore.zero _ _ _, Hl1'.out, by omega⟩
    case round =>
      obtain ⟨i, li, last, p, AP, cp, hi, hkk, rfl, rfl, hA, hM, hll, hlast⟩ := hrel
      have Hk := hide hkk
      have HA := hide hA
      have HM := hide hM
      have Hl0 := hide hll
      have hlo : -(2199023255552 * (i : Int)) ≤ last ∧ last ≤ 2199023255552 * (i : Int) := hlast
      clear hkk hM hlast
      by_cases hlt : i < N
      · have HR0 := hide hA.rdr
        have hkb := hA.blk.cell
        have hob := hA.blk.lt
        have hwi : IntKind.i64.wrap ((i : Int) + 1) = (i : Int) + 1 := IntWalk.i64_in _ (by omega)
        have hil : (i : Int) < (N : Int) := by omega
        clear hA
        cases hq1 : rdI li with
        | none =>
          have Hq1 := hide hq1
          have Hbad := hide (HM.out.fail hlt (rd3_n1 hq1))
          clear hq1
          go_wp2_with (first
            | (go_at_call 150; have hF := HI.out _ _ HR0.out Hl0.out; rw [Hq1.out] at hF; (with_reducible refine hF.mono ?_); rintro e w1 ⟨hc, h1⟩; have h2 : e = .panicked (fault 0 8) := h1; subst h2; have HC1 := hide hc; clear hc h1 hF)
            | fail)
          exact ⟨rfl, (HA.out.chg.trans HC1.out fun _ _ e => e), HBAD1.out _ Hbad.out⟩
        | some a =>
          obtain ⟨x1, l1'⟩ := a
          have Hq1 := hide hq1
          have Hl1 : Hid (l1'.length ≤ 1048576) := hide (by have h9 : l1'.length + 1 ≤ li.length := (rdI_len hq1).1; have := Hl0.out; omega)
          cases hq2 : rdI l1' with
          | none =>
            have Hq2 := hide hq2
            have Hbad := hide (HM.out.fail hlt (rd3_n2 hq1 hq2))
            have hx1 := (rdI_len hq1).2
            simp only at hx1
            have hwl : IntKind.i64.wrap (last + x1) = last + x1 := IntWalk.i64_in _ (by omega)
            clear hq1 hq2
            go_wp2_with (first
              | (go_at_call 150; have hF := HI.out _ _ HR0.out Hl0.out; rw [Hq1.out] at hF; (with_reducible refine hF.mono ?_); rintro e w1 ⟨hc, h1⟩; obtain ⟨rfl, h2⟩ := h1; have HR1 := hide h2; have HC1 := hide hc; clear hc h2 hF)
              | (go_at_call 150; have hF := HI.out _ _ HR1.out Hl1.out; rw [Hq2.out] at hF; (with_reducible refine hF.mono ?_); rintro e w2 ⟨hc, h1⟩; have h2 : e = .panicked (fault 0 8) := h1; subst h2; have HC2 := hide (HC1.out.trans hc fun _ _ e => e); clear hc h1 hF)
              | fail)
            exact ⟨rfl, (HA.out.chg.trans HC2.out fun _ _ e => e), HBAD1.out _ Hbad.out⟩
          | some b =>
            obtain ⟨x2, l2'⟩ := b
            have Hq2 := hide hq2
            have Hl2 : Hid (l2'.length ≤ 1048576) := hide (by have h9 : l2'.length + 1 ≤ l1'.length := (rdI_len hq2).1; have := Hl1.out; omega)
            cases hq3 : rdI l2' with
            | none =>
              have Hq3 := hide hq3
              have Hbad := hide (HM.out.fail hlt (rd3_n3 hq1 hq2 hq3))
              have hx1 := (rdI_len hq1).2
              simp only at hx1
              have hwl : IntKind.i64.wrap (last + x1) = last + x1 := IntWalk.i64_in _ (by omega)
              clear hq1 hq2 hq3
              go_wp2_with (first
                | (go_at_call 150; have hF := HI.out _ _ HR0.out Hl0.out; rw [Hq1.out] at hF; (with_reducible refine hF.mono ?_); rintro e w1 ⟨hc, h1⟩; obtain ⟨rfl, h2⟩ := h1; have HR1 := hide h2; have HC1 := hide hc; clear hc h2 hF)
                | (go_at_call 150; have hF := HI.out _ _ HR1.out Hl1.out; rw [Hq2.out] at hF; (with_reducible refine hF.mono ?_); rintro e w2 ⟨hc, h1⟩; obtain ⟨rfl, h2⟩ := h1; have HR2 := hide h2; have HC2 := hide (HC1.out.trans hc fun _ _ e => e); clear hc h2 hF)
                | (go_at_call 150; have hF := HI.out _ _ HR2.out Hl2.out; rw [Hq3.out] at hF; (with_reducible refine hF.mono ?_); rintro e w3 ⟨hc, h1⟩; have h2 : e = .panicked (fault 0 8) := h1; subst h2; have HC3 := hide (HC2.out.trans hc fun _ _ e => e); clear hc h1 hF)
                | fail)
              exact ⟨rfl, (HA.out.chg.trans HC3.out fun _ _ e => e), HBAD1.out _ Hbad.out⟩
            | some c =>
              obtain ⟨x3, l3'⟩ := c
              have Hq3 := hide hq3
              have Hl3 : Hid (l3'.length ≤ 1048576) := hide (by have h9 : l3'.length + 1 ≤ l2'.length := (rdI_len hq3).1; have := Hl2.out; omega)
              have Hnx := hide (HM.out.next hlt (rd3_s hq1 hq2 hq3))
              have hx1 := (rdI_len hq1).2
              have hx2 := (rdI_len hq2).2
              have hx3 := (rdI_len hq3).2
              simp only at hx1 hx2 hx3
              have hwl : IntKind.i64.wrap (last + x1) = last + x1 := IntWalk.i64_in _ (by omega)
              have hw3 : IntKind.i64.wrap (x2 + x3) = x2 + x3 := IntWalk.i64_in _ (by omega)
              have Hlast := hide (show -(2199023255552 * ((i + 1 : Nat) : Int)) ≤ last + x1 ∧ last + x1 ≤ 2199023255552 * ((i + 1 : Nat) : Int) by omega)
              clear hq1 hq2 hq3
              go_wp2_with (first
                | (go_at_call 150; have hF := HI.out _ _ HR0.out Hl0.out; rw [Hq1.out] at hF; (with_reducible refine hF.mono ?_); rintro e w1 ⟨hc, h1⟩; obtain ⟨rfl, h2⟩ := h1; have HR1 := hide h2; have HC1 := hide hc; clear hc h2 hF)
                | (go_at_call 150; have hF := HI.out _ _ HR1.out Hl1.out; rw [Hq2.out] at hF; (with_reducible refine hF.mono ?_); rintro e w2 ⟨hc, h1⟩; obtain ⟨rfl, h2⟩ := h1; have HR2 := hide h2; have HC2 := hide (HC1.out.trans hc fun _ _ e => e); clear hc h2 hF)
                | (go_at_call 150; have hF := HI.out _ _ HR2.out Hl2.out; rw [Hq3.out] at hF; (with_reducible refine hF.mono ?_); rintro e w3 ⟨hc, h1⟩; obtain ⟨rfl, h2⟩ := h1; have hA3 := HA.out.move (HC2.out.trans hc fun _ _ e => e) h2; have HX := hide ((hA3.same ((Chg.refl _ w3).alloc (.cells #[.int .i64 (last + x1), .int .i64 x2, .int .i64 x3] 23))).same ((Chg.refl _ _).alloc (.cells #[.int .i64 (last + x1), .int .i64 x2, .int .i64 x3] 23))); have hko := hA3.blk.cell; have hol := hA3.blk.lt; clear hc h2 hF hA3)
                | (at_builtin; refine wpList_appS (by rfl) (.tmp 22) (.tmp 24) _ (by rfl) slP (by rfl) (base := u.heap.size + 1) (by exact HX.out.op) (by rfl) (show ([.int .i64 (last + x1), .int .i64 x2, .int .i64 x3] : List Value).length = 1 * 3 from rfl) (by have h9 := rd_new3 (w3.alloc (.cells #[.int .i64 (last + x1), .int .i64 x2, .int .i64 x3] 23)) (.int .i64 (last + x1)) (.int .i64 x2) (.int .i64 x3) 23; simp only [World.size_alloc] at h9; exact h9) (by intro z hz; simp at hz; rcases hz with rfl | rfl | rfl <;> rfl) (by omega) (by omega) (by have := HX.out.chg.size; have := HX.out.blk.lt; have := HX.out.og; omega) ?_; intro A5 c5 w5 hown hc hb; have HP := hide (HX.out.pushP (q := (last + x1, x2, x3)) hc hown); have hb5 := HX.out.blk.chg hc (fun e => by have := (HX.out.op.lt o (by rw [ownBlock_slice]; exact e)).1; have := HX.out.og; omega); have hkb5 := hb5.cell; have hkf5 := hb5.frozen; clear hown hc hb hb5)
                | fail)
              go_roundg (N - (i + 1))
              case measure => have := Hk.out; omega
              case rel => exact ⟨i + 1, l3', last + x1, p ++ [(last + x1, x2, x3)], A5, c5, by omega, rfl, rfl, by first | rfl | go_num, HP.out, Hnx.out, Hl3.out, Hlast.out⟩
      · have hin : i = N := by omega
        have hdone := HM.out.done hin
        have hml := Hl0.out
        cases hm2 : rdM li with
        | none =>
          have HV : Hid (∀ w', AllV u l (rdA l) (.panicked (fault (whM li) 8)) w') := hide fun w' => by
            rw [rdA_n2 HMq.out (by rw [Int.toNat_natCast]; exact hdone) hm2]
            show _ = Ending.panicked (fault (whA l) 8)
            unfold whA
            rw [HMq.out]
            simp only [Int.toNat_natCast, hdone, hm2]
          have hF := HY.out _ _ HA.out.rdr Hl0.out
          rw [hm2] at hF
          have HF := hide hF
          have hnil : ¬ (i : Int) < (N : Int) := by omega
          clear hF hm2 hdone
          go_wp2_with (first
            | (go_at_call 149; (with_reducible refine HF.out.mono ?_); rintro e w2 ⟨hc, h1⟩; have h2 : e = .panicked (fault (whM li) 8) := h1; subst h2; have HC := hide hc; clear hc h1)
            | fail)
          exact ⟨rfl, HA.out.chg.trans HC.out fun _ _ e => e, HV.out _⟩
        | some q =>
          obtain ⟨m2, l2⟩ := q
          have hm3 := rdM_len hm2
          simp only at hm3
          obtain ⟨M, hM⟩ : ∃ M : Nat, m2 = (M : Int) := ⟨m2.toNat, by omega⟩
          subst hM
          have HBAD2 : Hid (∀ w', rdT spF M 0 l2 = none → AllV u l (rdA l) (.panicked (fault 0 8)) w') := hide fun w' h => by
            rw [rdA_n3 HMq.out (by rw [Int.toNat_natCast]; exact hdone) hm2 (by rw [Int.toNat_natCast]; exact h)]
            show _ = Ending.panicked (fault (whA l) 8)
            unfold whA
            rw [HMq.out]
            simp only [Int.toNat_natCast, hdone, hm2]
          have HOK : Hid (∀ s l4, rdT spF M 0 l2 = some (s, l4) → rdA l = some (p, s)) := hide fun s l4 h => rdA_s HMq.out (by rw [Int.toNat_natCast]; exact hdone) hm2 (by rw [Int.toNat_natCast]; exact h)
          have hF := HY.out _ _ HA.out.rdr Hl0.out
          rw [hm2] at hF
          have HF := hide hF
          have hM6 : M ≤ 349526 := by omega
          have Hl2' : Hid (l2.length ≤ 1048576) := hide (by omega)
          have hnil : ¬ (i : Int) < (N : Int) := by omega
          clear hF hm2 hm3 hdone hin hlt
          go_wp2_with (first
            | (go_at_call 149; (with_reducible refine HF.out.mono ?_); rintro e w2 ⟨hc, h1⟩; obtain ⟨rfl, h2⟩ := h1; have HA3 := hide (HA.out.move hc h2); clear hc h2)
            | fail)
          clear HA HF hnil
          go_loopg [3, 30] M (fun kk v3 v8 wr => ∃ (j : Nat) (lj : List UInt8) (last : Int) (s : List P3) (AS : Option Addr) (cs : Nat), j ≤ M ∧ kk = M - j ∧ v3 = .int .i64 last ∧ v8 = .int .i64 j ∧ Ast u wr g o lj p s AP i cp AS j cs ∧ RdMore spF M l2 j s last lj ∧ lj.length ≤ 1048576 ∧ (-(2199023255552 * (j : Int)) ≤ last ∧ last ≤ 2199023255552 * (j : Int)))
          case atStart => exact ⟨0, l2, 0, [], none, 0, Nat.zero_le _, rfl, rfl, rfl, HA3.out, RdMore.zero _ _ _, Hl2'.out, by omega⟩
          case round =>
            obtain ⟨np0, hnp0⟩ : ∃ n, n = i := ⟨_, rfl⟩
            subst hnp0
            obtain ⟨i, li, last, s, AS, cs, hi, hkk, rfl, rfl, hA, hM, hll, hlast⟩ := hrel
            have Hk := hide hkk
            have HA := hide hA
            have HM := hide hM
            have Hl0 := hide hll
            have hlo : -(2199023255552 * (i : Int)) ≤ last ∧ last ≤ 2199023255552 * (i : Int) := hlast
            clear hkk hM hlast
            by_cases hlt : i < M
            · have HR0 := hide hA.rdr
              have hkb := hA.blk.cell
              have hob := hA.blk.lt
              have hwi : IntKind.i64.wrap ((i : Int) + 1) = (i : Int) + 1 := IntWalk.i64_in _ (by omega)
              have hil : (i : Int) < (M : Int) := by omega
              clear hA
              cases hq1 : rdI li with
              | none =>
                have Hq1 := hide hq1
                have Hbad := hide (HM.out.fail hlt (rd3_n1 hq1))
                clear hq1
                go_wp2_with (first
                  | (go_at_call 150; have hF := HI.out _ _ HR0.out Hl0.out; rw [Hq1.out] at hF; (with_reducible refine hF.mono ?_); rintro e w1 ⟨hc, h1⟩; have h2 : e = .panicked (fault 0 8) := h1; subst h2; have HC1 := hide hc; clear hc h1 hF)
                  | fail)
                exact ⟨rfl, (HA.out.chg.trans HC1.out fun _ _ e => e), HBAD2.out _ Hbad.out⟩
              | some a =>
                obtain ⟨x1, l1'⟩ := a
                have Hq1 := hide hq1
                have Hl1 : Hid (l1'.length ≤ 1048576) := hide (by have h9 : l1'.length + 1 ≤ li.length := (rdI_len hq1).1; have := Hl0.out; omega)
                cases hq2 : rdI l1' with
                | none =>
                  have Hq2 := hide hq2
                  have Hbad := hide (HM.out.fail hlt (rd3_n2 hq1 hq2))
                  have hx1 := (rdI_len hq1).2
                  simp only at hx1
                  have hwl : IntKind.i64.wrap (last + x1) = last + x1 := IntWalk.i64_in _ (by omega)
                  clear hq1 hq2
                  go_wp2_with (first
                    | (go_at_call 150; have hF := HI.out _ _ HR0.out Hl0.out; rw [Hq1.out] at hF; (with_reducible refine hF.mono ?_); rintro e w1 ⟨hc, h1⟩; obtain ⟨rfl, h2⟩ := h1; have HR1 := hide h2; have HC1 := hide hc; clear hc h2 hF)
                    | (go_at_call 150; have hF := HI.out _ _ HR1.out Hl1.out; rw [Hq2.out] at hF; (with_reducible refine hF.mono ?_); rintro e w2 ⟨hc, h1⟩; have h2 : e = .panicked (fault 0 8) := h1; subst h2; have HC2 := hide (HC1.out.trans hc fun _ _ e => e); clear hc h1 hF)
                    | fail)
                  exact ⟨rfl, (HA.out.chg.trans HC2.out fun _ _ e => e), HBAD2.out _ Hbad.out⟩
                | some b =>
                  obtain ⟨x2, l2'⟩ := b
                  have Hq2 := hide hq2
                  have Hl2 : Hid (l2'.length ≤ 1048576) := hide (by have h9 : l2'.length + 1 ≤ l1'.length := (rdI_len hq2).1; have := Hl1.out; omega)
                  cases hq3 : rdI l2' with
                  | none =>
                    have Hq3 := hide hq3
                    have Hbad := hide (HM.out.fail hlt (rd3_n3 hq1 hq2 hq3))
                    have hx1 := (rdI_len hq1).2
                    simp only at hx1
                    have hwl : IntKind.i64.wrap (last + x1) = last + x1 := IntWalk.i64_in _ (by omega)
                    clear hq1 hq2 hq3
                    go_wp2_with (first
                      | (go_at_call 150; have hF := HI.out _ _ HR0.out Hl0.out; rw [Hq1.out] at hF; (with_reducible refine hF.mono ?_); rintro e w1 ⟨hc, h1⟩; obtain ⟨rfl, h2⟩ := h1; have HR1 := hide h2; have HC1 := hide hc; clear hc h2 hF)
                      | (go_at_call 150; have hF := HI.out _ _ HR1.out Hl1.out; rw [Hq2.out] at hF; (with_reducible refine hF.mono ?_); rintro e w2 ⟨hc, h1⟩; obtain ⟨rfl, h2⟩ := h1; have HR2 := hide h2; have HC2 := hide (HC1.out.trans hc fun _ _ e => e); clear hc h2 hF)
                      | fail)
                    have Hcp := hide (Blk.new w2 25 #[.int .i64 (last + x1), .int .i64 x2, .int .i64 0])
                    have Hng : Hid (¬ w2.heap.size = g) := hide (by have := HR2.out.lt; omega)
                    have HR3 := hide (HR2.out.same ((Chg.refl _ w2).alloc (.cells #[.int .i64 (last + x1), .int .i64 x2, .int .i64 0] 25)))
                    have HC3 := hide (HC2.out.alloc (.cells #[.int .i64 (last + x1), .int .i64 x2, .int .i64 0] 25))
                    generalize hww : w2.alloc (.cells #[.int .i64 (last + x1), .int .i64 x2, .int .i64 0] 25) = wa at *
                    clear hww
                    have hcp := Hcp.out.cell
                    have HY3 : Hid (∀ w', Same wa w' → Calls Tryz.prog 150 #[.pointer (some ⟨g, 0, none⟩)] w' fun e w'' => e = .panicked (fault 0 8) ∧ Chg (fun k => k = g) wr w'') := hide fun w' hs => by
                      have hF := HI.out _ _ (HR3.out.same hs) Hl2.out
                      rw [Hq3.out] at hF
                      exact hF.mono fun e w'' h => ⟨h.2, (HC3.out.same hs).trans h.1 fun _ _ e => e⟩
                    go_region_dies
                    all_goals
                      refine (HY3.out _ (by first | exact (Chg.refl _ _).drew | exact Chg.refl _ _ | exact Same.of_drewN _ _)).mono ?_
                      rintro e w4 ⟨rfl, hc⟩
                      exact ⟨rfl, HA.out.chg.trans hc fun _ _ e => e, HBAD2.out _ Hbad.out⟩
                  | some c =>
                    obtain ⟨x3, l3'⟩ := c
                    have Hq3 := hide hq3
                    have Hl3 : Hid (l3'.length ≤ 1048576) := hide (by have h9 : l3'.length + 1 ≤ l2'.length := (rdI_len hq3).1; have := Hl2.out; omega)
                    have Hnx := hide (HM.out.next hlt (rd3_s hq1 hq2 hq3))
                    have hx1 := (rdI_len hq1).2
                    have hx2 := (rdI_len hq2).2
                    have hx3 := (rdI_len hq3).2
                    simp only at hx1 hx2 hx3
                    have hwl : IntKind.i64.wrap (last + x1) = last + x1 := IntWalk.i64_in _ (by omega)
                    have hw3 : IntKind.i64.wrap (x2 + x3) = x2 + x3 := IntWalk.i64_in _ (by omega)
                    have Hlast := hide (show -(2199023255552 * ((i + 1 : Nat) : Int)) ≤ last + x1 ∧ last + x1 ≤ 2199023255552 * ((i + 1 : Nat) : Int) by omega)
                    clear hq1 hq2 hq3
                    go_wp2_with (first
                      | (go_at_call 150; have hF := HI.out _ _ HR0.out Hl0.out; rw [Hq1.out] at hF; (with_reducible refine hF.mono ?_); rintro e w1 ⟨hc, h1⟩; obtain ⟨rfl, h2⟩ := h1; have HR1 := hide h2; have HC1 := hide hc; clear hc h2 hF)
                      | (go_at_call 150; have hF := HI.out _ _ HR1.out Hl1.out; rw [Hq2.out] at hF; (with_reducible refine hF.mono ?_); rintro e w2 ⟨hc, h1⟩; obtain ⟨rfl, h2⟩ := h1; have HR2 := hide h2; have HC2 := hide (HC1.out.trans hc fun _ _ e => e); clear hc h2 hF)
                      | fail)
                    have Hcp := hide (Blk.new w2 25 #[.int .i64 (last + x1), .int .i64 x2, .int .i64 0])
                    have Hng : Hid (¬ w2.heap.size = g) := hide (by have := HR2.out.lt; omega)
                    have HR3 := hide (HR2.out.same ((Chg.refl _ w2).alloc (.cells #[.int .i64 (last + x1), .int .i64 x2, .int .i64 0] 25)))
                    have HC3 := hide (HC2.out.alloc (.cells #[.int .i64 (last + x1), .int .i64 x2, .int .i64 0] 25))
                    generalize hww : w2.alloc (.cells #[.int .i64 (last + x1), .int .i64 x2, .int .i64 0] 25) = wa at *
                    clear hww
                    refine My.wp_region_mixF (RelQ 3 (fun k => k = g)) (EffQ 3 (fun k => k = g)) 6 (fun k i a b hik he => RelQ.of hik he) (fun k w => Chg.refl _ w) (fun k a b c h1 h2 => RelQ.trans h1 h2) (fun k => RelQ.drew _) (by kernel_rfl) (by kernel_rfl) fun Fin hFin => ?_
                    simp only [List.take_succ_cons, List.take_zero]
                    refine My.mix_lit ?_ ?_ (fun w => Chg.refl _ w) ?_ ?_ ?_ ?_
                    rotate_left; rotate_left
                    · intro e w1 hR hF K hK; (have hcp := (Hcp.out.chg hR (fun h => Hng.out h.2)).cell); go_simp; (refine hK _ _ (Chg.refl _ _) ?_; rfl)
                    · intro e; simp only [Act.put, List.setIfInBounds_toArray, List.set_cons_zero, List.set_cons_succ]; rfl
                    · exact Loc.const _ _
                    refine My.mix_lit ?_ ?_ (fun w => Chg.refl _ w) ?_ ?_ ?_ ?_
                    rotate_left; rotate_left
                    · intro e w1 hR hF K hK; (have hcp := (Hcp.out.chg hR (fun h => Hng.out h.2)).cell); go_simp; (refine hK _ _ (Chg.refl _ _) ?_; rfl)
                    · intro e; simp only [Act.put, List.setIfInBounds_toArray, List.set_cons_zero, List.set_cons_succ]; rfl
                    · exact Loc.const _ _
                    refine My.mix_lit ?_ ?_ (fun w => Chg.refl _ w) ?_ ?_ ?_ ?_
                    rotate_left; rotate_left
                    · intro e w1 hR hF K hK; (have hcp := (Hcp.out.chg hR (fun h => Hng.out h.2)).cell); go_simp; (refine hK _ _ (Chg.refl _ _) ?_; rfl)
                    · intro e; simp only [Act.put, List.setIfInBounds_toArray, List.set_cons_zero, List.set_cons_succ]; rfl
                    · exact Loc.const _ _
                    refine My.mix_let (fun _ v w' => v = .int .i64 x3 ∧ Rdr w' g u.heap.size l3') ?_ (by exact Loc.const _ _) ?_ ?_ ?_ ?_ ?_
                    rotate_left
                    · rintro i' hi' _ e u' w1' w2' hs' ⟨rfl, h1⟩; exact ⟨rfl, h1.chg hs' fun k hk => (hi' hk.1).elim⟩
                    · intro e; rfl
                    · intro e w1' hR hF K hK
                      go_simp
                      go_at_call 150
                      have hF' := HI.out _ _ (HR3.out.chg hR (fun k hk => (hk.1 rfl).elim)) Hl2.out
                      rw [Hq3.out] at hF'
                      (with_reducible refine hF'.mono ?_)
                      rintro _ w4 ⟨hc, h1⟩
                      obtain ⟨rfl, h2⟩ := h1
                      exact hK _ _ _ (hc.mono fun _ _ h => ⟨rfl, h⟩) ⟨rfl, h2⟩ (by simp only [Act.put, List.setIfInBounds_toArray, List.set_cons_zero, List.set_cons_succ])
                    · intro e; simp only [Act.put, List.setIfInBounds_toArray, List.set_cons_zero, List.set_cons_succ]; rfl
                    refine My.mix_lit (fun _ => .int .i64 (x2 + x3)) ?_ (Chg.refl _) ?_ ?_ ?_ ?_
                    rotate_left 2
                    · intro e; simp only [Act.put, List.setIfInBounds_toArray, List.set_cons_zero, List.set_cons_succ]; rfl
                    · exact Loc.const _ _
                    rotate_left
                    · intro e w1 hR hF K hK
                      have h3 : e (0 + 1 + 1 + 1) = Value.int .i64 x3 := (show e 3 = .int .i64 x3 ∧ Rdr w1 g u.heap.size l3' from hF 3 (by kernel_rfl)).1
                      rw [h3] at hK ⊢
                      go_simp
                      exact hK _ _ (Chg.refl _ _) rfl
                    refine My.mix_lit ?_ ?_ (fun w => Chg.refl _ w) ?_ ?_ ?_ ?_
                    rotate_left; rotate_left
                    · intro e w1 hR hF K hK; (skip); go_simp; (refine hK _ _ (Chg.refl _ _) ?_; rfl)
                    · intro e; simp only [Act.put, List.setIfInBounds_toArray, List.set_cons_zero, List.set_cons_succ]; rfl
                    · exact Loc.const _ _
                    refine My.mix_nil fun e wq hR hF => hFin _ _ ?_
                    simp only [List.drop_succ_cons, List.drop_zero]
                    obtain ⟨h3, hr3⟩ := (show e (0 + 1 + 1 + 1) = .int .i64 x3 ∧ Rdr wq g u.heap.size l3' from hF 3 (by decide))
                    rw [h3]
                    have hcS : Chg (fun k => k = g) wa wq := hR.mono fun _ _ h => h.2
                    have hcq := Hcp.out.chg hcS Hng.out
                    have hkq := hcq.cell
                    have hfq := hcq.frozen
                    have hAq := HA.out.move (HC3.out.trans hcS fun _ _ e => e) hr3
                    have hko := hAq.blk.cell
                    have hno : ¬ o = w2.heap.size := by have := HA.out.blk.lt; have := HC2.out.size; omega
                    have hno' : ¬ w2.heap.size = o := fun e => hno e.symm
                    have hz2 := HC2.out.size
                    have HX := hide ((hAq.far (a := ⟨w2.heap.size, 2, none⟩) (.int .i64 (x2 + x3)) (by show u.heap.size ≤ w2.heap.size; have := HA.out.chg.size; omega) (by show ¬ w2.heap.size = o; have := HA.out.blk.lt; omega) (fun e => by have := (HA.out.op.lt _ (by rw [ownBlock_slice]; exact e)).2; have e9 : (⟨w2.heap.size, 2, none⟩ : Addr).block = w2.heap.size := rfl; omega) (fun e => by have := (HA.out.os.lt _ (by rw [ownBlock_slice]; exact e)).2; have e9 : (⟨w2.heap.size, 2, none⟩ : Addr).block = w2.heap.size := rfl; omega)).same ((Chg.refl _ _).alloc (.cells #[.int .i64 (last + x1), .int .i64 x2, .int .i64 (x2 + x3)] 25)))
                    clear hF hFin hR h3 hr3 hcS hcq hAq
                    go_wp2_with (first
                      | (at_builtin; refine wpList_appS (by rfl) (.tmp 48) (.tmp 50) _ (by rfl) slS (by rfl) (base := u.heap.size + 1) (by exact HX.out.os) (by rfl) (show ([.int .i64 (last + x1), .int .i64 x2, .int .i64 (x2 + x3)] : List Value).length = 1 * 3 from rfl) (by have h9 := rd_new3 (wq.setCell ⟨w2.heap.size, 2, none⟩ (.int .i64 (x2 + x3))) (.int .i64 (last + x1)) (.int .i64 x2) (.int .i64 (x2 + x3)) 25; simpa using h9) (by intro z hz; simp at hz; rcases hz with rfl | rfl | rfl <;> rfl) (by omega) (by omega) (by have := HX.out.chg.size; have := HX.out.blk.lt; have := HX.out.og; omega) ?_; intro A5 c5 w5 hown hc hb; have HP := hide (HX.out.pushS (q := (last + x1, x2, x2 + x3)) hc hown); have hb5 := HX.out.blk.chg hc (fun e => by have := (HX.out.os.lt o (by rw [ownBlock_slice]; exact e)).1; have := HX.out.og; omega); have hkb5 := hb5.cell; have hkf5 := hb5.frozen; clear hown hc hb hb5)
                      | fail)
                    go_roundg (M - (i + 1))
                    case measure => have := Hk.out; omega
                    case rel => exact ⟨i + 1, l3', last + x1, s ++ [(last + x1, x2, x2 + x3)], A5, c5, by omega, rfl, rfl, by first | rfl | go_num, HP.out, Hnx.out, Hl3.out, Hlast.out⟩
            · have hin : i = M := by omega
              have hdone := HM.out.done hin
              have HE := hide (AllV.two HA.out l (.slice AP np0 cp) (.slice AS i cs))
              rw [← HOK.out _ _ hdone] at HE
              have hkb := HA.out.blk.cell
              have hfb := HA.out.blk.frozen
              have HB2 : Hid (Blk ((wr.setCell ⟨o, 0, none⟩ (.slice AP np0 cp)).setCell ⟨o, 1, none⟩ (.slice AS i cs)) o 113 #[.slice AP np0 cp, .slice AS i cs]) := hide (by have := (HA.out.blk.set_ 0 (.slice AP np0 cp)).set_ 1 (.slice AS i cs); simpa using this)
              have hil : ¬ (i : Int) < (M : Int) := by omega
              subst hin
              clear hdone HA HM
              go_wp2_with fail
              refine bodyPost_ret (results_cell1 rfl rfl HB2.out Tryz.underlying113 rfl (by kernel_rfl)) rfl ?_
              exact HE.out
end Go.Proofs.YtopkdiiigidfdaaGreat
