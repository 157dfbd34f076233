/-
  A region that draws its order, some of whose operations store rows into blocks that the region itself has laid, each store into blocks of a type of its own: Mx's law at such worlds. No conditions.
  The document's Only at requests. No conditions.
  The document's Only at good acts. No conditions.
-/
import Derived.Test.YtlodanjpkjfjiaaGreatDoorCdD
import Derived.Test.YtlodanjpkjfjiaaGreatDoorCdG
import Derived.Test.YtlodanjpkjfjiaaGreatDoorOnE
/-! Mt -/
namespace Go.Proofs.YtlodanjpkjfjiaaGreatDoor
open Go.RowKit Go.Al
set_option linter.unusedVariables false

/-- every block stays there, of its type and size -/
def KeepB (w w' : World) : Prop := ∀ b t (cs : Array Value), Blk w b t cs → ∃ cs' : Array Value, cs'.size = cs.size ∧ Blk w' b t cs'
/-- at most new blocks of one type have changed -/
structure RkT (w0 : World) (ot : Option TypeId) (w w' : World) : Prop where
  chg : Chg (fun b => w0.heap.size ≤ b ∧ ∃ t, ot = some t ∧ ty w b = some t) w w'
  keep : KeepB w w'
def RT (w0 w w' : World) : Prop := Chg (fun b => w0.heap.size ≤ b) w w'
theorem RkT.of_same {w0 w w' : World} {ot : Option TypeId} (h : Same w w') : RkT w0 ot w w' := ⟨Same.to h, fun b t cs hb => ⟨cs, rfl, hb.same h⟩⟩
theorem RkT.rt {w0 w w' : World} {ot : Option TypeId} (h : RkT w0 ot w w') : RT w0 w w' := h.chg.mono fun k _ hk => hk.1
theorem RT.same {w0 w : World} (h : RT w0 w0 w) : Same w0 w := Chg.fresh h fun _ h => h
/-- a block that the region has laid -/
def NewB (w0 : World) (t : TypeId) (n : Nat) (u : Value) (w : World) : Prop := ∃ b, u = .pointer (some ⟨b, 0, none⟩) ∧ w0.heap.size ≤ b ∧ ∃ cs : Array Value, cs.size = n ∧ Blk w b t cs
theorem NewB.keep {w0 w w' : World} {t : TypeId} {n : Nat} {u : Value} (h : NewB w0 t n u w) (hk : KeepB w w') : NewB w0 t n u w' := by
  obtain ⟨b, h1, h2, cs, h3, h4⟩ := h
  obtain ⟨cs', h5, h6⟩ := hk b t cs h4
  exact ⟨b, h1, h2, cs', h5.trans h3, h6⟩
theorem NewB.new {w0 w : World} (t : TypeId) (cs : Array Value) (h : w0.heap.size ≤ w.heap.size) : NewB w0 t cs.size (.pointer (some ⟨w.heap.size, 0, none⟩)) (w.alloc (.cells cs t)) := ⟨_, rfl, h, cs, rfl, Blk.new w t cs⟩
/-- and what it holds -/
def PutB (w0 : World) (t : TypeId) (cs : List Value) (u : Value) (w : World) : Prop := ∃ b, u = .pointer (some ⟨b, 0, none⟩) ∧ w0.heap.size ≤ b ∧ Blk w b t cs.toArray
section
variable {P : Program} {ops : Array Oper} {md : Region.Mode} {w0 : World} {ts : Nat → Option TypeId}
theorem wp_region_mixT {id : Nat} {Q : Exit → Act → World → Prop} {a : Act} {w : World} {l : List Oper} (ts : Nat → Option TypeId) (n : Nat) (hm : P.follows .mixedOrders = true) (hB : mixTailB .any l.toArray n = true)
    (h : ∀ Fin : Act → World → Prop, (∀ a' w', wpList P l.toArray Q (l.drop n) a' w' → Fin a' w') → wpMix P .any l.toArray (RT w) (fun k => RkT w (ts k)) w Fin (l.take n) 0 (fun _ => a) (fun _ _ _ => True)) : (Code.region id l.toArray true).wp P Q a w :=
  wp_region_mix (RT w) (fun k => RkT w (ts k)) n (fun _ _ _ h => h.rt) (fun _ w => RkT.of_same (Chg.refl _ w)) (fun _ _ _ h h' => Chg.trans h h' fun _ _ h => h) ((Chg.refl _ w).drew) hm hB (h _ fun _ _ h => h)
variable {Fin : Act → World → Prop} {o : Oper} {rest : List Oper} {k : Nat} {A : Env → Act} {F : Env → Nat → World → Prop}
theorem mt_st (j : Nat) (t : TypeId) (n : Nat) (cs : List Value) (A' : Env → Act) {x y : Operand} (ho : o.op = .store t x y) (hT : (P.info? t).map (·.size) = some n) (hl : cs.length = n) (h1 : ∀ u ∈ cs, u.oneCell' = true)
    (hgd : ∀ e, Region.wanted o (yielded ops (A e).tmps) = true) (hx : ∀ e, (A e).eval x = e j) (hy : ∀ e, (A e).eval y = .agg cs.toArray) (hj : anc md ops ops.size k j = true)
    (hF : ∀ e w, F e j w → NewB w0 t n (e j) w) (hts : ts k = some t) (hoth : ∀ i, i ≠ k → ts i ≠ some t) (hA : ∀ e, (A e).put o.dst undef = A' e)
    (h : wpMix P md ops (RT w0) (fun k => RkT w0 (ts k)) w0 Fin rest (k + 1) A' (fun e i w => if i = k then PutB w0 t cs (e j) w else F e i w)) :
    wpMix P md ops (RT w0) (fun k => RkT w0 (ts k)) w0 Fin (o :: rest) k A F := by
  obtain rfl : A' = fun e => (A e).put o.dst undef := funext fun e => (hA e).symm
  refine ⟨fun _ _ => undef, fun e _ w => PutB w0 t cs (e j) w, Loc.const _ _, fun e e' he => (by show (fun (_ : Value) w => PutB w0 t cs (e j) w) = (fun (_ : Value) w => PutB w0 t cs (e' j) w); rw [he j hj]), fun i hi _ e u w w' hr ⟨b, h1, h2, h3⟩ => ⟨b, h1, h2, h3.chg hr.chg fun ⟨_, t', e1, e2⟩ => ?_⟩, fun e w hR hFj => ⟨fun _ => ?_, fun hn => by rw [hgd e] at hn; cases hn⟩, h⟩
  · rw [h3.ty] at e2
    exact hoth i hi (e1.trans (congrArg some (Option.some.inj e2).symm))
  · obtain ⟨b, hb, hle, old, hsz, hB⟩ := hF e w (hFj j hj)
    refine wp_store_row t x y ho b cs.toArray ((hx e).trans hb) (hy e) t old hB (by rw [List.size_toArray, hl]; exact hT) (by simp [hl, hsz]) (all_oneCell_toArray h1) ⟨undef, rfl, ⟨b, hb, hle, Blk.setRow_ hB _⟩, ?_, ?_⟩
    · exact Chg.setRow (S := fun b => w0.heap.size ≤ b ∧ ∃ t', ts k = some t' ∧ ty w b = some t') (Chg.refl _ w) (.inl ⟨hle, t, hts, hB.ty⟩) _
    · intro b' t' c' hb'
      by_cases e1 : b' = b
      · subst e1
        have e2 : Obj.cells c' t' (0, 0) = Obj.cells old t (0, 0) := Option.some.inj (hb'.symm.trans hB)
        cases e2
        exact ⟨cs.toArray, by simp [hl, hsz], Blk.setRow_ hB _⟩
      · exact ⟨c', rfl, Blk.setRow_ne hb' e1 _⟩
end
end Go.Proofs.YtlodanjpkjfjiaaGreatDoor
/-! OnF -/
namespace Go.Proofs.YtlodanjpkjfjiaaGreatDoor
open Go.RowKit Go.Al
set_option linter.unusedVariables false

theorem rowPt : RowTy Tryz.prog 23 3 := ⟨⟨_, Tryz.underlying23, rfl⟩, by kernel_rfl⟩
theorem rowSp : RowTy Tryz.prog 25 3 := ⟨⟨_, Tryz.underlying25, rfl⟩, by kernel_rfl⟩
theorem ty_ne {w : World} {a b : Nat} {s t : TypeId} {c d : Array Value} (h : Blk w a s c) (h' : Blk w b t d) (hn : s ≠ t) : a ≠ b := fun e => by
  have h1 := h.ty
  rw [e, h'.ty] at h1
  exact hn (Option.some.inj h1).symm
set_option maxRecDepth 100000 in
set_option maxHeartbeats 8000000 in
theorem ronly_1 (qk p1 p2 p3 s1 s2 s3 a b c d e1 f g x y : Int) (w : World) :
    Calls Tryz.prog 27 #[.agg #[Value.int .i64 1, .int .i64 1, .int .i64 p1, .int .i64 p2, .int .i64 p3, .int .i64 s1, .int .i64 s2, .int .i64 s3, .int .i64 qk, .int .i64 a, .int .i64 b, .int .i64 c, .int .i64 d, .int .i64 e1, .int .i64 f, .int .i64 g, .int .i64 x, .int .i64 y]] w fun en w' => en = .returned (.agg #[Value.int .i64 1, .int .i64 1, .int .i64 p1, .int .i64 p2, .int .i64 p3, .int .i64 0, .int .i64 0, .int .i64 0, .int .i64 0, .int .i64 0, .int .i64 0, .int .i64 0, .int .i64 0, .int .i64 0, .int .i64 0, .int .i64 0, .int .i64 0, .int .i64 0]) ∧ Same w w'  := by
  have hb := (Blk.new w 35 #[Value.int .i64 1, .int .i64 1, .int .i64 p1, .int .i64 p2, .int .i64 p3, .int .i64 s1, .int .i64 s2, .int .i64 s3, .int .i64 qk, .int .i64 a, .int .i64 b, .int .i64 c, .int .i64 d, .int .i64 e1, .int .i64 f, .int .i64 g, .int .i64 x, .int .i64 y]).alloc (.cells #[Value.int .i64 0, .int .i64 0, .int .i64 0, .int .i64 0, .int .i64 0, .int .i64 0, .int .i64 0, .int .i64 0, .int .i64 0, .int .i64 0, .int .i64 0, .int .i64 0, .int .i64 0, .int .i64 0, .int .i64 0, .int .i64 0, .int .i64 0, .int .i64 0] 35)
  have hr := Blk.new (w.alloc (.cells #[Value.int .i64 1, .int .i64 1, .int .i64 p1, .int .i64 p2, .int .i64 p3, .int .i64 s1, .int .i64 s2, .int .i64 s3, .int .i64 qk, .int .i64 a, .int .i64 b, .int .i64 c, .int .i64 d, .int .i64 e1, .int .i64 f, .int .i64 g, .int .i64 x, .int .i64 y] 35)) 35 #[Value.int .i64 0, .int .i64 0, .int .i64 0, .int .i64 0, .int .i64 0, .int .i64 0, .int .i64 0, .int .i64 0, .int .i64 0, .int .i64 0, .int .i64 0, .int .i64 0, .int .i64 0, .int .i64 0, .int .i64 0, .int .i64 0, .int .i64 0, .int .i64 0]
  simp only [World.size_alloc] at hr
  have hs : Same w ((w.alloc (.cells #[Value.int .i64 1, .int .i64 1, .int .i64 p1, .int .i64 p2, .int .i64 p3, .int .i64 s1, .int .i64 s2, .int .i64 s3, .int .i64 qk, .int .i64 a, .int .i64 b, .int .i64 c, .int .i64 d, .int .i64 e1, .int .i64 f, .int .i64 g, .int .i64 x, .int .i64 y] 35)).alloc (.cells #[Value.int .i64 0, .int .i64 0, .int .i64 0, .int .i64 0, .int .i64 0, .int .i64 0, .int .i64 0, .int .i64 0, .int .i64 0, .int .i64 0, .int .i64 0, .int .i64 0, .int .i64 0, .int .i64 0, .int .i64 0, .int .i64 0, .int .i64 0, .int .i64 0] 35)) := ((Chg.refl _ w).alloc _).alloc _
  have Hb0 := hide hb
  have Hr0 := hide hr
  have Hs0 := hide hs
  have HXL := hide (RowL.lit rfl rfl : RowL [Value.int .i64 1, .int .i64 0, .int .i64 0, .int .i64 0, .int .i64 0, .int .i64 0, .int .i64 0, .int .i64 0, .int .i64 0, .int .i64 0, .int .i64 0, .int .i64 0, .int .i64 0, .int .i64 0, .int .i64 0, .int .i64 0, .int .i64 0, .int .i64 0] 18)
  clear hb hr hs
  go_enter Tryz.func27, Tryz.ntmps27
  go_wp2_with (first
    | ((with_reducible refine stNg 35 18 [Value.int .i64 1, .int .i64 0, .int .i64 0, .int .i64 0, .int .i64 0, .int .i64 0, .int .i64 0, .int .i64 0, .int .i64 0, .int .i64 0, .int .i64 0, .int .i64 0, .int .i64 0, .int .i64 0, .int .i64 0, .int .i64 0, .int .i64 0, .int .i64 0] 35 _ rowReq HXL.out.len ?_ HXL.out.one ?_ ?_ ?_); rfl; (simp only [World.size_alloc]; rfl); rfl; intro w0 hs1 hz1 hb1; simp only [World.size_alloc] at hb1; have Hs := hide (Same.trans Hs0.out hs1); have Hx := hide (show Blk w0 (w.heap.size + 1 + 1) 35 #[Value.int .i64 1, .int .i64 0, .int .i64 0, .int .i64 0, .int .i64 0, .int .i64 0, .int .i64 0, .int .i64 0, .int .i64 0, .int .i64 0, .int .i64 0, .int .i64 0, .int .i64 0, .int .i64 0, .int .i64 0, .int .i64 0, .int .i64 0, .int .i64 0] from hb1); have Hb := hide (Hb0.out.same hs1); have Hr := hide (Hr0.out.same hs1); clear hs1 hz1 hb1)
    | fail)
  clear Hs0 Hb0 Hr0 HXL
  have HP := hide (RowL.lit rfl rfl : RowL [Value.int .i64 p1, .int .i64 p2, .int .i64 p3] 3)
  have HSp := hide (RowL.lit rfl rfl : RowL [Value.int .i64 s1, .int .i64 s2, .int .i64 s3] 3)
  have HQ := hide (RowL.lit rfl rfl : RowL [Value.int .i64 qk, .int .i64 a, .int .i64 b, .int .i64 c, .int .i64 d, .int .i64 e1, .int .i64 f, .int .i64 g, .int .i64 x, .int .i64 y] 10)
  have HF := hide (RowL.lit rfl rfl : RowL [Value.int .i64 1, .int .i64 1, .int .i64 p1, .int .i64 p2, .int .i64 p3, .int .i64 0, .int .i64 0, .int .i64 0, .int .i64 0, .int .i64 0, .int .i64 0, .int .i64 0, .int .i64 0, .int .i64 0, .int .i64 0, .int .i64 0, .int .i64 0, .int .i64 0] 18)
  refine wp_region_mixT (fun k => if k = 11 then some 23 else if k = 12 then some 25 else if k = 13 then some 33 else none) 14 (by kernel_rfl) (by kernel_rfl) fun Fin hFin => ?_
  simp only [List.take_succ_cons, List.take_zero]
  iterate 2 (
      (refine mix_lit ?_ ?_ (fun w => RkT.of_same (Chg.refl _ w)) ?_ ?_ ?_ ?_
       rotate_left; rotate_left
       · intro e w1 hR hF K hK; (skip); go_simp; (refine hK _ _ (RkT.of_same (Chg.refl _ _)) ?_; rfl)
       · intro e; simp only [Act.put, List.setIfInBounds_toArray, List.set_cons_zero, List.set_cons_succ]; rfl
       · exact Loc.const _ _))
  refine mix_ld [Value.int .i64 p1, .int .i64 p2, .int .i64 p3] ?_ (fun w => RkT.of_same (Chg.refl _ w)) (fun _ => by rfl) 23 _ rfl w.heap.size 2 (fun _ => by rfl) _ (fun w1 hR => rangeAt_blk [Value.int .i64 1, .int .i64 1] [Value.int .i64 p1, .int .i64 p2, .int .i64 p3] [Value.int .i64 s1, .int .i64 s2, .int .i64 s3, .int .i64 qk, .int .i64 a, .int .i64 b, .int .i64 c, .int .i64 d, .int .i64 e1, .int .i64 f, .int .i64 g, .int .i64 x, .int .i64 y] (Hb.out.same (RT.same hR))) Tryz.underlying23 rfl (by kernel_rfl) ?_ ?_
  rotate_left
  · intro e; simp only [Act.put, List.setIfInBounds_toArray, List.set_cons_zero, List.set_cons_succ]; rfl
  iterate 2 (
      (refine mix_lit ?_ ?_ (fun w => RkT.of_same (Chg.refl _ w)) ?_ ?_ ?_ ?_
       rotate_left; rotate_left
       · intro e w1 hR hF K hK; (skip); go_simp; (refine hK _ _ (RkT.of_same (Chg.refl _ _)) ?_; rfl)
       · intro e; simp only [Act.put, List.setIfInBounds_toArray, List.set_cons_zero, List.set_cons_succ]; rfl
       · exact Loc.const _ _))
  refine mix_ld [Value.int .i64 s1, .int .i64 s2, .int .i64 s3] ?_ (fun w => RkT.of_same (Chg.refl _ w)) (fun _ => by rfl) 25 _ rfl w.heap.size 5 (fun _ => by rfl) _ (fun w1 hR => rangeAt_blk [Value.int .i64 1, .int .i64 1, .int .i64 p1, .int .i64 p2, .int .i64 p3] [Value.int .i64 s1, .int .i64 s2, .int .i64 s3] [Value.int .i64 qk, .int .i64 a, .int .i64 b, .int .i64 c, .int .i64 d, .int .i64 e1, .int .i64 f, .int .i64 g, .int .i64 x, .int .i64 y] (Hb.out.same (RT.same hR))) Tryz.underlying25 rfl (by kernel_rfl) ?_ ?_
  rotate_left
  · intro e; simp only [Act.put, List.setIfInBounds_toArray, List.set_cons_zero, List.set_cons_succ]; rfl
  iterate 1 (
      (refine mix_lit ?_ ?_ (fun w => RkT.of_same (Chg.refl _ w)) ?_ ?_ ?_ ?_
       rotate_left; rotate_left
       · intro e w1 hR hF K hK; (skip); go_simp; (refine hK _ _ (RkT.of_same (Chg.refl _ _)) ?_; rfl)
       · intro e; simp only [Act.put, List.setIfInBounds_toArray, List.set_cons_zero, List.set_cons_succ]; rfl
       · exact Loc.const _ _))
  refine mix_ld [Value.int .i64 qk, .int .i64 a, .int .i64 b, .int .i64 c, .int .i64 d, .int .i64 e1, .int .i64 f, .int .i64 g, .int .i64 x, .int .i64 y] ?_ (fun w => RkT.of_same (Chg.refl _ w)) (fun _ => by rfl) 33 _ rfl w.heap.size 8 (fun _ => by rfl) _ (fun w1 hR => rangeAt_blk [Value.int .i64 1, .int .i64 1, .int .i64 p1, .int .i64 p2, .int .i64 p3, .int .i64 s1, .int .i64 s2, .int .i64 s3] [Value.int .i64 qk, .int .i64 a, .int .i64 b, .int .i64 c, .int .i64 d, .int .i64 e1, .int .i64 f, .int .i64 g, .int .i64 x, .int .i64 y] [] (Hb.out.same (RT.same hR))) Tryz.underlying33 rfl (by kernel_rfl) ?_ ?_
  rotate_left
  · intro e; simp only [Act.put, List.setIfInBounds_toArray, List.set_cons_zero, List.set_cons_succ]; rfl
  refine mix_let (fun _ v w9 => NewB w0 23 3 v w9) ?_ (by exact Loc.const _ _) (fun i _ _ e u w w' hr h => h.keep hr.keep) ?_ ?_ ?_ ?_
  rotate_left
  · intro e; rfl
  · intro e w9 hR hF K hK; go_simp; exact hK _ _ _ (RkT.of_same ((Chg.refl _ _).alloc _)) ⟨_, rfl, Chg.size hR, _, rfl, Blk.new _ _ _⟩ (by simp only [Act.put, List.setIfInBounds_toArray, List.set_cons_zero, List.set_cons_succ])
  · intro e; simp only [Act.put, List.setIfInBounds_toArray, List.set_cons_zero, List.set_cons_succ]; rfl
  refine mix_let (fun _ v w9 => NewB w0 25 3 v w9) ?_ (by exact Loc.const _ _) (fun i _ _ e u w w' hr h => h.keep hr.keep) ?_ ?_ ?_ ?_
  rotate_left
  · intro e; rfl
  · intro e w9 hR hF K hK; go_simp; exact hK _ _ _ (RkT.of_same ((Chg.refl _ _).alloc _)) ⟨_, rfl, Chg.size hR, _, rfl, Blk.new _ _ _⟩ (by simp only [Act.put, List.setIfInBounds_toArray, List.set_cons_zero, List.set_cons_succ])
  · intro e; simp only [Act.put, List.setIfInBounds_toArray, List.set_cons_zero, List.set_cons_succ]; rfl
  refine mix_let (fun _ v w9 => NewB w0 33 10 v w9) ?_ (by exact Loc.const _ _) (fun i _ _ e u w w' hr h => h.keep hr.keep) ?_ ?_ ?_ ?_
  rotate_left
  · intro e; rfl
  · intro e w9 hR hF K hK; go_simp; exact hK _ _ _ (RkT.of_same ((Chg.refl _ _).alloc _)) ⟨_, rfl, Chg.size hR, _, rfl, Blk.new _ _ _⟩ (by simp only [Act.put, List.setIfInBounds_toArray, List.set_cons_zero, List.set_cons_succ])
  · intro e; simp only [Act.put, List.setIfInBounds_toArray, List.set_cons_zero, List.set_cons_succ]; rfl
  refine mt_st 8 23 3 [Value.int .i64 p1, .int .i64 p2, .int .i64 p3] ?_ (by rfl) rowPt.sz HP.out.len HP.out.one (fun _ => by rfl) (fun _ => by rfl) (fun _ => by rfl) (by kernel_rfl) (fun e w h => h) (by rfl) (by intro i hi h; (repeat' split at h) <;> first | omega | (cases h; done) | exact absurd h (by decide)) ?_ ?_
  rotate_left
  · intro e; rfl
  refine mt_st 9 25 3 [Value.int .i64 s1, .int .i64 s2, .int .i64 s3] ?_ (by rfl) rowSp.sz HSp.out.len HSp.out.one (fun _ => by rfl) (fun _ => by rfl) (fun _ => by rfl) (by kernel_rfl) (fun e w h => h) (by rfl) (by intro i hi h; (repeat' split at h) <;> first | omega | (cases h; done) | exact absurd h (by decide)) ?_ ?_
  rotate_left
  · intro e; rfl
  refine mt_st 10 33 10 [Value.int .i64 qk, .int .i64 a, .int .i64 b, .int .i64 c, .int .i64 d, .int .i64 e1, .int .i64 f, .int .i64 g, .int .i64 x, .int .i64 y] ?_ (by rfl) rowQry.sz HQ.out.len HQ.out.one (fun _ => by rfl) (fun _ => by rfl) (fun _ => by rfl) (by kernel_rfl) (fun e w h => h) (by rfl) (by intro i hi h; (repeat' split at h) <;> first | omega | (cases h; done) | exact absurd h (by decide)) ?_ ?_
  rotate_left
  · intro e; rfl
  refine mix_nil fun e w3 hR hF => hFin _ _ ?_
  simp only [List.drop_succ_cons, List.drop_zero]
  obtain ⟨b4, h4, hz4, hB4⟩ := (show PutB w0 23 [Value.int .i64 p1, .int .i64 p2, .int .i64 p3] (e 8) w3 from hF 11 (by decide))
  obtain ⟨b5, h5, hz5, hB5⟩ := (show PutB w0 25 [Value.int .i64 s1, .int .i64 s2, .int .i64 s3] (e 9) w3 from hF 12 (by decide))
  obtain ⟨b6, h6, hz6, hB6⟩ := (show PutB w0 33 [Value.int .i64 qk, .int .i64 a, .int .i64 b, .int .i64 c, .int .i64 d, .int .i64 e1, .int .i64 f, .int .i64 g, .int .i64 x, .int .i64 y] (e 10) w3 from hF 13 (by decide))
  rw [h4, h5, h6]
  have hsm := RT.same hR
  have hx0 := Hx.out.same hsm
  have hb0 := Hb.out.same hsm
  have hr0 := Hr.out.same hsm
  have Hne := hide (show (b4 ≠ (w.heap.size + 1 + 1) ∧ b5 ≠ (w.heap.size + 1 + 1) ∧ b6 ≠ (w.heap.size + 1 + 1)) from ⟨ty_ne hB4 hx0 (by decide), ty_ne hB5 hx0 (by decide), ty_ne hB6 hx0 (by decide)⟩)
  have HB := hide hb0
  have Hgx := hide (show w.heap.size ≠ (w.heap.size + 1 + 1) from by omega)
  have HR := hide hr0
  have HX3 := hide (show Blk w3 (w.heap.size + 1 + 1) 35 ([Value.int .i64 1, .int .i64 0, .int .i64 0, .int .i64 0, .int .i64 0, .int .i64 0, .int .i64 0, .int .i64 0, .int .i64 0, .int .i64 0, .int .i64 0, .int .i64 0, .int .i64 0, .int .i64 0, .int .i64 0, .int .i64 0, .int .i64 0, .int .i64 0]).toArray from hx0)
  have H4 := hide hB4
  have H5 := hide hB5
  have H6 := hide hB6
  have HS := hide (Same.trans Hs.out hsm)
  have kb0 : w3.cell? ⟨w.heap.size, 0, none⟩ = some (Value.int .i64 1) := (HB.out).cell 0
  have kb1 : w3.cell? ⟨w.heap.size, 1, none⟩ = some (Value.int .i64 1) := (HB.out).cell 1
  have HcX3 := hide (Chg.refl (fun k => k = (w.heap.size + 1 + 1)) w3)
  clear hR hF hFin h4 h5 h6 hx0 hb0 hr0 hB4 hB5 hB6 hz4 hz5 hz6 hsm e Hb Hr Hx
  have Hrx := hide (show w.heap.size + 1 ≠ (w.heap.size + 1 + 1) from by omega)
  have HC4 := hide (⟨by show 1 < 18; decide, rfl⟩ : CellL [Value.int .i64 1, .int .i64 0, .int .i64 0, .int .i64 0, .int .i64 0, .int .i64 0, .int .i64 0, .int .i64 0, .int .i64 0, .int .i64 0, .int .i64 0, .int .i64 0, .int .i64 0, .int .i64 0, .int .i64 0, .int .i64 0, .int .i64 0, .int .i64 0] 1 (Value.int .i64 1))
  have HV5 := hide (RowL.lit rfl rfl : RowL [Value.int .i64 p1, .int .i64 p2, .int .i64 p3] 3)
  have HZ5 := hide (RowL.lit rfl rfl : RowL [Value.int .i64 0, .int .i64 0, .int .i64 0] 3)
  have HO5 := hide (RowL.lit rfl rfl : RowL [Value.int .i64 1, .int .i64 1] 2)
  go_wp2_with (first
    | ((with_reducible refine stCg 3 (w.heap.size + 1 + 1) 1 (Value.int .i64 1) 35 [Value.int .i64 1, .int .i64 0, .int .i64 0, .int .i64 0, .int .i64 0, .int .i64 0, .int .i64 0, .int .i64 0, .int .i64 0, .int .i64 0, .int .i64 0, .int .i64 0, .int .i64 0, .int .i64 0, .int .i64 0, .int .i64 0, .int .i64 0, .int .i64 0] intSz HC4.out.one HX3.out HC4.out.lt ?_ ?_ ?_); rfl; rfl; intro w4 hc hb; clear kb0 kb1; have HX4 := hide (show Blk w4 (w.heap.size + 1 + 1) 35 ([Value.int .i64 1, .int .i64 1] ++ [Value.int .i64 0, .int .i64 0, .int .i64 0] ++ [Value.int .i64 0, .int .i64 0, .int .i64 0, .int .i64 0, .int .i64 0, .int .i64 0, .int .i64 0, .int .i64 0, .int .i64 0, .int .i64 0, .int .i64 0, .int .i64 0, .int .i64 0]).toArray from hb); have hc' := Chg.trans HcX3.out hc (fun _ _ e => e); have HcX4 := hide hc'; have kb0 : w4.cell? ⟨w.heap.size, 0, none⟩ = some (Value.int .i64 1) := (HB.out.chg hc' Hgx.out).cell 0; have kb1 : w4.cell? ⟨w.heap.size, 1, none⟩ = some (Value.int .i64 1) := (HB.out.chg hc' Hgx.out).cell 1; clear hc hc' hb)
    | ((with_reducible refine ldR 23 b4 0 3 [Value.int .i64 p1, .int .i64 p2, .int .i64 p3] rowPt HV5.out.len (rangeAt_blk [] [Value.int .i64 p1, .int .i64 p2, .int .i64 p3] [] (H4.out.chg HcX4.out Hne.out.1)) ?_ ?_ ?_); rfl; rfl)
    | ((with_reducible refine stMg 23 (w.heap.size + 1 + 1) 2 3 [Value.int .i64 1, .int .i64 1] [Value.int .i64 0, .int .i64 0, .int .i64 0] [Value.int .i64 0, .int .i64 0, .int .i64 0, .int .i64 0, .int .i64 0, .int .i64 0, .int .i64 0, .int .i64 0, .int .i64 0, .int .i64 0, .int .i64 0, .int .i64 0, .int .i64 0] [Value.int .i64 p1, .int .i64 p2, .int .i64 p3] 35 rowPt HV5.out.len HZ5.out.len HO5.out.len HX4.out HV5.out.one ?_ ?_ ?_); rfl; rfl; intro w5 hc hb; clear kb0 kb1; have HX5 := hide (show Blk w5 (w.heap.size + 1 + 1) 35 ([Value.int .i64 1, .int .i64 1, .int .i64 p1, .int .i64 p2, .int .i64 p3, .int .i64 0, .int .i64 0, .int .i64 0, .int .i64 0, .int .i64 0, .int .i64 0, .int .i64 0, .int .i64 0, .int .i64 0, .int .i64 0, .int .i64 0, .int .i64 0, .int .i64 0]).toArray from hb); have hc' := Chg.trans HcX4.out hc (fun _ _ e => e); have HcX5 := hide hc'; have kb0 : w5.cell? ⟨w.heap.size, 0, none⟩ = some (Value.int .i64 1) := (HB.out.chg hc' Hgx.out).cell 0; have kb1 : w5.cell? ⟨w.heap.size, 1, none⟩ = some (Value.int .i64 1) := (HB.out.chg hc' Hgx.out).cell 1; clear hc hc' hb)
    | ((with_reducible refine ldR 35 (w.heap.size + 1 + 1) 0 18 [Value.int .i64 1, .int .i64 1, .int .i64 p1, .int .i64 p2, .int .i64 p3, .int .i64 0, .int .i64 0, .int .i64 0, .int .i64 0, .int .i64 0, .int .i64 0, .int .i64 0, .int .i64 0, .int .i64 0, .int .i64 0, .int .i64 0, .int .i64 0, .int .i64 0] rowReq HF.out.len (blk_range HX5.out) ?_ ?_ ?_); rfl; rfl)
    | ((with_reducible refine stRg 35 (w.heap.size + 1) 18 [Value.int .i64 1, .int .i64 1, .int .i64 p1, .int .i64 p2, .int .i64 p3, .int .i64 0, .int .i64 0, .int .i64 0, .int .i64 0, .int .i64 0, .int .i64 0, .int .i64 0, .int .i64 0, .int .i64 0, .int .i64 0, .int .i64 0, .int .i64 0, .int .i64 0] 35 _ rowReq HF.out.len ?_ (HR.out.chg HcX5.out Hrx.out) HF.out.one ?_ ?_ ?_); rfl; rfl; rfl; intro w9 hc9 hz9 hb9; have Hc9 := hide hc9; have Hb9 := hide hb9; clear hc9 hz9 hb9)
    | fail)
  refine bodyPost_ret (results_cell_row rfl _ _ _ _ _ _ _ rfl Hb9.out Tryz.underlying35 rfl (by kernel_rfl)) (by rfl) (show _ ∧ _ from ⟨rfl, ?_⟩)
  have h1 : Chg (fun k => w.heap.size ≤ k) w w3 := Same.to HS.out
  have h2 : Chg (fun k => w.heap.size ≤ k) w w5 := Chg.trans h1 HcX5.out (fun k _ e => (by have e' : k = (w.heap.size + 1 + 1) := e; omega))
  exact Chg.fresh (S := fun k => w.heap.size ≤ k) (Chg.trans h2 Hc9.out (fun k _ e => (by have e' : k = w.heap.size + 1 := e; omega))) (fun _ h => h)
set_option maxRecDepth 100000 in
set_option maxHeartbeats 8000000 in
theorem ronly_2 (qk p1 p2 p3 s1 s2 s3 a b c d e1 f g x y : Int) (w : World) :
    Calls Tryz.prog 27 #[.agg #[Value.int .i64 1, .int .i64 2, .int .i64 p1, .int .i64 p2, .int .i64 p3, .int .i64 s1, .int .i64 s2, .int .i64 s3, .int .i64 qk, .int .i64 a, .int .i64 b, .int .i64 c, .int .i64 d, .int .i64 e1, .int .i64 f, .int .i64 g, .int .i64 x, .int .i64 y]] w fun en w' => en = .returned (.agg #[Value.int .i64 1, .int .i64 2, .int .i64 p1, .int .i64 0, .int .i64 0, .int .i64 0, .int .i64 0, .int .i64 0, .int .i64 0, .int .i64 0, .int .i64 0, .int .i64 0, .int .i64 0, .int .i64 0, .int .i64 0, .int .i64 0, .int .i64 0, .int .i64 0]) ∧ Same w w'  := by
  have hb := (Blk.new w 35 #[Value.int .i64 1, .int .i64 2, .int .i64 p1, .int .i64 p2, .int .i64 p3, .int .i64 s1, .int .i64 s2, .int .i64 s3, .int .i64 qk, .int .i64 a, .int .i64 b, .int .i64 c, .int .i64 d, .int .i64 e1, .int .i64 f, .int .i64 g, .int .i64 x, .int .i64 y]).alloc (.cells #[Value.int .i64 0, .int .i64 0, .int .i64 0, .int .i64 0, .int .i64 0, .int .i64 0, .int .i64 0, .int .i64 0, .int .i64 0, .int .i64 0, .int .i64 0, .int .i64 0, .int .i64 0, .int .i64 0, .int .i64 0, .int .i64 0, .int .i64 0, .int .i64 0] 35)
  have hr := Blk.new (w.alloc (.cells #[Value.int .i64 1, .int .i64 2, .int .i64 p1, .int .i64 p2, .int .i64 p3, .int .i64 s1, .int .i64 s2, .int .i64 s3, .int .i64 qk, .int .i64 a, .int .i64 b, .int .i64 c, .int .i64 d, .int .i64 e1, .int .i64 f, .int .i64 g, .int .i64 x, .int .i64 y] 35)) 35 #[Value.int .i64 0, .int .i64 0, .int .i64 0, .int .i64 0, .int .i64 0, .int .i64 0, .int .i64 0, .int .i64 0, .int .i64 0, .int .i64 0, .int .i64 0, .int .i64 0, .int .i64 0, .int .i64 0, .int .i64 0, .int .i64 0, .int .i64 0, .int .i64 0]
  simp only [World.size_alloc] at hr
  have hs : Same w ((w.alloc (.cells #[Value.int .i64 1, .int .i64 2, .int .i64 p1, .int .i64 p2, .int .i64 p3, .int .i64 s1, .int .i64 s2, .int .i64 s3, .int .i64 qk, .int .i64 a, .int .i64 b, .int .i64 c, .int .i64 d, .int .i64 e1, .int .i64 f, .int .i64 g, .int .i64 x, .int .i64 y] 35)).alloc (.cells #[Value.int .i64 0, .int .i64 0, .int .i64 0, .int .i64 0, .int .i64 0, .int .i64 0, .int .i64 0, .int .i64 0, .int .i64 0, .int .i64 0, .int .i64 0, .int .i64 0, .int .i64 0, .int .i64 0, .int .i64 0, .int .i64 0, .int .i64 0, .int .i64 0] 35)) := ((Chg.refl _ w).alloc _).alloc _
  have Hb0 := hide hb
  have Hr0 := hide hr
  have Hs0 := hide hs
  have HXL := hide (RowL.lit rfl rfl : RowL [Value.int .i64 1, .int .i64 0, .int .i64 0, .int .i64 0, .int .i64 0, .int .i64 0, .int .i64 0, .int .i64 0, .int .i64 0, .int .i64 0, .int .i64 0, .int .i64 0, .int .i64 0, .int .i64 0, .int .i64 0, .int .i64 0, .int .i64 0, .int .i64 0] 18)
  clear hb hr hs
  go_enter Tryz.func27, Tryz.ntmps27
  go_wp2_with (first
    | ((with_reducible refine stNg 35 18 [Value.int .i64 1, .int .i64 0, .int .i64 0, .int .i64 0, .int .i64 0, .int .i64 0, .int .i64 0, .int .i64 0, .int .i64 0, .int .i64 0, .int .i64 0, .int .i64 0, .int .i64 0, .int .i64 0, .int .i64 0, .int .i64 0, .int .i64 0, .int .i64 0] 35 _ rowReq HXL.out.len ?_ HXL.out.one ?_ ?_ ?_); rfl; (simp only [World.size_alloc]; rfl); rfl; intro w0 hs1 hz1 hb1; simp only [World.size_alloc] at hb1; have Hs := hide (Same.trans Hs0.out hs1); have Hx := hide (show Blk w0 (w.heap.size + 1 + 1) 35 #[Value.int .i64 1, .int .i64 0, .int .i64 0, .int .i64 0, .int .i64 0, .int .i64 0, .int .i64 0, .int .i64 0, .int .i64 0, .int .i64 0, .int .i64 0, .int .i64 0, .int .i64 0, .int .i64 0, .int .i64 0, .int .i64 0, .int .i64 0, .int .i64 0] from hb1); have Hb := hide (Hb0.out.same hs1); have Hr := hide (Hr0.out.same hs1); clear hs1 hz1 hb1)
    | fail)
  clear Hs0 Hb0 Hr0 HXL
  have HP := hide (RowL.lit rfl rfl : RowL [Value.int .i64 p1, .int .i64 p2, .int .i64 p3] 3)
  have HSp := hide (RowL.lit rfl rfl : RowL [Value.int .i64 s1, .int .i64 s2, .int .i64 s3] 3)
  have HQ := hide (RowL.lit rfl rfl : RowL [Value.int .i64 qk, .int .i64 a, .int .i64 b, .int .i64 c, .int .i64 d, .int .i64 e1, .int .i64 f, .int .i64 g, .int .i64 x, .int .i64 y] 10)
  have HF := hide (RowL.lit rfl rfl : RowL [Value.int .i64 1, .int .i64 2, .int .i64 p1, .int .i64 0, .int .i64 0, .int .i64 0, .int .i64 0, .int .i64 0, .int .i64 0, .int .i64 0, .int .i64 0, .int .i64 0, .int .i64 0, .int .i64 0, .int .i64 0, .int .i64 0, .int .i64 0, .int .i64 0] 18)
  refine wp_region_mixT (fun k => if k = 11 then some 23 else if k = 12 then some 25 else if k = 13 then some 33 else none) 14 (by kernel_rfl) (by kernel_rfl) fun Fin hFin => ?_
  simp only [List.take_succ_cons, List.take_zero]
  iterate 2 (
      (refine mix_lit ?_ ?_ (fun w => RkT.of_same (Chg.refl _ w)) ?_ ?_ ?_ ?_
       rotate_left; rotate_left
       · intro e w1 hR hF K hK; (skip); go_simp; (refine hK _ _ (RkT.of_same (Chg.refl _ _)) ?_; rfl)
       · intro e; simp only [Act.put, List.setIfInBounds_toArray, List.set_cons_zero, List.set_cons_succ]; rfl
       · exact Loc.const _ _))
  refine mix_ld [Value.int .i64 p1, .int .i64 p2, .int .i64 p3] ?_ (fun w => RkT.of_same (Chg.refl _ w)) (fun _ => by rfl) 23 _ rfl w.heap.size 2 (fun _ => by rfl) _ (fun w1 hR => rangeAt_blk [Value.int .i64 1, .int .i64 2] [Value.int .i64 p1, .int .i64 p2, .int .i64 p3] [Value.int .i64 s1, .int .i64 s2, .int .i64 s3, .int .i64 qk, .int .i64 a, .int .i64 b, .int .i64 c, .int .i64 d, .int .i64 e1, .int .i64 f, .int .i64 g, .int .i64 x, .int .i64 y] (Hb.out.same (RT.same hR))) Tryz.underlying23 rfl (by kernel_rfl) ?_ ?_
  rotate_left
  · intro e; simp only [Act.put, List.setIfInBounds_toArray, List.set_cons_zero, List.set_cons_succ]; rfl
  iterate 2 (
      (refine mix_lit ?_ ?_ (fun w => RkT.of_same (Chg.refl _ w)) ?_ ?_ ?_ ?_
       rotate_left; rotate_left
       · intro e w1 hR hF K hK; (skip); go_simp; (refine hK _ _ (RkT.of_same (Chg.refl _ _)) ?_; rfl)
       · intro e; simp only [Act.put, List.setIfInBounds_toArray, List.set_cons_zero, List.set_cons_succ]; rfl
       · exact Loc.const _ _))
  refine mix_ld [Value.int .i64 s1, .int .i64 s2, .int .i64 s3] ?_ (fun w => RkT.of_same (Chg.refl _ w)) (fun _ => by rfl) 25 _ rfl w.heap.size 5 (fun _ => by rfl) _ (fun w1 hR => rangeAt_blk [Value.int .i64 1, .int .i64 2, .int .i64 p1, .int .i64 p2, .int .i64 p3] [Value.int .i64 s1, .int .i64 s2, .int .i64 s3] [Value.int .i64 qk, .int .i64 a, .int .i64 b, .int .i64 c, .int .i64 d, .int .i64 e1, .int .i64 f, .int .i64 g, .int .i64 x, .int .i64 y] (Hb.out.same (RT.same hR))) Tryz.underlying25 rfl (by kernel_rfl) ?_ ?_
  rotate_left
  · intro e; simp only [Act.put, List.setIfInBounds_toArray, List.set_cons_zero, List.set_cons_succ]; rfl
  iterate 1 (
      (refine mix_lit ?_ ?_ (fun w => RkT.of_same (Chg.refl _ w)) ?_ ?_ ?_ ?_
       rotate_left; rotate_left
       · intro e w1 hR hF K hK; (skip); go_simp; (refine hK _ _ (RkT.of_same (Chg.refl _ _)) ?_; rfl)
       · intro e; simp only [Act.put, List.setIfInBounds_toArray, List.set_cons_zero, List.set_cons_succ]; rfl
       · exact Loc.const _ _))
  refine mix_ld [Value.int .i64 qk, .int .i64 a, .int .i64 b, .int .i64 c, .int .i64 d, .int .i64 e1, .int .i64 f, .int .i64 g, .int .i64 x, .int .i64 y] ?_ (fun w => RkT.of_same (Chg.refl _ w)) (fun _ => by rfl) 33 _ rfl w.heap.size 8 (fun _ => by rfl) _ (fun w1 hR => rangeAt_blk [Value.int .i64 1, .int .i64 2, .int .i64 p1, .int .i64 p2, .int .i64 p3, .int .i64 s1, .int .i64 s2, .int .i64 s3] [Value.int .i64 qk, .int .i64 a, .int .i64 b, .int .i64 c, .int .i64 d, .int .i64 e1, .int .i64 f, .int .i64 g, .int .i64 x, .int .i64 y] [] (Hb.out.same (RT.same hR))) Tryz.underlying33 rfl (by kernel_rfl) ?_ ?_
  rotate_left
  · intro e; simp only [Act.put, List.setIfInBounds_toArray, List.set_cons_zero, List.set_cons_succ]; rfl
  refine mix_let (fun _ v w9 => NewB w0 23 3 v w9) ?_ (by exact Loc.const _ _) (fun i _ _ e u w w' hr h => h.keep hr.keep) ?_ ?_ ?_ ?_
  rotate_left
  · intro e; rfl
  · intro e w9 hR hF K hK; go_simp; exact hK _ _ _ (RkT.of_same ((Chg.refl _ _).alloc _)) ⟨_, rfl, Chg.size hR, _, rfl, Blk.new _ _ _⟩ (by simp only [Act.put, List.setIfInBounds_toArray, List.set_cons_zero, List.set_cons_succ])
  · intro e; simp only [Act.put, List.setIfInBounds_toArray, List.set_cons_zero, List.set_cons_succ]; rfl
  refine mix_let (fun _ v w9 => NewB w0 25 3 v w9) ?_ (by exact Loc.const _ _) (fun i _ _ e u w w' hr h => h.keep hr.keep) ?_ ?_ ?_ ?_
  rotate_left
  · intro e; rfl
  · intro e w9 hR hF K hK; go_simp; exact hK _ _ _ (RkT.of_same ((Chg.refl _ _).alloc _)) ⟨_, rfl, Chg.size hR, _, rfl, Blk.new _ _ _⟩ (by simp only [Act.put, List.setIfInBounds_toArray, List.set_cons_zero, List.set_cons_succ])
  · intro e; simp only [Act.put, List.setIfInBounds_toArray, List.set_cons_zero, List.set_cons_succ]; rfl
  refine mix_let (fun _ v w9 => NewB w0 33 10 v w9) ?_ (by exact Loc.const _ _) (fun i _ _ e u w w' hr h => h.keep hr.keep) ?_ ?_ ?_ ?_
  rotate_left
  · intro e; rfl
  · intro e w9 hR hF K hK; go_simp; exact hK _ _ _ (RkT.of_same ((Chg.refl _ _).alloc _)) ⟨_, rfl, Chg.size hR, _, rfl, Blk.new _ _ _⟩ (by simp only [Act.put, List.setIfInBounds_toArray, List.set_cons_zero, List.set_cons_succ])
  · intro e; simp only [Act.put, List.setIfInBounds_toArray, List.set_cons_zero, List.set_cons_succ]; rfl
  refine mt_st 8 23 3 [Value.int .i64 p1, .int .i64 p2, .int .i64 p3] ?_ (by rfl) rowPt.sz HP.out.len HP.out.one (fun _ => by rfl) (fun _ => by rfl) (fun _ => by rfl) (by kernel_rfl) (fun e w h => h) (by rfl) (by intro i hi h; (repeat' split at h) <;> first | omega | (cases h; done) | exact absurd h (by decide)) ?_ ?_
  rotate_left
  · intro e; rfl
  refine mt_st 9 25 3 [Value.int .i64 s1, .int .i64 s2, .int .i64 s3] ?_ (by rfl) rowSp.sz HSp.out.len HSp.out.one (fun _ => by rfl) (fun _ => by rfl) (fun _ => by rfl) (by kernel_rfl) (fun e w h => h) (by rfl) (by intro i hi h; (repeat' split at h) <;> first | omega | (cases h; done) | exact absurd h (by decide)) ?_ ?_
  rotate_left
  · intro e; rfl
  refine mt_st 10 33 10 [Value.int .i64 qk, .int .i64 a, .int .i64 b, .int .i64 c, .int .i64 d, .int .i64 e1, .int .i64 f, .int .i64 g, .int .i64 x, .int .i64 y] ?_ (by rfl) rowQry.sz HQ.out.len HQ.out.one (fun _ => by rfl) (fun _ => by rfl) (fun _ => by rfl) (by kernel_rfl) (fun e w h => h) (by rfl) (by intro i hi h; (repeat' split at h) <;> first | omega | (cases h; done) | exact absurd h (by decide)) ?_ ?_
  rotate_left
  · intro e; rfl
  refine mix_nil fun e w3 hR hF => hFin _ _ ?_
  simp only [List.drop_succ_cons, List.drop_zero]
  obtain ⟨b4, h4, hz4, hB4⟩ := (show PutB w0 23 [Value.int .i64 p1, .int .i64 p2, .int .i64 p3] (e 8) w3 from hF 11 (by decide))
  obtain ⟨b5, h5, hz5, hB5⟩ := (show PutB w0 25 [Value.int .i64 s1, .int .i64 s2, .int .i64 s3] (e 9) w3 from hF 12 (by decide))
  obtain ⟨b6, h6, hz6, hB6⟩ := (show PutB w0 33 [Value.int .i64 qk, .int .i64 a, .int .i64 b, .int .i64 c, .int .i64 d, .int .i64 e1, .int .i64 f, .int .i64 g, .int .i64 x, .int .i64 y] (e 10) w3 from hF 13 (by decide))
  rw [h4, h5, h6]
  have hsm := RT.same hR
  have hx0 := Hx.out.same hsm
  have hb0 := Hb.out.same hsm
  have hr0 := Hr.out.same hsm
  have Hne := hide (show (b4 ≠ (w.heap.size + 1 + 1) ∧ b5 ≠ (w.heap.size + 1 + 1) ∧ b6 ≠ (w.heap.size + 1 + 1)) from ⟨ty_ne hB4 hx0 (by decide), ty_ne hB5 hx0 (by decide), ty_ne hB6 hx0 (by decide)⟩)
  have HB := hide hb0
  have Hgx := hide (show w.heap.size ≠ (w.heap.size + 1 + 1) from by omega)
  have HR := hide hr0
  have HX3 := hide (show Blk w3 (w.heap.size + 1 + 1) 35 ([Value.int .i64 1, .int .i64 0, .int .i64 0, .int .i64 0, .int .i64 0, .int .i64 0, .int .i64 0, .int .i64 0, .int .i64 0, .int .i64 0, .int .i64 0, .int .i64 0, .int .i64 0, .int .i64 0, .int .i64 0, .int .i64 0, .int .i64 0, .int .i64 0]).toArray from hx0)
  have H4 := hide hB4
  have H5 := hide hB5
  have H6 := hide hB6
  have HS := hide (Same.trans Hs.out hsm)
  have kb0 : w3.cell? ⟨w.heap.size, 0, none⟩ = some (Value.int .i64 1) := (HB.out).cell 0
  have kb1 : w3.cell? ⟨w.heap.size, 1, none⟩ = some (Value.int .i64 2) := (HB.out).cell 1
  have k40 : w3.cell? ⟨b4, 0, none⟩ = some (Value.int .i64 p1) := (H4.out).cell 0
  have HcX3 := hide (Chg.refl (fun k => k = (w.heap.size + 1 + 1)) w3)
  clear hR hF hFin h4 h5 h6 hx0 hb0 hr0 hB4 hB5 hB6 hz4 hz5 hz6 hsm e Hb Hr Hx
  have Hrx := hide (show w.heap.size + 1 ≠ (w.heap.size + 1 + 1) from by omega)
  have HC4 := hide (⟨by show 1 < 18; decide, rfl⟩ : CellL [Value.int .i64 1, .int .i64 0, .int .i64 0, .int .i64 0, .int .i64 0, .int .i64 0, .int .i64 0, .int .i64 0, .int .i64 0, .int .i64 0, .int .i64 0, .int .i64 0, .int .i64 0, .int .i64 0, .int .i64 0, .int .i64 0, .int .i64 0, .int .i64 0] 1 (Value.int .i64 2))
  have HC5 := hide (⟨by show 2 < 18; decide, rfl⟩ : CellL [Value.int .i64 1, .int .i64 2, .int .i64 0, .int .i64 0, .int .i64 0, .int .i64 0, .int .i64 0, .int .i64 0, .int .i64 0, .int .i64 0, .int .i64 0, .int .i64 0, .int .i64 0, .int .i64 0, .int .i64 0, .int .i64 0, .int .i64 0, .int .i64 0] 2 (Value.int .i64 p1))
  go_wp2_with (first
    | ((with_reducible refine stCg 3 (w.heap.size + 1 + 1) 1 (Value.int .i64 2) 35 [Value.int .i64 1, .int .i64 0, .int .i64 0, .int .i64 0, .int .i64 0, .int .i64 0, .int .i64 0, .int .i64 0, .int .i64 0, .int .i64 0, .int .i64 0, .int .i64 0, .int .i64 0, .int .i64 0, .int .i64 0, .int .i64 0, .int .i64 0, .int .i64 0] intSz HC4.out.one HX3.out HC4.out.lt ?_ ?_ ?_); rfl; rfl; intro w4 hc hb; clear kb0 kb1 k40; have HX4 := hide (show Blk w4 (w.heap.size + 1 + 1) 35 ([Value.int .i64 1, .int .i64 2, .int .i64 0, .int .i64 0, .int .i64 0, .int .i64 0, .int .i64 0, .int .i64 0, .int .i64 0, .int .i64 0, .int .i64 0, .int .i64 0, .int .i64 0, .int .i64 0, .int .i64 0, .int .i64 0, .int .i64 0, .int .i64 0]).toArray from hb); have hc' := Chg.trans HcX3.out hc (fun _ _ e => e); have HcX4 := hide hc'; have kb0 : w4.cell? ⟨w.heap.size, 0, none⟩ = some (Value.int .i64 1) := (HB.out.chg hc' Hgx.out).cell 0; have kb1 : w4.cell? ⟨w.heap.size, 1, none⟩ = some (Value.int .i64 2) := (HB.out.chg hc' Hgx.out).cell 1; have k40 : w4.cell? ⟨b4, 0, none⟩ = some (Value.int .i64 p1) := (H4.out.chg hc' Hne.out.1).cell 0; clear hc hc' hb)
    | ((with_reducible refine stCg 3 (w.heap.size + 1 + 1) 2 (Value.int .i64 p1) 35 [Value.int .i64 1, .int .i64 2, .int .i64 0, .int .i64 0, .int .i64 0, .int .i64 0, .int .i64 0, .int .i64 0, .int .i64 0, .int .i64 0, .int .i64 0, .int .i64 0, .int .i64 0, .int .i64 0, .int .i64 0, .int .i64 0, .int .i64 0, .int .i64 0] intSz HC5.out.one HX4.out HC5.out.lt ?_ ?_ ?_); rfl; rfl; intro w5 hc hb; clear kb0 kb1 k40; have HX5 := hide (show Blk w5 (w.heap.size + 1 + 1) 35 ([Value.int .i64 1, .int .i64 2, .int .i64 p1, .int .i64 0, .int .i64 0, .int .i64 0, .int .i64 0, .int .i64 0, .int .i64 0, .int .i64 0, .int .i64 0, .int .i64 0, .int .i64 0, .int .i64 0, .int .i64 0, .int .i64 0, .int .i64 0, .int .i64 0]).toArray from hb); have hc' := Chg.trans HcX4.out hc (fun _ _ e => e); have HcX5 := hide hc'; have kb0 : w5.cell? ⟨w.heap.size, 0, none⟩ = some (Value.int .i64 1) := (HB.out.chg hc' Hgx.out).cell 0; have kb1 : w5.cell? ⟨w.heap.size, 1, none⟩ = some (Value.int .i64 2) := (HB.out.chg hc' Hgx.out).cell 1; have k40 : w5.cell? ⟨b4, 0, none⟩ = some (Value.int .i64 p1) := (H4.out.chg hc' Hne.out.1).cell 0; clear hc hc' hb)
    | ((with_reducible refine ldR 35 (w.heap.size + 1 + 1) 0 18 [Value.int .i64 1, .int .i64 2, .int .i64 p1, .int .i64 0, .int .i64 0, .int .i64 0, .int .i64 0, .int .i64 0, .int .i64 0, .int .i64 0, .int .i64 0, .int .i64 0, .int .i64 0, .int .i64 0, .int .i64 0, .int .i64 0, .int .i64 0, .int .i64 0] rowReq HF.out.len (blk_range HX5.out) ?_ ?_ ?_); rfl; rfl)
    | ((with_reducible refine stRg 35 (w.heap.size + 1) 18 [Value.int .i64 1, .int .i64 2, .int .i64 p1, .int .i64 0, .int .i64 0, .int .i64 0, .int .i64 0, .int .i64 0, .int .i64 0, .int .i64 0, .int .i64 0, .int .i64 0, .int .i64 0, .int .i64 0, .int .i64 0, .int .i64 0, .int .i64 0, .int .i64 0] 35 _ rowReq HF.out.len ?_ (HR.out.chg HcX5.out Hrx.out) HF.out.one ?_ ?_ ?_); rfl; rfl; rfl; intro w9 hc9 hz9 hb9; have Hc9 := hide hc9; have Hb9 := hide hb9; clear hc9 hz9 hb9)
    | fail)
  refine bodyPost_ret (results_cell_row rfl _ _ _ _ _ _ _ rfl Hb9.out Tryz.underlying35 rfl (by kernel_rfl)) (by rfl) (show _ ∧ _ from ⟨rfl, ?_⟩)
  have h1 : Chg (fun k => w.heap.size ≤ k) w w3 := Same.to HS.out
  have h2 : Chg (fun k => w.heap.size ≤ k) w w5 := Chg.trans h1 HcX5.out (fun k _ e => (by have e' : k = (w.heap.size + 1 + 1) := e; omega))
  exact Chg.fresh (S := fun k => w.heap.size ≤ k) (Chg.trans h2 Hc9.out (fun k _ e => (by have e' : k = w.heap.size + 1 := e; omega))) (fun _ h => h)
set_option maxRecDepth 100000 in
set_option maxHeartbeats 8000000 in
theorem ronly_3 (qk p1 p2 p3 s1 s2 s3 a b c d e1 f g x y : Int) (w : World) :
    Calls Tryz.prog 27 #[.agg #[Value.int .i64 1, .int .i64 3, .int .i64 p1, .int .i64 p2, .int .i64 p3, .int .i64 s1, .int .i64 s2, .int .i64 s3, .int .i64 qk, .int .i64 a, .int .i64 b, .int .i64 c, .int .i64 d, .int .i64 e1, .int .i64 f, .int .i64 g, .int .i64 x, .int .i64 y]] w fun en w' => en = .returned (.agg #[Value.int .i64 1, .int .i64 3, .int .i64 0, .int .i64 0, .int .i64 0, .int .i64 s1, .int .i64 s2, .int .i64 s3, .int .i64 0, .int .i64 0, .int .i64 0, .int .i64 0, .int .i64 0, .int .i64 0, .int .i64 0, .int .i64 0, .int .i64 0, .int .i64 0]) ∧ Same w w'  := by
  have hb := (Blk.new w 35 #[Value.int .i64 1, .int .i64 3, .int .i64 p1, .int .i64 p2, .int .i64 p3, .int .i64 s1, .int .i64 s2, .int .i64 s3, .int .i64 qk, .int .i64 a, .int .i64 b, .int .i64 c, .int .i64 d, .int .i64 e1, .int .i64 f, .int .i64 g, .int .i64 x, .int .i64 y]).alloc (.cells #[Value.int .i64 0, .int .i64 0, .int .i64 0, .int .i64 0, .int .i64 0, .int .i64 0, .int .i64 0, .int .i64 0, .int .i64 0, .int .i64 0, .int .i64 0, .int .i64 0, .int .i64 0, .int .i64 0, .int .i64 0, .int .i64 0, .int .i64 0, .int .i64 0] 35)
  have hr := Blk.new (w.alloc (.cells #[Value.int .i64 1, .int .i64 3, .int .i64 p1, .int .i64 p2, .int .i64 p3, .int .i64 s1, .int .i64 s2, .int .i64 s3, .int .i64 qk, .int .i64 a, .int .i64 b, .int .i64 c, .int .i64 d, .int .i64 e1, .int .i64 f, .int .i64 g, .int .i64 x, .int .i64 y] 35)) 35 #[Value.int .i64 0, .int .i64 0, .int .i64 0, .int .i64 0, .int .i64 0, .int .i64 0, .int .i64 0, .int .i64 0, .int .i64 0, .int .i64 0, .int .i64 0, .int .i64 0, .int .i64 0, .int .i64 0, .int .i64 0, .int .i64 0, .int .i64 0, .int .i64 0]
  simp only [World.size_alloc] at hr
  have hs : Same w ((w.alloc (.cells #[Value.int .i64 1, .int .i64 3, .int .i64 p1, .int .i64 p2, .int .i64 p3, .int .i64 s1, .int .i64 s2, .int .i64 s3, .int .i64 qk, .int .i64 a, .int .i64 b, .int .i64 c, .int .i64 d, .int .i64 e1, .int .i64 f, .int .i64 g, .int .i64 x, .int .i64 y] 35)).alloc (.cells #[Value.int .i64 0, .int .i64 0, .int .i64 0, .int .i64 0, .int .i64 0, .int .i64 0, .int .i64 0, .int .i64 0, .int .i64 0, .int .i64 0, .int .i64 0, .int .i64 0, .int .i64 0, .int .i64 0, .int .i64 0, .int .i64 0, .int .i64 0, .int .i64 0] 35)) := ((Chg.refl _ w).alloc _).alloc _
  have Hb0 := hide hb
  have Hr0 := hide hr
  have Hs0 := hide hs
  have HXL := hide (RowL.lit rfl rfl : RowL [Value.int .i64 1, .int .i64 0, .int .i64 0, .int .i64 0, .int .i64 0, .int .i64 0, .int .i64 0, .int .i64 0, .int .i64 0, .int .i64 0, .int .i64 0, .int .i64 0, .int .i64 0, .int .i64 0, .int .i64 0, .int .i64 0, .int .i64 0, .int .i64 0] 18)
  clear hb hr hs
  go_enter Tryz.func27, Tryz.ntmps27
  go_wp2_with (first
    | ((with_reducible refine stNg 35 18 [Value.int .i64 1, .int .i64 0, .int .i64 0, .int .i64 0, .int .i64 0, .int .i64 0, .int .i64 0, .int .i64 0, .int .i64 0, .int .i64 0, .int .i64 0, .int .i64 0, .int .i64 0, .int .i64 0, .int .i64 0, .int .i64 0, .int .i64 0, .int .i64 0] 35 _ rowReq HXL.out.len ?_ HXL.out.one ?_ ?_ ?_); rfl; (simp only [World.size_alloc]; rfl); rfl; intro w0 hs1 hz1 hb1; simp only [World.size_alloc] at hb1; have Hs := hide (Same.trans Hs0.out hs1); have Hx := hide (show Blk w0 (w.heap.size + 1 + 1) 35 #[Value.int .i64 1, .int .i64 0, .int .i64 0, .int .i64 0, .int .i64 0, .int .i64 0, .int .i64 0, .int .i64 0, .int .i64 0, .int .i64 0, .int .i64 0, .int .i64 0, .int .i64 0, .int .i64 0, .int .i64 0, .int .i64 0, .int .i64 0, .int .i64 0] from hb1); have Hb := hide (Hb0.out.same hs1); have Hr := hide (Hr0.out.same hs1); clear hs1 hz1 hb1)
    | fail)
  clear Hs0 Hb0 Hr0 HXL
  have HP := hide (RowL.lit rfl rfl : RowL [Value.int .i64 p1, .int .i64 p2, .int .i64 p3] 3)
  have HSp := hide (RowL.lit rfl rfl : RowL [Value.int .i64 s1, .int .i64 s2, .int .i64 s3] 3)
  have HQ := hide (RowL.lit rfl rfl : RowL [Value.int .i64 qk, .int .i64 a, .int .i64 b, .int .i64 c, .int .i64 d, .int .i64 e1, .int .i64 f, .int .i64 g, .int .i64 x, .int .i64 y] 10)
  have HF := hide (RowL.lit rfl rfl : RowL [Value.int .i64 1, .int .i64 3, .int .i64 0, .int .i64 0, .int .i64 0, .int .i64 s1, .int .i64 s2, .int .i64 s3, .int .i64 0, .int .i64 0, .int .i64 0, .int .i64 0, .int .i64 0, .int .i64 0, .int .i64 0, .int .i64 0, .int .i64 0, .int .i64 0] 18)
  refine wp_region_mixT (fun k => if k = 11 then some 23 else if k = 12 then some 25 else if k = 13 then some 33 else none) 14 (by kernel_rfl) (by kernel_rfl) fun Fin hFin => ?_
  simp only [List.take_succ_cons, List.take_zero]
  iterate 2 (
      (refine mix_lit ?_ ?_ (fun w => RkT.of_same (Chg.refl _ w)) ?_ ?_ ?_ ?_
       rotate_left; rotate_left
       · intro e w1 hR hF K hK; (skip); go_simp; (refine hK _ _ (RkT.of_same (Chg.refl _ _)) ?_; rfl)
       · intro e; simp only [Act.put, List.setIfInBounds_toArray, List.set_cons_zero, List.set_cons_succ]; rfl
       · exact Loc.const _ _))
  refine mix_ld [Value.int .i64 p1, .int .i64 p2, .int .i64 p3] ?_ (fun w => RkT.of_same (Chg.refl _ w)) (fun _ => by rfl) 23 _ rfl w.heap.size 2 (fun _ => by rfl) _ (fun w1 hR => rangeAt_blk [Value.int .i64 1, .int .i64 3] [Value.int .i64 p1, .int .i64 p2, .int .i64 p3] [Value.int .i64 s1, .int .i64 s2, .int .i64 s3, .int .i64 qk, .int .i64 a, .int .i64 b, .int .i64 c, .int .i64 d, .int .i64 e1, .int .i64 f, .int .i64 g, .int .i64 x, .int .i64 y] (Hb.out.same (RT.same hR))) Tryz.underlying23 rfl (by kernel_rfl) ?_ ?_
  rotate_left
  · intro e; simp only [Act.put, List.setIfInBounds_toArray, List.set_cons_zero, List.set_cons_succ]; rfl
  iterate 2 (
      (refine mix_lit ?_ ?_ (fun w => RkT.of_same (Chg.refl _ w)) ?_ ?_ ?_ ?_
       rotate_left; rotate_left
       · intro e w1 hR hF K hK; (skip); go_simp; (refine hK _ _ (RkT.of_same (Chg.refl _ _)) ?_; rfl)
       · intro e; simp only [Act.put, List.setIfInBounds_toArray, List.set_cons_zero, List.set_cons_succ]; rfl
       · exact Loc.const _ _))
  refine mix_ld [Value.int .i64 s1, .int .i64 s2, .int .i64 s3] ?_ (fun w => RkT.of_same (Chg.refl _ w)) (fun _ => by rfl) 25 _ rfl w.heap.size 5 (fun _ => by rfl) _ (fun w1 hR => rangeAt_blk [Value.int .i64 1, .int .i64 3, .int .i64 p1, .int .i64 p2, .int .i64 p3] [Value.int .i64 s1, .int .i64 s2, .int .i64 s3] [Value.int .i64 qk, .int .i64 a, .int .i64 b, .int .i64 c, .int .i64 d, .int .i64 e1, .int .i64 f, .int .i64 g, .int .i64 x, .int .i64 y] (Hb.out.same (RT.same hR))) Tryz.underlying25 rfl (by kernel_rfl) ?_ ?_
  rotate_left
  · intro e; simp only [Act.put, List.setIfInBounds_toArray, List.set_cons_zero, List.set_cons_succ]; rfl
  iterate 1 (
      (refine mix_lit ?_ ?_ (fun w => RkT.of_same (Chg.refl _ w)) ?_ ?_ ?_ ?_
       rotate_left; rotate_left
       · intro e w1 hR hF K hK; (skip); go_simp; (refine hK _ _ (RkT.of_same (Chg.refl _ _)) ?_; rfl)
       · intro e; simp only [Act.put, List.setIfInBounds_toArray, List.set_cons_zero, List.set_cons_succ]; rfl
       · exact Loc.const _ _))
  refine mix_ld [Value.int .i64 qk, .int .i64 a, .int .i64 b, .int .i64 c, .int .i64 d, .int .i64 e1, .int .i64 f, .int .i64 g, .int .i64 x, .int .i64 y] ?_ (fun w => RkT.of_same (Chg.refl _ w)) (fun _ => by rfl) 33 _ rfl w.heap.size 8 (fun _ => by rfl) _ (fun w1 hR => rangeAt_blk [Value.int .i64 1, .int .i64 3, .int .i64 p1, .int .i64 p2, .int .i64 p3, .int .i64 s1, .int .i64 s2, .int .i64 s3] [Value.int .i64 qk, .int .i64 a, .int .i64 b, .int .i64 c, .int .i64 d, .int .i64 e1, .int .i64 f, .int .i64 g, .int .i64 x, .int .i64 y] [] (Hb.out.same (RT.same hR))) Tryz.underlying33 rfl (by kernel_rfl) ?_ ?_
  rotate_left
  · intro e; simp only [Act.put, List.setIfInBounds_toArray, List.set_cons_zero, List.set_cons_succ]; rfl
  refine mix_let (fun _ v w9 => NewB w0 23 3 v w9) ?_ (by exact Loc.const _ _) (fun i _ _ e u w w' hr h => h.keep hr.keep) ?_ ?_ ?_ ?_
  rotate_left
  · intro e; rfl
  · intro e w9 hR hF K hK; go_simp; exact hK _ _ _ (RkT.of_same ((Chg.refl _ _).alloc _)) ⟨_, rfl, Chg.size hR, _, rfl, Blk.new _ _ _⟩ (by simp only [Act.put, List.setIfInBounds_toArray, List.set_cons_zero, List.set_cons_succ])
  · intro e; simp only [Act.put, List.setIfInBounds_toArray, List.set_cons_zero, List.set_cons_succ]; rfl
  refine mix_let (fun _ v w9 => NewB w0 25 3 v w9) ?_ (by exact Loc.const _ _) (fun i _ _ e u w w' hr h => h.keep hr.keep) ?_ ?_ ?_ ?_
  rotate_left
  · intro e; rfl
  · intro e w9 hR hF K hK; go_simp; exact hK _ _ _ (RkT.of_same ((Chg.refl _ _).alloc _)) ⟨_, rfl, Chg.size hR, _, rfl, Blk.new _ _ _⟩ (by simp only [Act.put, List.setIfInBounds_toArray, List.set_cons_zero, List.set_cons_succ])
  · intro e; simp only [Act.put, List.setIfInBounds_toArray, List.set_cons_zero, List.set_cons_succ]; rfl
  refine mix_let (fun _ v w9 => NewB w0 33 10 v w9) ?_ (by exact Loc.const _ _) (fun i _ _ e u w w' hr h => h.keep hr.keep) ?_ ?_ ?_ ?_
  rotate_left
  · intro e; rfl
  · intro e w9 hR hF K hK; go_simp; exact hK _ _ _ (RkT.of_same ((Chg.refl _ _).alloc _)) ⟨_, rfl, Chg.size hR, _, rfl, Blk.new _ _ _⟩ (by simp only [Act.put, List.setIfInBounds_toArray, List.set_cons_zero, List.set_cons_succ])
  · intro e; simp only [Act.put, List.setIfInBounds_toArray, List.set_cons_zero, List.set_cons_succ]; rfl
  refine mt_st 8 23 3 [Value.int .i64 p1, .int .i64 p2, .int .i64 p3] ?_ (by rfl) rowPt.sz HP.out.len HP.out.one (fun _ => by rfl) (fun _ => by rfl) (fun _ => by rfl) (by kernel_rfl) (fun e w h => h) (by rfl) (by intro i hi h; (repeat' split at h) <;> first | omega | (cases h; done) | exact absurd h (by decide)) ?_ ?_
  rotate_left
  · intro e; rfl
  refine mt_st 9 25 3 [Value.int .i64 s1, .int .i64 s2, .int .i64 s3] ?_ (by rfl) rowSp.sz HSp.out.len HSp.out.one (fun _ => by rfl) (fun _ => by rfl) (fun _ => by rfl) (by kernel_rfl) (fun e w h => h) (by rfl) (by intro i hi h; (repeat' split at h) <;> first | omega | (cases h; done) | exact absurd h (by decide)) ?_ ?_
  rotate_left
  · intro e; rfl
  refine mt_st 10 33 10 [Value.int .i64 qk, .int .i64 a, .int .i64 b, .int .i64 c, .int .i64 d, .int .i64 e1, .int .i64 f, .int .i64 g, .int .i64 x, .int .i64 y] ?_ (by rfl) rowQry.sz HQ.out.len HQ.out.one (fun _ => by rfl) (fun _ => by rfl) (fun _ => by rfl) (by kernel_rfl) (fun e w h => h) (by rfl) (by intro i hi h; (repeat' split at h) <;> first | omega | (cases h; done) | exact absurd h (by decide)) ?_ ?_
  rotate_left
  · intro e; rfl
  refine mix_nil fun e w3 hR hF => hFin _ _ ?_
  simp only [List.drop_succ_cons, List.drop_zero]
  obtain ⟨b4, h4, hz4, hB4⟩ := (show PutB w0 23 [Value.int .i64 p1, .int .i64 p2, .int .i64 p3] (e 8) w3 from hF 11 (by decide))
  obtain ⟨b5, h5, hz5, hB5⟩ := (show PutB w0 25 [Value.int .i64 s1, .int .i64 s2, .int .i64 s3] (e 9) w3 from hF 12 (by decide))
  obtain ⟨b6, h6, hz6, hB6⟩ := (show PutB w0 33 [Value.int .i64 qk, .int .i64 a, .int .i64 b, .int .i64 c, .int .i64 d, .int .i64 e1, .int .i64 f, .int .i64 g, .int .i64 x, .int .i64 y] (e 10) w3 from hF 13 (by decide))
  rw [h4, h5, h6]
  have hsm := RT.same hR
  have hx0 := Hx.out.same hsm
  have hb0 := Hb.out.same hsm
  have hr0 := Hr.out.same hsm
  have Hne := hide (show (b4 ≠ (w.heap.size + 1 + 1) ∧ b5 ≠ (w.heap.size + 1 + 1) ∧ b6 ≠ (w.heap.size + 1 + 1)) from ⟨ty_ne hB4 hx0 (by decide), ty_ne hB5 hx0 (by decide), ty_ne hB6 hx0 (by decide)⟩)
  have HB := hide hb0
  have Hgx := hide (show w.heap.size ≠ (w.heap.size + 1 + 1) from by omega)
  have HR := hide hr0
  have HX3 := hide (show Blk w3 (w.heap.size + 1 + 1) 35 ([Value.int .i64 1, .int .i64 0, .int .i64 0, .int .i64 0, .int .i64 0, .int .i64 0, .int .i64 0, .int .i64 0, .int .i64 0, .int .i64 0, .int .i64 0, .int .i64 0, .int .i64 0, .int .i64 0, .int .i64 0, .int .i64 0, .int .i64 0, .int .i64 0]).toArray from hx0)
  have H4 := hide hB4
  have H5 := hide hB5
  have H6 := hide hB6
  have HS := hide (Same.trans Hs.out hsm)
  have kb0 : w3.cell? ⟨w.heap.size, 0, none⟩ = some (Value.int .i64 1) := (HB.out).cell 0
  have kb1 : w3.cell? ⟨w.heap.size, 1, none⟩ = some (Value.int .i64 3) := (HB.out).cell 1
  have HcX3 := hide (Chg.refl (fun k => k = (w.heap.size + 1 + 1)) w3)
  clear hR hF hFin h4 h5 h6 hx0 hb0 hr0 hB4 hB5 hB6 hz4 hz5 hz6 hsm e Hb Hr Hx
  have Hrx := hide (show w.heap.size + 1 ≠ (w.heap.size + 1 + 1) from by omega)
  have HC4 := hide (⟨by show 1 < 18; decide, rfl⟩ : CellL [Value.int .i64 1, .int .i64 0, .int .i64 0, .int .i64 0, .int .i64 0, .int .i64 0, .int .i64 0, .int .i64 0, .int .i64 0, .int .i64 0, .int .i64 0, .int .i64 0, .int .i64 0, .int .i64 0, .int .i64 0, .int .i64 0, .int .i64 0, .int .i64 0] 1 (Value.int .i64 3))
  have HV5 := hide (RowL.lit rfl rfl : RowL [Value.int .i64 s1, .int .i64 s2, .int .i64 s3] 3)
  have HZ5 := hide (RowL.lit rfl rfl : RowL [Value.int .i64 0, .int .i64 0, .int .i64 0] 3)
  have HO5 := hide (RowL.lit rfl rfl : RowL [Value.int .i64 1, .int .i64 3, .int .i64 0, .int .i64 0, .int .i64 0] 5)
  go_wp2_with (first
    | ((with_reducible refine stCg 3 (w.heap.size + 1 + 1) 1 (Value.int .i64 3) 35 [Value.int .i64 1, .int .i64 0, .int .i64 0, .int .i64 0, .int .i64 0, .int .i64 0, .int .i64 0, .int .i64 0, .int .i64 0, .int .i64 0, .int .i64 0, .int .i64 0, .int .i64 0, .int .i64 0, .int .i64 0, .int .i64 0, .int .i64 0, .int .i64 0] intSz HC4.out.one HX3.out HC4.out.lt ?_ ?_ ?_); rfl; rfl; intro w4 hc hb; clear kb0 kb1; have HX4 := hide (show Blk w4 (w.heap.size + 1 + 1) 35 ([Value.int .i64 1, .int .i64 3, .int .i64 0, .int .i64 0, .int .i64 0] ++ [Value.int .i64 0, .int .i64 0, .int .i64 0] ++ [Value.int .i64 0, .int .i64 0, .int .i64 0, .int .i64 0, .int .i64 0, .int .i64 0, .int .i64 0, .int .i64 0, .int .i64 0, .int .i64 0]).toArray from hb); have hc' := Chg.trans HcX3.out hc (fun _ _ e => e); have HcX4 := hide hc'; have kb0 : w4.cell? ⟨w.heap.size, 0, none⟩ = some (Value.int .i64 1) := (HB.out.chg hc' Hgx.out).cell 0; have kb1 : w4.cell? ⟨w.heap.size, 1, none⟩ = some (Value.int .i64 3) := (HB.out.chg hc' Hgx.out).cell 1; clear hc hc' hb)
    | ((with_reducible refine ldR 25 b5 0 3 [Value.int .i64 s1, .int .i64 s2, .int .i64 s3] rowSp HV5.out.len (rangeAt_blk [] [Value.int .i64 s1, .int .i64 s2, .int .i64 s3] [] (H5.out.chg HcX4.out Hne.out.2.1)) ?_ ?_ ?_); rfl; rfl)
    | ((with_reducible refine stMg 25 (w.heap.size + 1 + 1) 5 3 [Value.int .i64 1, .int .i64 3, .int .i64 0, .int .i64 0, .int .i64 0] [Value.int .i64 0, .int .i64 0, .int .i64 0] [Value.int .i64 0, .int .i64 0, .int .i64 0, .int .i64 0, .int .i64 0, .int .i64 0, .int .i64 0, .int .i64 0, .int .i64 0, .int .i64 0] [Value.int .i64 s1, .int .i64 s2, .int .i64 s3] 35 rowSp HV5.out.len HZ5.out.len HO5.out.len HX4.out HV5.out.one ?_ ?_ ?_); rfl; rfl; intro w5 hc hb; clear kb0 kb1; have HX5 := hide (show Blk w5 (w.heap.size + 1 + 1) 35 ([Value.int .i64 1, .int .i64 3, .int .i64 0, .int .i64 0, .int .i64 0, .int .i64 s1, .int .i64 s2, .int .i64 s3, .int .i64 0, .int .i64 0, .int .i64 0, .int .i64 0, .int .i64 0, .int .i64 0, .int .i64 0, .int .i64 0, .int .i64 0, .int .i64 0]).toArray from hb); have hc' := Chg.trans HcX4.out hc (fun _ _ e => e); have HcX5 := hide hc'; have kb0 : w5.cell? ⟨w.heap.size, 0, none⟩ = some (Value.int .i64 1) := (HB.out.chg hc' Hgx.out).cell 0; have kb1 : w5.cell? ⟨w.heap.size, 1, none⟩ = some (Value.int .i64 3) := (HB.out.chg hc' Hgx.out).cell 1; clear hc hc' hb)
    | ((with_reducible refine ldR 35 (w.heap.size + 1 + 1) 0 18 [Value.int .i64 1, .int .i64 3, .int .i64 0, .int .i64 0, .int .i64 0, .int .i64 s1, .int .i64 s2, .int .i64 s3, .int .i64 0, .int .i64 0, .int .i64 0, .int .i64 0, .int .i64 0, .int .i64 0, .int .i64 0, .int .i64 0, .int .i64 0, .int .i64 0] rowReq HF.out.len (blk_range HX5.out) ?_ ?_ ?_); rfl; rfl)
    | ((with_reducible refine stRg 35 (w.heap.size + 1) 18 [Value.int .i64 1, .int .i64 3, .int .i64 0, .int .i64 0, .int .i64 0, .int .i64 s1, .int .i64 s2, .int .i64 s3, .int .i64 0, .int .i64 0, .int .i64 0, .int .i64 0, .int .i64 0, .int .i64 0, .int .i64 0, .int .i64 0, .int .i64 0, .int .i64 0] 35 _ rowReq HF.out.len ?_ (HR.out.chg HcX5.out Hrx.out) HF.out.one ?_ ?_ ?_); rfl; rfl; rfl; intro w9 hc9 hz9 hb9; have Hc9 := hide hc9; have Hb9 := hide hb9; clear hc9 hz9 hb9)
    | fail)
  refine bodyPost_ret (results_cell_row rfl _ _ _ _ _ _ _ rfl Hb9.out Tryz.underlying35 rfl (by kernel_rfl)) (by rfl) (show _ ∧ _ from ⟨rfl, ?_⟩)
  have h1 : Chg (fun k => w.heap.size ≤ k) w w3 := Same.to HS.out
  have h2 : Chg (fun k => w.heap.size ≤ k) w w5 := Chg.trans h1 HcX5.out (fun k _ e => (by have e' : k = (w.heap.size + 1 + 1) := e; omega))
  exact Chg.fresh (S := fun k => w.heap.size ≤ k) (Chg.trans h2 Hc9.out (fun k _ e => (by have e' : k = w.heap.size + 1 := e; omega))) (fun _ h => h)
set_option maxRecDepth 100000 in
set_option maxHeartbeats 8000000 in
theorem ronly_4 (qk p1 p2 p3 s1 s2 s3 a b c d e1 f g x y : Int) (w : World) :
    Calls Tryz.prog 27 #[.agg #[Value.int .i64 1, .int .i64 4, .int .i64 p1, .int .i64 p2, .int .i64 p3, .int .i64 s1, .int .i64 s2, .int .i64 s3, .int .i64 qk, .int .i64 a, .int .i64 b, .int .i64 c, .int .i64 d, .int .i64 e1, .int .i64 f, .int .i64 g, .int .i64 x, .int .i64 y]] w fun en w' => en = .returned (.agg #[Value.int .i64 1, .int .i64 4, .int .i64 0, .int .i64 0, .int .i64 0, .int .i64 s1, .int .i64 0, .int .i64 0, .int .i64 0, .int .i64 0, .int .i64 0, .int .i64 0, .int .i64 0, .int .i64 0, .int .i64 0, .int .i64 0, .int .i64 0, .int .i64 0]) ∧ Same w w'  := by
  have hb := (Blk.new w 35 #[Value.int .i64 1, .int .i64 4, .int .i64 p1, .int .i64 p2, .int .i64 p3, .int .i64 s1, .int .i64 s2, .int .i64 s3, .int .i64 qk, .int .i64 a, .int .i64 b, .int .i64 c, .int .i64 d, .int .i64 e1, .int .i64 f, .int .i64 g, .int .i64 x, .int .i64 y]).alloc (.cells #[Value.int .i64 0, .int .i64 0, .int .i64 0, .int .i64 0, .int .i64 0, .int .i64 0, .int .i64 0, .int .i64 0, .int .i64 0, .int .i64 0, .int .i64 0, .int .i64 0, .int .i64 0, .int .i64 0, .int .i64 0, .int .i64 0, .int .i64 0, .int .i64 0] 35)
  have hr := Blk.new (w.alloc (.cells #[Value.int .i64 1, .int .i64 4, .int .i64 p1, .int .i64 p2, .int .i64 p3, .int .i64 s1, .int .i64 s2, .int .i64 s3, .int .i64 qk, .int .i64 a, .int .i64 b, .int .i64 c, .int .i64 d, .int .i64 e1, .int .i64 f, .int .i64 g, .int .i64 x, .int .i64 y] 35)) 35 #[Value.int .i64 0, .int .i64 0, .int .i64 0, .int .i64 0, .int .i64 0, .int .i64 0, .int .i64 0, .int .i64 0, .int .i64 0, .int .i64 0, .int .i64 0, .int .i64 0, .int .i64 0, .int .i64 0, .int .i64 0, .int .i64 0, .int .i64 0, .int .i64 0]
  simp only [World.size_alloc] at hr
  have hs : Same w ((w.alloc (.cells #[Value.int .i64 1, .int .i64 4, .int .i64 p1, .int .i64 p2, .int .i64 p3, .int .i64 s1, .int .i64 s2, .int .i64 s3, .int .i64 qk, .int .i64 a, .int .i64 b, .int .i64 c, .int .i64 d, .int .i64 e1, .int .i64 f, .int .i64 g, .int .i64 x, .int .i64 y] 35)).alloc (.cells #[Value.int .i64 0, .int .i64 0, .int .i64 0, .int .i64 0, .int .i64 0, .int .i64 0, .int .i64 0, .int .i64 0, .int .i64 0, .int .i64 0, .int .i64 0, .int .i64 0, .int .i64 0, .int .i64 0, .int .i64 0, .int .i64 0, .int .i64 0, .int .i64 0] 35)) := ((Chg.refl _ w).alloc _).alloc _
  have Hb0 := hide hb
  have Hr0 := hide hr
  have Hs0 := hide hs
  have HXL := hide (RowL.lit rfl rfl : RowL [Value.int .i64 1, .int .i64 0, .int .i64 0, .int .i64 0, .int .i64 0, .int .i64 0, .int .i64 0, .int .i64 0, .int .i64 0, .int .i64 0, .int .i64 0, .int .i64 0, .int .i64 0, .int .i64 0, .int .i64 0, .int .i64 0, .int .i64 0, .int .i64 0] 18)
  clear hb hr hs
  go_enter Tryz.func27, Tryz.ntmps27
  go_wp2_with (first
    | ((with_reducible refine stNg 35 18 [Value.int .i64 1, .int .i64 0, .int .i64 0, .int .i64 0, .int .i64 0, .int .i64 0, .int .i64 0, .int .i64 0, .int .i64 0, .int .i64 0, .int .i64 0, .int .i64 0, .int .i64 0, .int .i64 0, .int .i64 0, .int .i64 0, .int .i64 0, .int .i64 0] 35 _ rowReq HXL.out.len ?_ HXL.out.one ?_ ?_ ?_); rfl; (simp only [World.size_alloc]; rfl); rfl; intro w0 hs1 hz1 hb1; simp only [World.size_alloc] at hb1; have Hs := hide (Same.trans Hs0.out hs1); have Hx := hide (show Blk w0 (w.heap.size + 1 + 1) 35 #[Value.int .i64 1, .int .i64 0, .int .i64 0, .int .i64 0, .int .i64 0, .int .i64 0, .int .i64 0, .int .i64 0, .int .i64 0, .int .i64 0, .int .i64 0, .int .i64 0, .int .i64 0, .int .i64 0, .int .i64 0, .int .i64 0, .int .i64 0, .int .i64 0] from hb1); have Hb := hide (Hb0.out.same hs1); have Hr := hide (Hr0.out.same hs1); clear hs1 hz1 hb1)
    | fail)
  clear Hs0 Hb0 Hr0 HXL
  have HP := hide (RowL.lit rfl rfl : RowL [Value.int .i64 p1, .int .i64 p2, .int .i64 p3] 3)
  have HSp := hide (RowL.lit rfl rfl : RowL [Value.int .i64 s1, .int .i64 s2, .int .i64 s3] 3)
  have HQ := hide (RowL.lit rfl rfl : RowL [Value.int .i64 qk, .int .i64 a, .int .i64 b, .int .i64 c, .int .i64 d, .int .i64 e1, .int .i64 f, .int .i64 g, .int .i64 x, .int .i64 y] 10)
  have HF := hide (RowL.lit rfl rfl : RowL [Value.int .i64 1, .int .i64 4, .int .i64 0, .int .i64 0, .int .i64 0, .int .i64 s1, .int .i64 0, .int .i64 0, .int .i64 0, .int .i64 0, .int .i64 0, .int .i64 0, .int .i64 0, .int .i64 0, .int .i64 0, .int .i64 0, .int .i64 0, .int .i64 0] 18)
  refine wp_region_mixT (fun k => if k = 11 then some 23 else if k = 12 then some 25 else if k = 13 then some 33 else none) 14 (by kernel_rfl) (by kernel_rfl) fun Fin hFin => ?_
  simp only [List.take_succ_cons, List.take_zero]
  iterate 2 (
      (refine mix_lit ?_ ?_ (fun w => RkT.of_same (Chg.refl _ w)) ?_ ?_ ?_ ?_
       rotate_left; rotate_left
       · intro e w1 hR hF K hK; (skip); go_simp; (refine hK _ _ (RkT.of_same (Chg.refl _ _)) ?_; rfl)
       · intro e; simp only [Act.put, List.setIfInBounds_toArray, List.set_cons_zero, List.set_cons_succ]; rfl
       · exact Loc.const _ _))
  refine mix_ld [Value.int .i64 p1, .int .i64 p2, .int .i64 p3] ?_ (fun w => RkT.of_same (Chg.refl _ w)) (fun _ => by rfl) 23 _ rfl w.heap.size 2 (fun _ => by rfl) _ (fun w1 hR => rangeAt_blk [Value.int .i64 1, .int .i64 4] [Value.int .i64 p1, .int .i64 p2, .int .i64 p3] [Value.int .i64 s1, .int .i64 s2, .int .i64 s3, .int .i64 qk, .int .i64 a, .int .i64 b, .int .i64 c, .int .i64 d, .int .i64 e1, .int .i64 f, .int .i64 g, .int .i64 x, .int .i64 y] (Hb.out.same (RT.same hR))) Tryz.underlying23 rfl (by kernel_rfl) ?_ ?_
  rotate_left
  · intro e; simp only [Act.put, List.setIfInBounds_toArray, List.set_cons_zero, List.set_cons_succ]; rfl
  iterate 2 (
      (refine mix_lit ?_ ?_ (fun w => RkT.of_same (Chg.refl _ w)) ?_ ?_ ?_ ?_
       rotate_left; rotate_left
       · intro e w1 hR hF K hK; (skip); go_simp; (refine hK _ _ (RkT.of_same (Chg.refl _ _)) ?_; rfl)
       · intro e; simp only [Act.put, List.setIfInBounds_toArray, List.set_cons_zero, List.set_cons_succ]; rfl
       · exact Loc.const _ _))
  refine mix_ld [Value.int .i64 s1, .int .i64 s2, .int .i64 s3] ?_ (fun w => RkT.of_same (Chg.refl _ w)) (fun _ => by rfl) 25 _ rfl w.heap.size 5 (fun _ => by rfl) _ (fun w1 hR => rangeAt_blk [Value.int .i64 1, .int .i64 4, .int .i64 p1, .int .i64 p2, .int .i64 p3] [Value.int .i64 s1, .int .i64 s2, .int .i64 s3] [Value.int .i64 qk, .int .i64 a, .int .i64 b, .int .i64 c, .int .i64 d, .int .i64 e1, .int .i64 f, .int .i64 g, .int .i64 x, .int .i64 y] (Hb.out.same (RT.same hR))) Tryz.underlying25 rfl (by kernel_rfl) ?_ ?_
  rotate_left
  · intro e; simp only [Act.put, List.setIfInBounds_toArray, List.set_cons_zero, List.set_cons_succ]; rfl
  iterate 1 (
      (refine mix_lit ?_ ?_ (fun w => RkT.of_same (Chg.refl _ w)) ?_ ?_ ?_ ?_
       rotate_left; rotate_left
       · intro e w1 hR hF K hK; (skip); go_simp; (refine hK _ _ (RkT.of_same (Chg.refl _ _)) ?_; rfl)
       · intro e; simp only [Act.put, List.setIfInBounds_toArray, List.set_cons_zero, List.set_cons_succ]; rfl
       · exact Loc.const _ _))
  refine mix_ld [Value.int .i64 qk, .int .i64 a, .int .i64 b, .int .i64 c, .int .i64 d, .int .i64 e1, .int .i64 f, .int .i64 g, .int .i64 x, .int .i64 y] ?_ (fun w => RkT.of_same (Chg.refl _ w)) (fun _ => by rfl) 33 _ rfl w.heap.size 8 (fun _ => by rfl) _ (fun w1 hR => rangeAt_blk [Value.int .i64 1, .int .i64 4, .int .i64 p1, .int .i64 p2, .int .i64 p3, .int .i64 s1, .int .i64 s2, .int .i64 s3] [Value.int .i64 qk, .int .i64 a, .int .i64 b, .int .i64 c, .int .i64 d, .int .i64 e1, .int .i64 f, .int .i64 g, .int .i64 x, .int .i64 y] [] (Hb.out.same (RT.same hR))) Tryz.underlying33 rfl (by kernel_rfl) ?_ ?_
  rotate_left
  · intro e; simp only [Act.put, List.setIfInBounds_toArray, List.set_cons_zero, List.set_cons_succ]; rfl
  refine mix_let (fun _ v w9 => NewB w0 23 3 v w9) ?_ (by exact Loc.const _ _) (fun i _ _ e u w w' hr h => h.keep hr.keep) ?_ ?_ ?_ ?_
  rotate_left
  · intro e; rfl
  · intro e w9 hR hF K hK; go_simp; exact hK _ _ _ (RkT.of_same ((Chg.refl _ _).alloc _)) ⟨_, rfl, Chg.size hR, _, rfl, Blk.new _ _ _⟩ (by simp only [Act.put, List.setIfInBounds_toArray, List.set_cons_zero, List.set_cons_succ])
  · intro e; simp only [Act.put, List.setIfInBounds_toArray, List.set_cons_zero, List.set_cons_succ]; rfl
  refine mix_let (fun _ v w9 => NewB w0 25 3 v w9) ?_ (by exact Loc.const _ _) (fun i _ _ e u w w' hr h => h.keep hr.keep) ?_ ?_ ?_ ?_
  rotate_left
  · intro e; rfl
  · intro e w9 hR hF K hK; go_simp; exact hK _ _ _ (RkT.of_same ((Chg.refl _ _).alloc _)) ⟨_, rfl, Chg.size hR, _, rfl, Blk.new _ _ _⟩ (by simp only [Act.put, List.setIfInBounds_toArray, List.set_cons_zero, List.set_cons_succ])
  · intro e; simp only [Act.put, List.setIfInBounds_toArray, List.set_cons_zero, List.set_cons_succ]; rfl
  refine mix_let (fun _ v w9 => NewB w0 33 10 v w9) ?_ (by exact Loc.const _ _) (fun i _ _ e u w w' hr h => h.keep hr.keep) ?_ ?_ ?_ ?_
  rotate_left
  · intro e; rfl
  · intro e w9 hR hF K hK; go_simp; exact hK _ _ _ (RkT.of_same ((Chg.refl _ _).alloc _)) ⟨_, rfl, Chg.size hR, _, rfl, Blk.new _ _ _⟩ (by simp only [Act.put, List.setIfInBounds_toArray, List.set_cons_zero, List.set_cons_succ])
  · intro e; simp only [Act.put, List.setIfInBounds_toArray, List.set_cons_zero, List.set_cons_succ]; rfl
  refine mt_st 8 23 3 [Value.int .i64 p1, .int .i64 p2, .int .i64 p3] ?_ (by rfl) rowPt.sz HP.out.len HP.out.one (fun _ => by rfl) (fun _ => by rfl) (fun _ => by rfl) (by kernel_rfl) (fun e w h => h) (by rfl) (by intro i hi h; (repeat' split at h) <;> first | omega | (cases h; done) | exact absurd h (by decide)) ?_ ?_
  rotate_left
  · intro e; rfl
  refine mt_st 9 25 3 [Value.int .i64 s1, .int .i64 s2, .int .i64 s3] ?_ (by rfl) rowSp.sz HSp.out.len HSp.out.one (fun _ => by rfl) (fun _ => by rfl) (fun _ => by rfl) (by kernel_rfl) (fun e w h => h) (by rfl) (by intro i hi h; (repeat' split at h) <;> first | omega | (cases h; done) | exact absurd h (by decide)) ?_ ?_
  rotate_left
  · intro e; rfl
  refine mt_st 10 33 10 [Value.int .i64 qk, .int .i64 a, .int .i64 b, .int .i64 c, .int .i64 d, .int .i64 e1, .int .i64 f, .int .i64 g, .int .i64 x, .int .i64 y] ?_ (by rfl) rowQry.sz HQ.out.len HQ.out.one (fun _ => by rfl) (fun _ => by rfl) (fun _ => by rfl) (by kernel_rfl) (fun e w h => h) (by rfl) (by intro i hi h; (repeat' split at h) <;> first | omega | (cases h; done) | exact absurd h (by decide)) ?_ ?_
  rotate_left
  · intro e; rfl
  refine mix_nil fun e w3 hR hF => hFin _ _ ?_
  simp only [List.drop_succ_cons, List.drop_zero]
  obtain ⟨b4, h4, hz4, hB4⟩ := (show PutB w0 23 [Value.int .i64 p1, .int .i64 p2, .int .i64 p3] (e 8) w3 from hF 11 (by decide))
  obtain ⟨b5, h5, hz5, hB5⟩ := (show PutB w0 25 [Value.int .i64 s1, .int .i64 s2, .int .i64 s3] (e 9) w3 from hF 12 (by decide))
  obtain ⟨b6, h6, hz6, hB6⟩ := (show PutB w0 33 [Value.int .i64 qk, .int .i64 a, .int .i64 b, .int .i64 c, .int .i64 d, .int .i64 e1, .int .i64 f, .int .i64 g, .int .i64 x, .int .i64 y] (e 10) w3 from hF 13 (by decide))
  rw [h4, h5, h6]
  have hsm := RT.same hR
  have hx0 := Hx.out.same hsm
  have hb0 := Hb.out.same hsm
  have hr0 := Hr.out.same hsm
  have Hne := hide (show (b4 ≠ (w.heap.size + 1 + 1) ∧ b5 ≠ (w.heap.size + 1 + 1) ∧ b6 ≠ (w.heap.size + 1 + 1)) from ⟨ty_ne hB4 hx0 (by decide), ty_ne hB5 hx0 (by decide), ty_ne hB6 hx0 (by decide)⟩)
  have HB := hide hb0
  have Hgx := hide (show w.heap.size ≠ (w.heap.size + 1 + 1) from by omega)
  have HR := hide hr0
  have HX3 := hide (show Blk w3 (w.heap.size + 1 + 1) 35 ([Value.int .i64 1, .int .i64 0, .int .i64 0, .int .i64 0, .int .i64 0, .int .i64 0, .int .i64 0, .int .i64 0, .int .i64 0, .int .i64 0, .int .i64 0, .int .i64 0, .int .i64 0, .int .i64 0, .int .i64 0, .int .i64 0, .int .i64 0, .int .i64 0]).toArray from hx0)
  have H4 := hide hB4
  have H5 := hide hB5
  have H6 := hide hB6
  have HS := hide (Same.trans Hs.out hsm)
  have kb0 : w3.cell? ⟨w.heap.size, 0, none⟩ = some (Value.int .i64 1) := (HB.out).cell 0
  have kb1 : w3.cell? ⟨w.heap.size, 1, none⟩ = some (Value.int .i64 4) := (HB.out).cell 1
  have k50 : w3.cell? ⟨b5, 0, none⟩ = some (Value.int .i64 s1) := (H5.out).cell 0
  have HcX3 := hide (Chg.refl (fun k => k = (w.heap.size + 1 + 1)) w3)
  clear hR hF hFin h4 h5 h6 hx0 hb0 hr0 hB4 hB5 hB6 hz4 hz5 hz6 hsm e Hb Hr Hx
  have Hrx := hide (show w.heap.size + 1 ≠ (w.heap.size + 1 + 1) from by omega)
  have HC4 := hide (⟨by show 1 < 18; decide, rfl⟩ : CellL [Value.int .i64 1, .int .i64 0, .int .i64 0, .int .i64 0, .int .i64 0, .int .i64 0, .int .i64 0, .int .i64 0, .int .i64 0, .int .i64 0, .int .i64 0, .int .i64 0, .int .i64 0, .int .i64 0, .int .i64 0, .int .i64 0, .int .i64 0, .int .i64 0] 1 (Value.int .i64 4))
  have HC5 := hide (⟨by show 5 < 18; decide, rfl⟩ : CellL [Value.int .i64 1, .int .i64 4, .int .i64 0, .int .i64 0, .int .i64 0, .int .i64 0, .int .i64 0, .int .i64 0, .int .i64 0, .int .i64 0, .int .i64 0, .int .i64 0, .int .i64 0, .int .i64 0, .int .i64 0, .int .i64 0, .int .i64 0, .int .i64 0] 5 (Value.int .i64 s1))
  go_wp2_with (first
    | ((with_reducible refine stCg 3 (w.heap.size + 1 + 1) 1 (Value.int .i64 4) 35 [Value.int .i64 1, .int .i64 0, .int .i64 0, .int .i64 0, .int .i64 0, .int .i64 0, .int .i64 0, .int .i64 0, .int .i64 0, .int .i64 0, .int .i64 0, .int .i64 0, .int .i64 0, .int .i64 0, .int .i64 0, .int .i64 0, .int .i64 0, .int .i64 0] intSz HC4.out.one HX3.out HC4.out.lt ?_ ?_ ?_); rfl; rfl; intro w4 hc hb; clear kb0 kb1 k50; have HX4 := hide (show Blk w4 (w.heap.size + 1 + 1) 35 ([Value.int .i64 1, .int .i64 4, .int .i64 0, .int .i64 0, .int .i64 0, .int .i64 0, .int .i64 0, .int .i64 0, .int .i64 0, .int .i64 0, .int .i64 0, .int .i64 0, .int .i64 0, .int .i64 0, .int .i64 0, .int .i64 0, .int .i64 0, .int .i64 0]).toArray from hb); have hc' := Chg.trans HcX3.out hc (fun _ _ e => e); have HcX4 := hide hc'; have kb0 : w4.cell? ⟨w.heap.size, 0, none⟩ = some (Value.int .i64 1) := (HB.out.chg hc' Hgx.out).cell 0; have kb1 : w4.cell? ⟨w.heap.size, 1, none⟩ = some (Value.int .i64 4) := (HB.out.chg hc' Hgx.out).cell 1; have k50 : w4.cell? ⟨b5, 0, none⟩ = some (Value.int .i64 s1) := (H5.out.chg hc' Hne.out.2.1).cell 0; clear hc hc' hb)
    | ((with_reducible refine stCg 3 (w.heap.size + 1 + 1) 5 (Value.int .i64 s1) 35 [Value.int .i64 1, .int .i64 4, .int .i64 0, .int .i64 0, .int .i64 0, .int .i64 0, .int .i64 0, .int .i64 0, .int .i64 0, .int .i64 0, .int .i64 0, .int .i64 0, .int .i64 0, .int .i64 0, .int .i64 0, .int .i64 0, .int .i64 0, .int .i64 0] intSz HC5.out.one HX4.out HC5.out.lt ?_ ?_ ?_); rfl; rfl; intro w5 hc hb; clear kb0 kb1 k50; have HX5 := hide (show Blk w5 (w.heap.size + 1 + 1) 35 ([Value.int .i64 1, .int .i64 4, .int .i64 0, .int .i64 0, .int .i64 0, .int .i64 s1, .int .i64 0, .int .i64 0, .int .i64 0, .int .i64 0, .int .i64 0, .int .i64 0, .int .i64 0, .int .i64 0, .int .i64 0, .int .i64 0, .int .i64 0, .int .i64 0]).toArray from hb); have hc' := Chg.trans HcX4.out hc (fun _ _ e => e); have HcX5 := hide hc'; have kb0 : w5.cell? ⟨w.heap.size, 0, none⟩ = some (Value.int .i64 1) := (HB.out.chg hc' Hgx.out).cell 0; have kb1 : w5.cell? ⟨w.heap.size, 1, none⟩ = some (Value.int .i64 4) := (HB.out.chg hc' Hgx.out).cell 1; have k50 : w5.cell? ⟨b5, 0, none⟩ = some (Value.int .i64 s1) := (H5.out.chg hc' Hne.out.2.1).cell 0; clear hc hc' hb)
    | ((with_reducible refine ldR 35 (w.heap.size + 1 + 1) 0 18 [Value.int .i64 1, .int .i64 4, .int .i64 0, .int .i64 0, .int .i64 0, .int .i64 s1, .int .i64 0, .int .i64 0, .int .i64 0, .int .i64 0, .int .i64 0, .int .i64 0, .int .i64 0, .int .i64 0, .int .i64 0, .int .i64 0, .int .i64 0, .int .i64 0] rowReq HF.out.len (blk_range HX5.out) ?_ ?_ ?_); rfl; rfl)
    | ((with_reducible refine stRg 35 (w.heap.size + 1) 18 [Value.int .i64 1, .int .i64 4, .int .i64 0, .int .i64 0, .int .i64 0, .int .i64 s1, .int .i64 0, .int .i64 0, .int .i64 0, .int .i64 0, .int .i64 0, .int .i64 0, .int .i64 0, .int .i64 0, .int .i64 0, .int .i64 0, .int .i64 0, .int .i64 0] 35 _ rowReq HF.out.len ?_ (HR.out.chg HcX5.out Hrx.out) HF.out.one ?_ ?_ ?_); rfl; rfl; rfl; intro w9 hc9 hz9 hb9; have Hc9 := hide hc9; have Hb9 := hide hb9; clear hc9 hz9 hb9)
    | fail)
  refine bodyPost_ret (results_cell_row rfl _ _ _ _ _ _ _ rfl Hb9.out Tryz.underlying35 rfl (by kernel_rfl)) (by rfl) (show _ ∧ _ from ⟨rfl, ?_⟩)
  have h1 : Chg (fun k => w.heap.size ≤ k) w w3 := Same.to HS.out
  have h2 : Chg (fun k => w.heap.size ≤ k) w w5 := Chg.trans h1 HcX5.out (fun k _ e => (by have e' : k = (w.heap.size + 1 + 1) := e; omega))
  exact Chg.fresh (S := fun k => w.heap.size ≤ k) (Chg.trans h2 Hc9.out (fun k _ e => (by have e' : k = w.heap.size + 1 := e; omega))) (fun _ h => h)
set_option maxRecDepth 100000 in
set_option maxHeartbeats 8000000 in
theorem ronly_11 (ck p1 p2 p3 s1 s2 s3 a b c d e1 f g x y : Int) (w : World) :
    Calls Tryz.prog 27 #[.agg #[Value.int .i64 2, .int .i64 ck, .int .i64 p1, .int .i64 p2, .int .i64 p3, .int .i64 s1, .int .i64 s2, .int .i64 s3, .int .i64 1, .int .i64 a, .int .i64 b, .int .i64 c, .int .i64 d, .int .i64 e1, .int .i64 f, .int .i64 g, .int .i64 x, .int .i64 y]] w fun en w' => en = .returned (.agg #[Value.int .i64 2, .int .i64 0, .int .i64 0, .int .i64 0, .int .i64 0, .int .i64 0, .int .i64 0, .int .i64 0, .int .i64 1, .int .i64 a, .int .i64 b, .int .i64 c, .int .i64 d, .int .i64 0, .int .i64 0, .int .i64 0, .int .i64 0, .int .i64 0]) ∧ Same w w'  := by
  have hb := (Blk.new w 35 #[Value.int .i64 2, .int .i64 ck, .int .i64 p1, .int .i64 p2, .int .i64 p3, .int .i64 s1, .int .i64 s2, .int .i64 s3, .int .i64 1, .int .i64 a, .int .i64 b, .int .i64 c, .int .i64 d, .int .i64 e1, .int .i64 f, .int .i64 g, .int .i64 x, .int .i64 y]).alloc (.cells #[Value.int .i64 0, .int .i64 0, .int .i64 0, .int .i64 0, .int .i64 0, .int .i64 0, .int .i64 0, .int .i64 0, .int .i64 0, .int .i64 0, .int .i64 0, .int .i64 0, .int .i64 0, .int .i64 0, .int .i64 0, .int .i64 0, .int .i64 0, .int .i64 0] 35)
  have hr := Blk.new (w.alloc (.cells #[Value.int .i64 2, .int .i64 ck, .int .i64 p1, .int .i64 p2, .int .i64 p3, .int .i64 s1, .int .i64 s2, .int .i64 s3, .int .i64 1, .int .i64 a, .int .i64 b, .int .i64 c, .int .i64 d, .int .i64 e1, .int .i64 f, .int .i64 g, .int .i64 x, .int .i64 y] 35)) 35 #[Value.int .i64 0, .int .i64 0, .int .i64 0, .int .i64 0, .int .i64 0, .int .i64 0, .int .i64 0, .int .i64 0, .int .i64 0, .int .i64 0, .int .i64 0, .int .i64 0, .int .i64 0, .int .i64 0, .int .i64 0, .int .i64 0, .int .i64 0, .int .i64 0]
  simp only [World.size_alloc] at hr
  have hs : Same w ((w.alloc (.cells #[Value.int .i64 2, .int .i64 ck, .int .i64 p1, .int .i64 p2, .int .i64 p3, .int .i64 s1, .int .i64 s2, .int .i64 s3, .int .i64 1, .int .i64 a, .int .i64 b, .int .i64 c, .int .i64 d, .int .i64 e1, .int .i64 f, .int .i64 g, .int .i64 x, .int .i64 y] 35)).alloc (.cells #[Value.int .i64 0, .int .i64 0, .int .i64 0, .int .i64 0, .int .i64 0, .int .i64 0, .int .i64 0, .int .i64 0, .int .i64 0, .int .i64 0, .int .i64 0, .int .i64 0, .int .i64 0, .int .i64 0, .int .i64 0, .int .i64 0, .int .i64 0, .int .i64 0] 35)) := ((Chg.refl _ w).alloc _).alloc _
  have Hb0 := hide hb
  have Hr0 := hide hr
  have Hs0 := hide hs
  have HXL := hide (RowL.lit rfl rfl : RowL [Value.int .i64 2, .int .i64 0, .int .i64 0, .int .i64 0, .int .i64 0, .int .i64 0, .int .i64 0, .int .i64 0, .int .i64 0, .int .i64 0, .int .i64 0, .int .i64 0, .int .i64 0, .int .i64 0, .int .i64 0, .int .i64 0, .int .i64 0, .int .i64 0] 18)
  clear hb hr hs
  go_enter Tryz.func27, Tryz.ntmps27
  go_wp2_with (first
    | ((with_reducible refine stNg 35 18 [Value.int .i64 2, .int .i64 0, .int .i64 0, .int .i64 0, .int .i64 0, .int .i64 0, .int .i64 0, .int .i64 0, .int .i64 0, .int .i64 0, .int .i64 0, .int .i64 0, .int .i64 0, .int .i64 0, .int .i64 0, .int .i64 0, .int .i64 0, .int .i64 0] 35 _ rowReq HXL.out.len ?_ HXL.out.one ?_ ?_ ?_); rfl; (simp only [World.size_alloc]; rfl); rfl; intro w0 hs1 hz1 hb1; simp only [World.size_alloc] at hb1; have Hs := hide (Same.trans Hs0.out hs1); have Hx := hide (show Blk w0 (w.heap.size + 1 + 1) 35 #[Value.int .i64 2, .int .i64 0, .int .i64 0, .int .i64 0, .int .i64 0, .int .i64 0, .int .i64 0, .int .i64 0, .int .i64 0, .int .i64 0, .int .i64 0, .int .i64 0, .int .i64 0, .int .i64 0, .int .i64 0, .int .i64 0, .int .i64 0, .int .i64 0] from hb1); have Hb := hide (Hb0.out.same hs1); have Hr := hide (Hr0.out.same hs1); clear hs1 hz1 hb1)
    | fail)
  clear Hs0 Hb0 Hr0 HXL
  have HP := hide (RowL.lit rfl rfl : RowL [Value.int .i64 p1, .int .i64 p2, .int .i64 p3] 3)
  have HSp := hide (RowL.lit rfl rfl : RowL [Value.int .i64 s1, .int .i64 s2, .int .i64 s3] 3)
  have HQ := hide (RowL.lit rfl rfl : RowL [Value.int .i64 1, .int .i64 a, .int .i64 b, .int .i64 c, .int .i64 d, .int .i64 e1, .int .i64 f, .int .i64 g, .int .i64 x, .int .i64 y] 10)
  have HF := hide (RowL.lit rfl rfl : RowL [Value.int .i64 2, .int .i64 0, .int .i64 0, .int .i64 0, .int .i64 0, .int .i64 0, .int .i64 0, .int .i64 0, .int .i64 1, .int .i64 a, .int .i64 b, .int .i64 c, .int .i64 d, .int .i64 0, .int .i64 0, .int .i64 0, .int .i64 0, .int .i64 0] 18)
  refine wp_region_mixT (fun k => if k = 11 then some 23 else if k = 12 then some 25 else if k = 13 then some 33 else none) 14 (by kernel_rfl) (by kernel_rfl) fun Fin hFin => ?_
  simp only [List.take_succ_cons, List.take_zero]
  iterate 2 (
      (refine mix_lit ?_ ?_ (fun w => RkT.of_same (Chg.refl _ w)) ?_ ?_ ?_ ?_
       rotate_left; rotate_left
       · intro e w1 hR hF K hK; (skip); go_simp; (refine hK _ _ (RkT.of_same (Chg.refl _ _)) ?_; rfl)
       · intro e; simp only [Act.put, List.setIfInBounds_toArray, List.set_cons_zero, List.set_cons_succ]; rfl
       · exact Loc.const _ _))
  refine mix_ld [Value.int .i64 p1, .int .i64 p2, .int .i64 p3] ?_ (fun w => RkT.of_same (Chg.refl _ w)) (fun _ => by rfl) 23 _ rfl w.heap.size 2 (fun _ => by rfl) _ (fun w1 hR => rangeAt_blk [Value.int .i64 2, .int .i64 ck] [Value.int .i64 p1, .int .i64 p2, .int .i64 p3] [Value.int .i64 s1, .int .i64 s2, .int .i64 s3, .int .i64 1, .int .i64 a, .int .i64 b, .int .i64 c, .int .i64 d, .int .i64 e1, .int .i64 f, .int .i64 g, .int .i64 x, .int .i64 y] (Hb.out.same (RT.same hR))) Tryz.underlying23 rfl (by kernel_rfl) ?_ ?_
  rotate_left
  · intro e; simp only [Act.put, List.setIfInBounds_toArray, List.set_cons_zero, List.set_cons_succ]; rfl
  iterate 2 (
      (refine mix_lit ?_ ?_ (fun w => RkT.of_same (Chg.refl _ w)) ?_ ?_ ?_ ?_
       rotate_left; rotate_left
       · intro e w1 hR hF K hK; (skip); go_simp; (refine hK _ _ (RkT.of_same (Chg.refl _ _)) ?_; rfl)
       · intro e; simp only [Act.put, List.setIfInBounds_toArray, List.set_cons_zero, List.set_cons_succ]; rfl
       · exact Loc.const _ _))
  refine mix_ld [Value.int .i64 s1, .int .i64 s2, .int .i64 s3] ?_ (fun w => RkT.of_same (Chg.refl _ w)) (fun _ => by rfl) 25 _ rfl w.heap.size 5 (fun _ => by rfl) _ (fun w1 hR => rangeAt_blk [Value.int .i64 2, .int .i64 ck, .int .i64 p1, .int .i64 p2, .int .i64 p3] [Value.int .i64 s1, .int .i64 s2, .int .i64 s3] [Value.int .i64 1, .int .i64 a, .int .i64 b, .int .i64 c, .int .i64 d, .int .i64 e1, .int .i64 f, .int .i64 g, .int .i64 x, .int .i64 y] (Hb.out.same (RT.same hR))) Tryz.underlying25 rfl (by kernel_rfl) ?_ ?_
  rotate_left
  · intro e; simp only [Act.put, List.setIfInBounds_toArray, List.set_cons_zero, List.set_cons_succ]; rfl
  iterate 1 (
      (refine mix_lit ?_ ?_ (fun w => RkT.of_same (Chg.refl _ w)) ?_ ?_ ?_ ?_
       rotate_left; rotate_left
       · intro e w1 hR hF K hK; (skip); go_simp; (refine hK _ _ (RkT.of_same (Chg.refl _ _)) ?_; rfl)
       · intro e; simp only [Act.put, List.setIfInBounds_toArray, List.set_cons_zero, List.set_cons_succ]; rfl
       · exact Loc.const _ _))
  refine mix_ld [Value.int .i64 1, .int .i64 a, .int .i64 b, .int .i64 c, .int .i64 d, .int .i64 e1, .int .i64 f, .int .i64 g, .int .i64 x, .int .i64 y] ?_ (fun w => RkT.of_same (Chg.refl _ w)) (fun _ => by rfl) 33 _ rfl w.heap.size 8 (fun _ => by rfl) _ (fun w1 hR => rangeAt_blk [Value.int .i64 2, .int .i64 ck, .int .i64 p1, .int .i64 p2, .int .i64 p3, .int .i64 s1, .int .i64 s2, .int .i64 s3] [Value.int .i64 1, .int .i64 a, .int .i64 b, .int .i64 c, .int .i64 d, .int .i64 e1, .int .i64 f, .int .i64 g, .int .i64 x, .int .i64 y] [] (Hb.out.same (RT.same hR))) Tryz.underlying33 rfl (by kernel_rfl) ?_ ?_
  rotate_left
  · intro e; simp only [Act.put, List.setIfInBounds_toArray, List.set_cons_zero, List.set_cons_succ]; rfl
  refine mix_let (fun _ v w9 => NewB w0 23 3 v w9) ?_ (by exact Loc.const _ _) (fun i _ _ e u w w' hr h => h.keep hr.keep) ?_ ?_ ?_ ?_
  rotate_left
  · intro e; rfl
  · intro e w9 hR hF K hK; go_simp; exact hK _ _ _ (RkT.of_same ((Chg.refl _ _).alloc _)) ⟨_, rfl, Chg.size hR, _, rfl, Blk.new _ _ _⟩ (by simp only [Act.put, List.setIfInBounds_toArray, List.set_cons_zero, List.set_cons_succ])
  · intro e; simp only [Act.put, List.setIfInBounds_toArray, List.set_cons_zero, List.set_cons_succ]; rfl
  refine mix_let (fun _ v w9 => NewB w0 25 3 v w9) ?_ (by exact Loc.const _ _) (fun i _ _ e u w w' hr h => h.keep hr.keep) ?_ ?_ ?_ ?_
  rotate_left
  · intro e; rfl
  · intro e w9 hR hF K hK; go_simp; exact hK _ _ _ (RkT.of_same ((Chg.refl _ _).alloc _)) ⟨_, rfl, Chg.size hR, _, rfl, Blk.new _ _ _⟩ (by simp only [Act.put, List.setIfInBounds_toArray, List.set_cons_zero, List.set_cons_succ])
  · intro e; simp only [Act.put, List.setIfInBounds_toArray, List.set_cons_zero, List.set_cons_succ]; rfl
  refine mix_let (fun _ v w9 => NewB w0 33 10 v w9) ?_ (by exact Loc.const _ _) (fun i _ _ e u w w' hr h => h.keep hr.keep) ?_ ?_ ?_ ?_
  rotate_left
  · intro e; rfl
  · intro e w9 hR hF K hK; go_simp; exact hK _ _ _ (RkT.of_same ((Chg.refl _ _).alloc _)) ⟨_, rfl, Chg.size hR, _, rfl, Blk.new _ _ _⟩ (by simp only [Act.put, List.setIfInBounds_toArray, List.set_cons_zero, List.set_cons_succ])
  · intro e; simp only [Act.put, List.setIfInBounds_toArray, List.set_cons_zero, List.set_cons_succ]; rfl
  refine mt_st 8 23 3 [Value.int .i64 p1, .int .i64 p2, .int .i64 p3] ?_ (by rfl) rowPt.sz HP.out.len HP.out.one (fun _ => by rfl) (fun _ => by rfl) (fun _ => by rfl) (by kernel_rfl) (fun e w h => h) (by rfl) (by intro i hi h; (repeat' split at h) <;> first | omega | (cases h; done) | exact absurd h (by decide)) ?_ ?_
  rotate_left
  · intro e; rfl
  refine mt_st 9 25 3 [Value.int .i64 s1, .int .i64 s2, .int .i64 s3] ?_ (by rfl) rowSp.sz HSp.out.len HSp.out.one (fun _ => by rfl) (fun _ => by rfl) (fun _ => by rfl) (by kernel_rfl) (fun e w h => h) (by rfl) (by intro i hi h; (repeat' split at h) <;> first | omega | (cases h; done) | exact absurd h (by decide)) ?_ ?_
  rotate_left
  · intro e; rfl
  refine mt_st 10 33 10 [Value.int .i64 1, .int .i64 a, .int .i64 b, .int .i64 c, .int .i64 d, .int .i64 e1, .int .i64 f, .int .i64 g, .int .i64 x, .int .i64 y] ?_ (by rfl) rowQry.sz HQ.out.len HQ.out.one (fun _ => by rfl) (fun _ => by rfl) (fun _ => by rfl) (by kernel_rfl) (fun e w h => h) (by rfl) (by intro i hi h; (repeat' split at h) <;> first | omega | (cases h; done) | exact absurd h (by decide)) ?_ ?_
  rotate_left
  · intro e; rfl
  refine mix_nil fun e w3 hR hF => hFin _ _ ?_
  simp only [List.drop_succ_cons, List.drop_zero]
  obtain ⟨b4, h4, hz4, hB4⟩ := (show PutB w0 23 [Value.int .i64 p1, .int .i64 p2, .int .i64 p3] (e 8) w3 from hF 11 (by decide))
  obtain ⟨b5, h5, hz5, hB5⟩ := (show PutB w0 25 [Value.int .i64 s1, .int .i64 s2, .int .i64 s3] (e 9) w3 from hF 12 (by decide))
  obtain ⟨b6, h6, hz6, hB6⟩ := (show PutB w0 33 [Value.int .i64 1, .int .i64 a, .int .i64 b, .int .i64 c, .int .i64 d, .int .i64 e1, .int .i64 f, .int .i64 g, .int .i64 x, .int .i64 y] (e 10) w3 from hF 13 (by decide))
  rw [h4, h5, h6]
  have hsm := RT.same hR
  have hx0 := Hx.out.same hsm
  have hb0 := Hb.out.same hsm
  have hr0 := Hr.out.same hsm
  have Hne := hide (show (b4 ≠ (w.heap.size + 1 + 1) ∧ b5 ≠ (w.heap.size + 1 + 1) ∧ b6 ≠ (w.heap.size + 1 + 1)) from ⟨ty_ne hB4 hx0 (by decide), ty_ne hB5 hx0 (by decide), ty_ne hB6 hx0 (by decide)⟩)
  have HB := hide hb0
  have Hgx := hide (show w.heap.size ≠ (w.heap.size + 1 + 1) from by omega)
  have HR := hide hr0
  have HX3 := hide (show Blk w3 (w.heap.size + 1 + 1) 35 ([Value.int .i64 2, .int .i64 0, .int .i64 0, .int .i64 0, .int .i64 0, .int .i64 0, .int .i64 0, .int .i64 0, .int .i64 0, .int .i64 0, .int .i64 0, .int .i64 0, .int .i64 0, .int .i64 0, .int .i64 0, .int .i64 0, .int .i64 0, .int .i64 0]).toArray from hx0)
  have H4 := hide hB4
  have H5 := hide hB5
  have H6 := hide hB6
  have HS := hide (Same.trans Hs.out hsm)
  have kb0 : w3.cell? ⟨w.heap.size, 0, none⟩ = some (Value.int .i64 2) := (HB.out).cell 0
  have k60 : w3.cell? ⟨b6, 0, none⟩ = some (Value.int .i64 1) := (H6.out).cell 0
  have HcX3 := hide (Chg.refl (fun k => k = (w.heap.size + 1 + 1)) w3)
  clear hR hF hFin h4 h5 h6 hx0 hb0 hr0 hB4 hB5 hB6 hz4 hz5 hz6 hsm e Hb Hr Hx
  have Hrx := hide (show w.heap.size + 1 ≠ (w.heap.size + 1 + 1) from by omega)
  have HC4 := hide (⟨by show 8 < 18; decide, rfl⟩ : CellL [Value.int .i64 2, .int .i64 0, .int .i64 0, .int .i64 0, .int .i64 0, .int .i64 0, .int .i64 0, .int .i64 0, .int .i64 0, .int .i64 0, .int .i64 0, .int .i64 0, .int .i64 0, .int .i64 0, .int .i64 0, .int .i64 0, .int .i64 0, .int .i64 0] 8 (Value.int .i64 1))
  have HV5 := hide (RowL.lit rfl rfl : RowL [Value.int .i64 a, .int .i64 b, .int .i64 c, .int .i64 d] 4)
  have HZ5 := hide (RowL.lit rfl rfl : RowL [Value.int .i64 0, .int .i64 0, .int .i64 0, .int .i64 0] 4)
  have HO5 := hide (RowL.lit rfl rfl : RowL [Value.int .i64 2, .int .i64 0, .int .i64 0, .int .i64 0, .int .i64 0, .int .i64 0, .int .i64 0, .int .i64 0, .int .i64 1] 9)
  go_wp2_with (first
    | ((with_reducible refine stCg 3 (w.heap.size + 1 + 1) 8 (Value.int .i64 1) 35 [Value.int .i64 2, .int .i64 0, .int .i64 0, .int .i64 0, .int .i64 0, .int .i64 0, .int .i64 0, .int .i64 0, .int .i64 0, .int .i64 0, .int .i64 0, .int .i64 0, .int .i64 0, .int .i64 0, .int .i64 0, .int .i64 0, .int .i64 0, .int .i64 0] intSz HC4.out.one HX3.out HC4.out.lt ?_ ?_ ?_); rfl; rfl; intro w4 hc hb; clear kb0 k60; have HX4 := hide (show Blk w4 (w.heap.size + 1 + 1) 35 ([Value.int .i64 2, .int .i64 0, .int .i64 0, .int .i64 0, .int .i64 0, .int .i64 0, .int .i64 0, .int .i64 0, .int .i64 1] ++ [Value.int .i64 0, .int .i64 0, .int .i64 0, .int .i64 0] ++ [Value.int .i64 0, .int .i64 0, .int .i64 0, .int .i64 0, .int .i64 0]).toArray from hb); have hc' := Chg.trans HcX3.out hc (fun _ _ e => e); have HcX4 := hide hc'; have kb0 : w4.cell? ⟨w.heap.size, 0, none⟩ = some (Value.int .i64 2) := (HB.out.chg hc' Hgx.out).cell 0; have k60 : w4.cell? ⟨b6, 0, none⟩ = some (Value.int .i64 1) := (H6.out.chg hc' Hne.out.2.2).cell 0; clear hc hc' hb)
    | ((with_reducible refine ldR 29 b6 1 4 [Value.int .i64 a, .int .i64 b, .int .i64 c, .int .i64 d] rowBox HV5.out.len (rangeAt_blk [Value.int .i64 1] [Value.int .i64 a, .int .i64 b, .int .i64 c, .int .i64 d] [Value.int .i64 e1, .int .i64 f, .int .i64 g, .int .i64 x, .int .i64 y] (H6.out.chg HcX4.out Hne.out.2.2)) ?_ ?_ ?_); rfl; rfl)
    | ((with_reducible refine stMg 29 (w.heap.size + 1 + 1) 9 4 [Value.int .i64 2, .int .i64 0, .int .i64 0, .int .i64 0, .int .i64 0, .int .i64 0, .int .i64 0, .int .i64 0, .int .i64 1] [Value.int .i64 0, .int .i64 0, .int .i64 0, .int .i64 0] [Value.int .i64 0, .int .i64 0, .int .i64 0, .int .i64 0, .int .i64 0] [Value.int .i64 a, .int .i64 b, .int .i64 c, .int .i64 d] 35 rowBox HV5.out.len HZ5.out.len HO5.out.len HX4.out HV5.out.one ?_ ?_ ?_); rfl; rfl; intro w5 hc hb; clear kb0 k60; have HX5 := hide (show Blk w5 (w.heap.size + 1 + 1) 35 ([Value.int .i64 2, .int .i64 0, .int .i64 0, .int .i64 0, .int .i64 0, .int .i64 0, .int .i64 0, .int .i64 0, .int .i64 1, .int .i64 a, .int .i64 b, .int .i64 c, .int .i64 d, .int .i64 0, .int .i64 0, .int .i64 0, .int .i64 0, .int .i64 0]).toArray from hb); have hc' := Chg.trans HcX4.out hc (fun _ _ e => e); have HcX5 := hide hc'; have kb0 : w5.cell? ⟨w.heap.size, 0, none⟩ = some (Value.int .i64 2) := (HB.out.chg hc' Hgx.out).cell 0; have k60 : w5.cell? ⟨b6, 0, none⟩ = some (Value.int .i64 1) := (H6.out.chg hc' Hne.out.2.2).cell 0; clear hc hc' hb)
    | ((with_reducible refine ldR 35 (w.heap.size + 1 + 1) 0 18 [Value.int .i64 2, .int .i64 0, .int .i64 0, .int .i64 0, .int .i64 0, .int .i64 0, .int .i64 0, .int .i64 0, .int .i64 1, .int .i64 a, .int .i64 b, .int .i64 c, .int .i64 d, .int .i64 0, .int .i64 0, .int .i64 0, .int .i64 0, .int .i64 0] rowReq HF.out.len (blk_range HX5.out) ?_ ?_ ?_); rfl; rfl)
    | ((with_reducible refine stRg 35 (w.heap.size + 1) 18 [Value.int .i64 2, .int .i64 0, .int .i64 0, .int .i64 0, .int .i64 0, .int .i64 0, .int .i64 0, .int .i64 0, .int .i64 1, .int .i64 a, .int .i64 b, .int .i64 c, .int .i64 d, .int .i64 0, .int .i64 0, .int .i64 0, .int .i64 0, .int .i64 0] 35 _ rowReq HF.out.len ?_ (HR.out.chg HcX5.out Hrx.out) HF.out.one ?_ ?_ ?_); rfl; rfl; rfl; intro w9 hc9 hz9 hb9; have Hc9 := hide hc9; have Hb9 := hide hb9; clear hc9 hz9 hb9)
    | fail)
  refine bodyPost_ret (results_cell_row rfl _ _ _ _ _ _ _ rfl Hb9.out Tryz.underlying35 rfl (by kernel_rfl)) (by rfl) (show _ ∧ _ from ⟨rfl, ?_⟩)
  have h1 : Chg (fun k => w.heap.size ≤ k) w w3 := Same.to HS.out
  have h2 : Chg (fun k => w.heap.size ≤ k) w w5 := Chg.trans h1 HcX5.out (fun k _ e => (by have e' : k = (w.heap.size + 1 + 1) := e; omega))
  exact Chg.fresh (S := fun k => w.heap.size ≤ k) (Chg.trans h2 Hc9.out (fun k _ e => (by have e' : k = w.heap.size + 1 := e; omega))) (fun _ h => h)
set_option maxRecDepth 100000 in
set_option maxHeartbeats 8000000 in
theorem ronly_12 (ck p1 p2 p3 s1 s2 s3 a b c d e1 f g x y : Int) (w : World) :
    Calls Tryz.prog 27 #[.agg #[Value.int .i64 2, .int .i64 ck, .int .i64 p1, .int .i64 p2, .int .i64 p3, .int .i64 s1, .int .i64 s2, .int .i64 s3, .int .i64 2, .int .i64 a, .int .i64 b, .int .i64 c, .int .i64 d, .int .i64 e1, .int .i64 f, .int .i64 g, .int .i64 x, .int .i64 y]] w fun en w' => en = .returned (.agg #[Value.int .i64 2, .int .i64 0, .int .i64 0, .int .i64 0, .int .i64 0, .int .i64 0, .int .i64 0, .int .i64 0, .int .i64 2, .int .i64 a, .int .i64 b, .int .i64 c, .int .i64 d, .int .i64 0, .int .i64 0, .int .i64 0, .int .i64 0, .int .i64 0]) ∧ Same w w'  := by
  have hb := (Blk.new w 35 #[Value.int .i64 2, .int .i64 ck, .int .i64 p1, .int .i64 p2, .int .i64 p3, .int .i64 s1, .int .i64 s2, .int .i64 s3, .int .i64 2, .int .i64 a, .int .i64 b, .int .i64 c, .int .i64 d, .int .i64 e1, .int .i64 f, .int .i64 g, .int .i64 x, .int .i64 y]).alloc (.cells #[Value.int .i64 0, .int .i64 0, .int .i64 0, .int .i64 0, .int .i64 0, .int .i64 0, .int .i64 0, .int .i64 0, .int .i64 0, .int .i64 0, .int .i64 0, .int .i64 0, .int .i64 0, .int .i64 0, .int .i64 0, .int .i64 0, .int .i64 0, .int .i64 0] 35)
  have hr := Blk.new (w.alloc (.cells #[Value.int .i64 2, .int .i64 ck, .int .i64 p1, .int .i64 p2, .int .i64 p3, .int .i64 s1, .int .i64 s2, .int .i64 s3, .int .i64 2, .int .i64 a, .int .i64 b, .int .i64 c, .int .i64 d, .int .i64 e1, .int .i64 f, .int .i64 g, .int .i64 x, .int .i64 y] 35)) 35 #[Value.int .i64 0, .int .i64 0, .int .i64 0, .int .i64 0, .int .i64 0, .int .i64 0, .int .i64 0, .int .i64 0, .int .i64 0, .int .i64 0, .int .i64 0, .int .i64 0, .int .i64 0, .int .i64 0, .int .i64 0, .int .i64 0, .int .i64 0, .int .i64 0]
  simp only [World.size_alloc] at hr
  have hs : Same w ((w.alloc (.cells #[Value.int .i64 2, .int .i64 ck, .int .i64 p1, .int .i64 p2, .int .i64 p3, .int .i64 s1, .int .i64 s2, .int .i64 s3, .int .i64 2, .int .i64 a, .int .i64 b, .int .i64 c, .int .i64 d, .int .i64 e1, .int .i64 f, .int .i64 g, .int .i64 x, .int .i64 y] 35)).alloc (.cells #[Value.int .i64 0, .int .i64 0, .int .i64 0, .int .i64 0, .int .i64 0, .int .i64 0, .int .i64 0, .int .i64 0, .int .i64 0, .int .i64 0, .int .i64 0, .int .i64 0, .int .i64 0, .int .i64 0, .int .i64 0, .int .i64 0, .int .i64 0, .int .i64 0] 35)) := ((Chg.refl _ w).alloc _).alloc _
  have Hb0 := hide hb
  have Hr0 := hide hr
  have Hs0 := hide hs
  have HXL := hide (RowL.lit rfl rfl : RowL [Value.int .i64 2, .int .i64 0, .int .i64 0, .int .i64 0, .int .i64 0, .int .i64 0, .int .i64 0, .int .i64 0, .int .i64 0, .int .i64 0, .int .i64 0, .int .i64 0, .int .i64 0, .int .i64 0, .int .i64 0, .int .i64 0, .int .i64 0, .int .i64 0] 18)
  clear hb hr hs
  go_enter Tryz.func27, Tryz.ntmps27
  go_wp2_with (first
    | ((with_reducible refine stNg 35 18 [Value.int .i64 2, .int .i64 0, .int .i64 0, .int .i64 0, .int .i64 0, .int .i64 0, .int .i64 0, .int .i64 0, .int .i64 0, .int .i64 0, .int .i64 0, .int .i64 0, .int .i64 0, .int .i64 0, .int .i64 0, .int .i64 0, .int .i64 0, .int .i64 0] 35 _ rowReq HXL.out.len ?_ HXL.out.one ?_ ?_ ?_); rfl; (simp only [World.size_alloc]; rfl); rfl; intro w0 hs1 hz1 hb1; simp only [World.size_alloc] at hb1; have Hs := hide (Same.trans Hs0.out hs1); have Hx := hide (show Blk w0 (w.heap.size + 1 + 1) 35 #[Value.int .i64 2, .int .i64 0, .int .i64 0, .int .i64 0, .int .i64 0, .int .i64 0, .int .i64 0, .int .i64 0, .int .i64 0, .int .i64 0, .int .i64 0, .int .i64 0, .int .i64 0, .int .i64 0, .int .i64 0, .int .i64 0, .int .i64 0, .int .i64 0] from hb1); have Hb := hide (Hb0.out.same hs1); have Hr := hide (Hr0.out.same hs1); clear hs1 hz1 hb1)
    | fail)
  clear Hs0 Hb0 Hr0 HXL
  have HP := hide (RowL.lit rfl rfl : RowL [Value.int .i64 p1, .int .i64 p2, .int .i64 p3] 3)
  have HSp := hide (RowL.lit rfl rfl : RowL [Value.int .i64 s1, .int .i64 s2, .int .i64 s3] 3)
  have HQ := hide (RowL.lit rfl rfl : RowL [Value.int .i64 2, .int .i64 a, .int .i64 b, .int .i64 c, .int .i64 d, .int .i64 e1, .int .i64 f, .int .i64 g, .int .i64 x, .int .i64 y] 10)
  have HF := hide (RowL.lit rfl rfl : RowL [Value.int .i64 2, .int .i64 0, .int .i64 0, .int .i64 0, .int .i64 0, .int .i64 0, .int .i64 0, .int .i64 0, .int .i64 2, .int .i64 a, .int .i64 b, .int .i64 c, .int .i64 d, .int .i64 0, .int .i64 0, .int .i64 0, .int .i64 0, .int .i64 0] 18)
  refine wp_region_mixT (fun k => if k = 11 then some 23 else if k = 12 then some 25 else if k = 13 then some 33 else none) 14 (by kernel_rfl) (by kernel_rfl) fun Fin hFin => ?_
  simp only [List.take_succ_cons, List.take_zero]
  iterate 2 (
      (refine mix_lit ?_ ?_ (fun w => RkT.of_same (Chg.refl _ w)) ?_ ?_ ?_ ?_
       rotate_left; rotate_left
       · intro e w1 hR hF K hK; (skip); go_simp; (refine hK _ _ (RkT.of_same (Chg.refl _ _)) ?_; rfl)
       · intro e; simp only [Act.put, List.setIfInBounds_toArray, List.set_cons_zero, List.set_cons_succ]; rfl
       · exact Loc.const _ _))
  refine mix_ld [Value.int .i64 p1, .int .i64 p2, .int .i64 p3] ?_ (fun w => RkT.of_same (Chg.refl _ w)) (fun _ => by rfl) 23 _ rfl w.heap.size 2 (fun _ => by rfl) _ (fun w1 hR => rangeAt_blk [Value.int .i64 2, .int .i64 ck] [Value.int .i64 p1, .int .i64 p2, .int .i64 p3] [Value.int .i64 s1, .int .i64 s2, .int .i64 s3, .int .i64 2, .int .i64 a, .int .i64 b, .int .i64 c, .int .i64 d, .int .i64 e1, .int .i64 f, .int .i64 g, .int .i64 x, .int .i64 y] (Hb.out.same (RT.same hR))) Tryz.underlying23 rfl (by kernel_rfl) ?_ ?_
  rotate_left
  · intro e; simp only [Act.put, List.setIfInBounds_toArray, List.set_cons_zero, List.set_cons_succ]; rfl
  iterate 2 (
      (refine mix_lit ?_ ?_ (fun w => RkT.of_same (Chg.refl _ w)) ?_ ?_ ?_ ?_
       rotate_left; rotate_left
       · intro e w1 hR hF K hK; (skip); go_simp; (refine hK _ _ (RkT.of_same (Chg.refl _ _)) ?_; rfl)
       · intro e; simp only [Act.put, List.setIfInBounds_toArray, List.set_cons_zero, List.set_cons_succ]; rfl
       · exact Loc.const _ _))
  refine mix_ld [Value.int .i64 s1, .int .i64 s2, .int .i64 s3] ?_ (fun w => RkT.of_same (Chg.refl _ w)) (fun _ => by rfl) 25 _ rfl w.heap.size 5 (fun _ => by rfl) _ (fun w1 hR => rangeAt_blk [Value.int .i64 2, .int .i64 ck, .int .i64 p1, .int .i64 p2, .int .i64 p3] [Value.int .i64 s1, .int .i64 s2, .int .i64 s3] [Value.int .i64 2, .int .i64 a, .int .i64 b, .int .i64 c, .int .i64 d, .int .i64 e1, .int .i64 f, .int .i64 g, .int .i64 x, .int .i64 y] (Hb.out.same (RT.same hR))) Tryz.underlying25 rfl (by kernel_rfl) ?_ ?_
  rotate_left
  · intro e; simp only [Act.put, List.setIfInBounds_toArray, List.set_cons_zero, List.set_cons_succ]; rfl
  iterate 1 (
      (refine mix_lit ?_ ?_ (fun w => RkT.of_same (Chg.refl _ w)) ?_ ?_ ?_ ?_
       rotate_left; rotate_left
       · intro e w1 hR hF K hK; (skip); go_simp; (refine hK _ _ (RkT.of_same (Chg.refl _ _)) ?_; rfl)
       · intro e; simp only [Act.put, List.setIfInBounds_toArray, List.set_cons_zero, List.set_cons_succ]; rfl
       · exact Loc.const _ _))
  refine mix_ld [Value.int .i64 2, .int .i64 a, .int .i64 b, .int .i64 c, .int .i64 d, .int .i64 e1, .int .i64 f, .int .i64 g, .int .i64 x, .int .i64 y] ?_ (fun w => RkT.of_same (Chg.refl _ w)) (fun _ => by rfl) 33 _ rfl w.heap.size 8 (fun _ => by rfl) _ (fun w1 hR => rangeAt_blk [Value.int .i64 2, .int .i64 ck, .int .i64 p1, .int .i64 p2, .int .i64 p3, .int .i64 s1, .int .i64 s2, .int .i64 s3] [Value.int .i64 2, .int .i64 a, .int .i64 b, .int .i64 c, .int .i64 d, .int .i64 e1, .int .i64 f, .int .i64 g, .int .i64 x, .int .i64 y] [] (Hb.out.same (RT.same hR))) Tryz.underlying33 rfl (by kernel_rfl) ?_ ?_
  rotate_left
  · intro e; simp only [Act.put, List.setIfInBounds_toArray, List.set_cons_zero, List.set_cons_succ]; rfl
  refine mix_let (fun _ v w9 => NewB w0 23 3 v w9) ?_ (by exact Loc.const _ _) (fun i _ _ e u w w' hr h => h.keep hr.keep) ?_ ?_ ?_ ?_
  rotate_left
  · intro e; rfl
  · intro e w9 hR hF K hK; go_simp; exact hK _ _ _ (RkT.of_same ((Chg.refl _ _).alloc _)) ⟨_, rfl, Chg.size hR, _, rfl, Blk.new _ _ _⟩ (by simp only [Act.put, List.setIfInBounds_toArray, List.set_cons_zero, List.set_cons_succ])
  · intro e; simp only [Act.put, List.setIfInBounds_toArray, List.set_cons_zero, List.set_cons_succ]; rfl
  refine mix_let (fun _ v w9 => NewB w0 25 3 v w9) ?_ (by exact Loc.const _ _) (fun i _ _ e u w w' hr h => h.keep hr.keep) ?_ ?_ ?_ ?_
  rotate_left
  · intro e; rfl
  · intro e w9 hR hF K hK; go_simp; exact hK _ _ _ (RkT.of_same ((Chg.refl _ _).alloc _)) ⟨_, rfl, Chg.size hR, _, rfl, Blk.new _ _ _⟩ (by simp only [Act.put, List.setIfInBounds_toArray, List.set_cons_zero, List.set_cons_succ])
  · intro e; simp only [Act.put, List.setIfInBounds_toArray, List.set_cons_zero, List.set_cons_succ]; rfl
  refine mix_let (fun _ v w9 => NewB w0 33 10 v w9) ?_ (by exact Loc.const _ _) (fun i _ _ e u w w' hr h => h.keep hr.keep) ?_ ?_ ?_ ?_
  rotate_left
  · intro e; rfl
  · intro e w9 hR hF K hK; go_simp; exact hK _ _ _ (RkT.of_same ((Chg.refl _ _).alloc _)) ⟨_, rfl, Chg.size hR, _, rfl, Blk.new _ _ _⟩ (by simp only [Act.put, List.setIfInBounds_toArray, List.set_cons_zero, List.set_cons_succ])
  · intro e; simp only [Act.put, List.setIfInBounds_toArray, List.set_cons_zero, List.set_cons_succ]; rfl
  refine mt_st 8 23 3 [Value.int .i64 p1, .int .i64 p2, .int .i64 p3] ?_ (by rfl) rowPt.sz HP.out.len HP.out.one (fun _ => by rfl) (fun _ => by rfl) (fun _ => by rfl) (by kernel_rfl) (fun e w h => h) (by rfl) (by intro i hi h; (repeat' split at h) <;> first | omega | (cases h; done) | exact absurd h (by decide)) ?_ ?_
  rotate_left
  · intro e; rfl
  refine mt_st 9 25 3 [Value.int .i64 s1, .int .i64 s2, .int .i64 s3] ?_ (by rfl) rowSp.sz HSp.out.len HSp.out.one (fun _ => by rfl) (fun _ => by rfl) (fun _ => by rfl) (by kernel_rfl) (fun e w h => h) (by rfl) (by intro i hi h; (repeat' split at h) <;> first | omega | (cases h; done) | exact absurd h (by decide)) ?_ ?_
  rotate_left
  · intro e; rfl
  refine mt_st 10 33 10 [Value.int .i64 2, .int .i64 a, .int .i64 b, .int .i64 c, .int .i64 d, .int .i64 e1, .int .i64 f, .int .i64 g, .int .i64 x, .int .i64 y] ?_ (by rfl) rowQry.sz HQ.out.len HQ.out.one (fun _ => by rfl) (fun _ => by rfl) (fun _ => by rfl) (by kernel_rfl) (fun e w h => h) (by rfl) (by intro i hi h; (repeat' split at h) <;> first | omega | (cases h; done) | exact absurd h (by decide)) ?_ ?_
  rotate_left
  · intro e; rfl
  refine mix_nil fun e w3 hR hF => hFin _ _ ?_
  simp only [List.drop_succ_cons, List.drop_zero]
  obtain ⟨b4, h4, hz4, hB4⟩ := (show PutB w0 23 [Value.int .i64 p1, .int .i64 p2, .int .i64 p3] (e 8) w3 from hF 11 (by decide))
  obtain ⟨b5, h5, hz5, hB5⟩ := (show PutB w0 25 [Value.int .i64 s1, .int .i64 s2, .int .i64 s3] (e 9) w3 from hF 12 (by decide))
  obtain ⟨b6, h6, hz6, hB6⟩ := (show PutB w0 33 [Value.int .i64 2, .int .i64 a, .int .i64 b, .int .i64 c, .int .i64 d, .int .i64 e1, .int .i64 f, .int .i64 g, .int .i64 x, .int .i64 y] (e 10) w3 from hF 13 (by decide))
  rw [h4, h5, h6]
  have hsm := RT.same hR
  have hx0 := Hx.out.same hsm
  have hb0 := Hb.out.same hsm
  have hr0 := Hr.out.same hsm
  have Hne := hide (show (b4 ≠ (w.heap.size + 1 + 1) ∧ b5 ≠ (w.heap.size + 1 + 1) ∧ b6 ≠ (w.heap.size + 1 + 1)) from ⟨ty_ne hB4 hx0 (by decide), ty_ne hB5 hx0 (by decide), ty_ne hB6 hx0 (by decide)⟩)
  have HB := hide hb0
  have Hgx := hide (show w.heap.size ≠ (w.heap.size + 1 + 1) from by omega)
  have HR := hide hr0
  have HX3 := hide (show Blk w3 (w.heap.size + 1 + 1) 35 ([Value.int .i64 2, .int .i64 0, .int .i64 0, .int .i64 0, .int .i64 0, .int .i64 0, .int .i64 0, .int .i64 0, .int .i64 0, .int .i64 0, .int .i64 0, .int .i64 0, .int .i64 0, .int .i64 0, .int .i64 0, .int .i64 0, .int .i64 0, .int .i64 0]).toArray from hx0)
  have H4 := hide hB4
  have H5 := hide hB5
  have H6 := hide hB6
  have HS := hide (Same.trans Hs.out hsm)
  have kb0 : w3.cell? ⟨w.heap.size, 0, none⟩ = some (Value.int .i64 2) := (HB.out).cell 0
  have k60 : w3.cell? ⟨b6, 0, none⟩ = some (Value.int .i64 2) := (H6.out).cell 0
  have HcX3 := hide (Chg.refl (fun k => k = (w.heap.size + 1 + 1)) w3)
  clear hR hF hFin h4 h5 h6 hx0 hb0 hr0 hB4 hB5 hB6 hz4 hz5 hz6 hsm e Hb Hr Hx
  have Hrx := hide (show w.heap.size + 1 ≠ (w.heap.size + 1 + 1) from by omega)
  have HC4 := hide (⟨by show 8 < 18; decide, rfl⟩ : CellL [Value.int .i64 2, .int .i64 0, .int .i64 0, .int .i64 0, .int .i64 0, .int .i64 0, .int .i64 0, .int .i64 0, .int .i64 0, .int .i64 0, .int .i64 0, .int .i64 0, .int .i64 0, .int .i64 0, .int .i64 0, .int .i64 0, .int .i64 0, .int .i64 0] 8 (Value.int .i64 2))
  have HV5 := hide (RowL.lit rfl rfl : RowL [Value.int .i64 a, .int .i64 b, .int .i64 c, .int .i64 d] 4)
  have HZ5 := hide (RowL.lit rfl rfl : RowL [Value.int .i64 0, .int .i64 0, .int .i64 0, .int .i64 0] 4)
  have HO5 := hide (RowL.lit rfl rfl : RowL [Value.int .i64 2, .int .i64 0, .int .i64 0, .int .i64 0, .int .i64 0, .int .i64 0, .int .i64 0, .int .i64 0, .int .i64 2] 9)
  go_wp2_with (first
    | ((with_reducible refine stCg 3 (w.heap.size + 1 + 1) 8 (Value.int .i64 2) 35 [Value.int .i64 2, .int .i64 0, .int .i64 0, .int .i64 0, .int .i64 0, .int .i64 0, .int .i64 0, .int .i64 0, .int .i64 0, .int .i64 0, .int .i64 0, .int .i64 0, .int .i64 0, .int .i64 0, .int .i64 0, .int .i64 0, .int .i64 0, .int .i64 0] intSz HC4.out.one HX3.out HC4.out.lt ?_ ?_ ?_); rfl; rfl; intro w4 hc hb; clear kb0 k60; have HX4 := hide (show Blk w4 (w.heap.size + 1 + 1) 35 ([Value.int .i64 2, .int .i64 0, .int .i64 0, .int .i64 0, .int .i64 0, .int .i64 0, .int .i64 0, .int .i64 0, .int .i64 2] ++ [Value.int .i64 0, .int .i64 0, .int .i64 0, .int .i64 0] ++ [Value.int .i64 0, .int .i64 0, .int .i64 0, .int .i64 0, .int .i64 0]).toArray from hb); have hc' := Chg.trans HcX3.out hc (fun _ _ e => e); have HcX4 := hide hc'; have kb0 : w4.cell? ⟨w.heap.size, 0, none⟩ = some (Value.int .i64 2) := (HB.out.chg hc' Hgx.out).cell 0; have k60 : w4.cell? ⟨b6, 0, none⟩ = some (Value.int .i64 2) := (H6.out.chg hc' Hne.out.2.2).cell 0; clear hc hc' hb)
    | ((with_reducible refine ldR 29 b6 1 4 [Value.int .i64 a, .int .i64 b, .int .i64 c, .int .i64 d] rowBox HV5.out.len (rangeAt_blk [Value.int .i64 2] [Value.int .i64 a, .int .i64 b, .int .i64 c, .int .i64 d] [Value.int .i64 e1, .int .i64 f, .int .i64 g, .int .i64 x, .int .i64 y] (H6.out.chg HcX4.out Hne.out.2.2)) ?_ ?_ ?_); rfl; rfl)
    | ((with_reducible refine stMg 29 (w.heap.size + 1 + 1) 9 4 [Value.int .i64 2, .int .i64 0, .int .i64 0, .int .i64 0, .int .i64 0, .int .i64 0, .int .i64 0, .int .i64 0, .int .i64 2] [Value.int .i64 0, .int .i64 0, .int .i64 0, .int .i64 0] [Value.int .i64 0, .int .i64 0, .int .i64 0, .int .i64 0, .int .i64 0] [Value.int .i64 a, .int .i64 b, .int .i64 c, .int .i64 d] 35 rowBox HV5.out.len HZ5.out.len HO5.out.len HX4.out HV5.out.one ?_ ?_ ?_); rfl; rfl; intro w5 hc hb; clear kb0 k60; have HX5 := hide (show Blk w5 (w.heap.size + 1 + 1) 35 ([Value.int .i64 2, .int .i64 0, .int .i64 0, .int .i64 0, .int .i64 0, .int .i64 0, .int .i64 0, .int .i64 0, .int .i64 2, .int .i64 a, .int .i64 b, .int .i64 c, .int .i64 d, .int .i64 0, .int .i64 0, .int .i64 0, .int .i64 0, .int .i64 0]).toArray from hb); have hc' := Chg.trans HcX4.out hc (fun _ _ e => e); have HcX5 := hide hc'; have kb0 : w5.cell? ⟨w.heap.size, 0, none⟩ = some (Value.int .i64 2) := (HB.out.chg hc' Hgx.out).cell 0; have k60 : w5.cell? ⟨b6, 0, none⟩ = some (Value.int .i64 2) := (H6.out.chg hc' Hne.out.2.2).cell 0; clear hc hc' hb)
    | ((with_reducible refine ldR 35 (w.heap.size + 1 + 1) 0 18 [Value.int .i64 2, .int .i64 0, .int .i64 0, .int .i64 0, .int .i64 0, .int .i64 0, .int .i64 0, .int .i64 0, .int .i64 2, .int .i64 a, .int .i64 b, .int .i64 c, .int .i64 d, .int .i64 0, .int .i64 0, .int .i64 0, .int .i64 0, .int .i64 0] rowReq HF.out.len (blk_range HX5.out) ?_ ?_ ?_); rfl; rfl)
    | ((with_reducible refine stRg 35 (w.heap.size + 1) 18 [Value.int .i64 2, .int .i64 0, .int .i64 0, .int .i64 0, .int .i64 0, .int .i64 0, .int .i64 0, .int .i64 0, .int .i64 2, .int .i64 a, .int .i64 b, .int .i64 c, .int .i64 d, .int .i64 0, .int .i64 0, .int .i64 0, .int .i64 0, .int .i64 0] 35 _ rowReq HF.out.len ?_ (HR.out.chg HcX5.out Hrx.out) HF.out.one ?_ ?_ ?_); rfl; rfl; rfl; intro w9 hc9 hz9 hb9; have Hc9 := hide hc9; have Hb9 := hide hb9; clear hc9 hz9 hb9)
    | fail)
  refine bodyPost_ret (results_cell_row rfl _ _ _ _ _ _ _ rfl Hb9.out Tryz.underlying35 rfl (by kernel_rfl)) (by rfl) (show _ ∧ _ from ⟨rfl, ?_⟩)
  have h1 : Chg (fun k => w.heap.size ≤ k) w w3 := Same.to HS.out
  have h2 : Chg (fun k => w.heap.size ≤ k) w w5 := Chg.trans h1 HcX5.out (fun k _ e => (by have e' : k = (w.heap.size + 1 + 1) := e; omega))
  exact Chg.fresh (S := fun k => w.heap.size ≤ k) (Chg.trans h2 Hc9.out (fun k _ e => (by have e' : k = w.heap.size + 1 := e; omega))) (fun _ h => h)
set_option maxRecDepth 100000 in
set_option maxHeartbeats 8000000 in
theorem ronly_13 (ck p1 p2 p3 s1 s2 s3 a b c d e1 f g x y : Int) (w : World) :
    Calls Tryz.prog 27 #[.agg #[Value.int .i64 2, .int .i64 ck, .int .i64 p1, .int .i64 p2, .int .i64 p3, .int .i64 s1, .int .i64 s2, .int .i64 s3, .int .i64 3, .int .i64 a, .int .i64 b, .int .i64 c, .int .i64 d, .int .i64 e1, .int .i64 f, .int .i64 g, .int .i64 x, .int .i64 y]] w fun en w' => en = .returned (.agg #[Value.int .i64 2, .int .i64 0, .int .i64 0, .int .i64 0, .int .i64 0, .int .i64 0, .int .i64 0, .int .i64 0, .int .i64 3, .int .i64 0, .int .i64 0, .int .i64 0, .int .i64 0, .int .i64 e1, .int .i64 f, .int .i64 g, .int .i64 0, .int .i64 0]) ∧ Same w w'  := by
  have hb := (Blk.new w 35 #[Value.int .i64 2, .int .i64 ck, .int .i64 p1, .int .i64 p2, .int .i64 p3, .int .i64 s1, .int .i64 s2, .int .i64 s3, .int .i64 3, .int .i64 a, .int .i64 b, .int .i64 c, .int .i64 d, .int .i64 e1, .int .i64 f, .int .i64 g, .int .i64 x, .int .i64 y]).alloc (.cells #[Value.int .i64 0, .int .i64 0, .int .i64 0, .int .i64 0, .int .i64 0, .int .i64 0, .int .i64 0, .int .i64 0, .int .i64 0, .int .i64 0, .int .i64 0, .int .i64 0, .int .i64 0, .int .i64 0, .int .i64 0, .int .i64 0, .int .i64 0, .int .i64 0] 35)
  have hr := Blk.new (w.alloc (.cells #[Value.int .i64 2, .int .i64 ck, .int .i64 p1, .int .i64 p2, .int .i64 p3, .int .i64 s1, .int .i64 s2, .int .i64 s3, .int .i64 3, .int .i64 a, .int .i64 b, .int .i64 c, .int .i64 d, .int .i64 e1, .int .i64 f, .int .i64 g, .int .i64 x, .int .i64 y] 35)) 35 #[Value.int .i64 0, .int .i64 0, .int .i64 0, .int .i64 0, .int .i64 0, .int .i64 0, .int .i64 0, .int .i64 0, .int .i64 0, .int .i64 0, .int .i64 0, .int .i64 0, .int .i64 0, .int .i64 0, .int .i64 0, .int .i64 0, .int .i64 0, .int .i64 0]
  simp only [World.size_alloc] at hr
  have hs : Same w ((w.alloc (.cells #[Value.int .i64 2, .int .i64 ck, .int .i64 p1, .int .i64 p2, .int .i64 p3, .int .i64 s1, .int .i64 s2, .int .i64 s3, .int .i64 3, .int .i64 a, .int .i64 b, .int .i64 c, .int .i64 d, .int .i64 e1, .int .i64 f, .int .i64 g, .int .i64 x, .int .i64 y] 35)).alloc (.cells #[Value.int .i64 0, .int .i64 0, .int .i64 0, .int .i64 0, .int .i64 0, .int .i64 0, .int .i64 0, .int .i64 0, .int .i64 0, .int .i64 0, .int .i64 0, .int .i64 0, .int .i64 0, .int .i64 0, .int .i64 0, .int .i64 0, .int .i64 0, .int .i64 0] 35)) := ((Chg.refl _ w).alloc _).alloc _
  have Hb0 := hide hb
  have Hr0 := hide hr
  have Hs0 := hide hs
  have HXL := hide (RowL.lit rfl rfl : RowL [Value.int .i64 2, .int .i64 0, .int .i64 0, .int .i64 0, .int .i64 0, .int .i64 0, .int .i64 0, .int .i64 0, .int .i64 0, .int .i64 0, .int .i64 0, .int .i64 0, .int .i64 0, .int .i64 0, .int .i64 0, .int .i64 0, .int .i64 0, .int .i64 0] 18)
  clear hb hr hs
  go_enter Tryz.func27, Tryz.ntmps27
  go_wp2_with (first
    | ((with_reducible refine stNg 35 18 [Value.int .i64 2, .int .i64 0, .int .i64 0, .int .i64 0, .int .i64 0, .int .i64 0, .int .i64 0, .int .i64 0, .int .i64 0, .int .i64 0, .int .i64 0, .int .i64 0, .int .i64 0, .int .i64 0, .int .i64 0, .int .i64 0, .int .i64 0, .int .i64 0] 35 _ rowReq HXL.out.len ?_ HXL.out.one ?_ ?_ ?_); rfl; (simp only [World.size_alloc]; rfl); rfl; intro w0 hs1 hz1 hb1; simp only [World.size_alloc] at hb1; have Hs := hide (Same.trans Hs0.out hs1); have Hx := hide (show Blk w0 (w.heap.size + 1 + 1) 35 #[Value.int .i64 2, .int .i64 0, .int .i64 0, .int .i64 0, .int .i64 0, .int .i64 0, .int .i64 0, .int .i64 0, .int .i64 0, .int .i64 0, .int .i64 0, .int .i64 0, .int .i64 0, .int .i64 0, .int .i64 0, .int .i64 0, .int .i64 0, .int .i64 0] from hb1); have Hb := hide (Hb0.out.same hs1); have Hr := hide (Hr0.out.same hs1); clear hs1 hz1 hb1)
    | fail)
  clear Hs0 Hb0 Hr0 HXL
  have HP := hide (RowL.lit rfl rfl : RowL [Value.int .i64 p1, .int .i64 p2, .int .i64 p3] 3)
  have HSp := hide (RowL.lit rfl rfl : RowL [Value.int .i64 s1, .int .i64 s2, .int .i64 s3] 3)
  have HQ := hide (RowL.lit rfl rfl : RowL [Value.int .i64 3, .int .i64 a, .int .i64 b, .int .i64 c, .int .i64 d, .int .i64 e1, .int .i64 f, .int .i64 g, .int .i64 x, .int .i64 y] 10)
  have HF := hide (RowL.lit rfl rfl : RowL [Value.int .i64 2, .int .i64 0, .int .i64 0, .int .i64 0, .int .i64 0, .int .i64 0, .int .i64 0, .int .i64 0, .int .i64 3, .int .i64 0, .int .i64 0, .int .i64 0, .int .i64 0, .int .i64 e1, .int .i64 f, .int .i64 g, .int .i64 0, .int .i64 0] 18)
  refine wp_region_mixT (fun k => if k = 11 then some 23 else if k = 12 then some 25 else if k = 13 then some 33 else none) 14 (by kernel_rfl) (by kernel_rfl) fun Fin hFin => ?_
  simp only [List.take_succ_cons, List.take_zero]
  iterate 2 (
      (refine mix_lit ?_ ?_ (fun w => RkT.of_same (Chg.refl _ w)) ?_ ?_ ?_ ?_
       rotate_left; rotate_left
       · intro e w1 hR hF K hK; (skip); go_simp; (refine hK _ _ (RkT.of_same (Chg.refl _ _)) ?_; rfl)
       · intro e; simp only [Act.put, List.setIfInBounds_toArray, List.set_cons_zero, List.set_cons_succ]; rfl
       · exact Loc.const _ _))
  refine mix_ld [Value.int .i64 p1, .int .i64 p2, .int .i64 p3] ?_ (fun w => RkT.of_same (Chg.refl _ w)) (fun _ => by rfl) 23 _ rfl w.heap.size 2 (fun _ => by rfl) _ (fun w1 hR => rangeAt_blk [Value.int .i64 2, .int .i64 ck] [Value.int .i64 p1, .int .i64 p2, .int .i64 p3] [Value.int .i64 s1, .int .i64 s2, .int .i64 s3, .int .i64 3, .int .i64 a, .int .i64 b, .int .i64 c, .int .i64 d, .int .i64 e1, .int .i64 f, .int .i64 g, .int .i64 x, .int .i64 y] (Hb.out.same (RT.same hR))) Tryz.underlying23 rfl (by kernel_rfl) ?_ ?_
  rotate_left
  · intro e; simp only [Act.put, List.setIfInBounds_toArray, List.set_cons_zero, List.set_cons_succ]; rfl
  iterate 2 (
      (refine mix_lit ?_ ?_ (fun w => RkT.of_same (Chg.refl _ w)) ?_ ?_ ?_ ?_
       rotate_left; rotate_left
       · intro e w1 hR hF K hK; (skip); go_simp; (refine hK _ _ (RkT.of_same (Chg.refl _ _)) ?_; rfl)
       · intro e; simp only [Act.put, List.setIfInBounds_toArray, List.set_cons_zero, List.set_cons_succ]; rfl
       · exact Loc.const _ _))
  refine mix_ld [Value.int .i64 s1, .int .i64 s2, .int .i64 s3] ?_ (fun w => RkT.of_same (Chg.refl _ w)) (fun _ => by rfl) 25 _ rfl w.heap.size 5 (fun _ => by rfl) _ (fun w1 hR => rangeAt_blk [Value.int .i64 2, .int .i64 ck, .int .i64 p1, .int .i64 p2, .int .i64 p3] [Value.int .i64 s1, .int .i64 s2, .int .i64 s3] [Value.int .i64 3, .int .i64 a, .int .i64 b, .int .i64 c, .int .i64 d, .int .i64 e1, .int .i64 f, .int .i64 g, .int .i64 x, .int .i64 y] (Hb.out.same (RT.same hR))) Tryz.underlying25 rfl (by kernel_rfl) ?_ ?_
  rotate_left
  · intro e; simp only [Act.put, List.setIfInBounds_toArray, List.set_cons_zero, List.set_cons_succ]; rfl
  iterate 1 (
      (refine mix_lit ?_ ?_ (fun w => RkT.of_same (Chg.refl _ w)) ?_ ?_ ?_ ?_
       rotate_left; rotate_left
       · intro e w1 hR hF K hK; (skip); go_simp; (refine hK _ _ (RkT.of_same (Chg.refl _ _)) ?_; rfl)
       · intro e; simp only [Act.put, List.setIfInBounds_toArray, List.set_cons_zero, List.set_cons_succ]; rfl
       · exact Loc.const _ _))
  refine mix_ld [Value.int .i64 3, .int .i64 a, .int .i64 b, .int .i64 c, .int .i64 d, .int .i64 e1, .int .i64 f, .int .i64 g, .int .i64 x, .int .i64 y] ?_ (fun w => RkT.of_same (Chg.refl _ w)) (fun _ => by rfl) 33 _ rfl w.heap.size 8 (fun _ => by rfl) _ (fun w1 hR => rangeAt_blk [Value.int .i64 2, .int .i64 ck, .int .i64 p1, .int .i64 p2, .int .i64 p3, .int .i64 s1, .int .i64 s2, .int .i64 s3] [Value.int .i64 3, .int .i64 a, .int .i64 b, .int .i64 c, .int .i64 d, .int .i64 e1, .int .i64 f, .int .i64 g, .int .i64 x, .int .i64 y] [] (Hb.out.same (RT.same hR))) Tryz.underlying33 rfl (by kernel_rfl) ?_ ?_
  rotate_left
  · intro e; simp only [Act.put, List.setIfInBounds_toArray, List.set_cons_zero, List.set_cons_succ]; rfl
  refine mix_let (fun _ v w9 => NewB w0 23 3 v w9) ?_ (by exact Loc.const _ _) (fun i _ _ e u w w' hr h => h.keep hr.keep) ?_ ?_ ?_ ?_
  rotate_left
  · intro e; rfl
  · intro e w9 hR hF K hK; go_simp; exact hK _ _ _ (RkT.of_same ((Chg.refl _ _).alloc _)) ⟨_, rfl, Chg.size hR, _, rfl, Blk.new _ _ _⟩ (by simp only [Act.put, List.setIfInBounds_toArray, List.set_cons_zero, List.set_cons_succ])
  · intro e; simp only [Act.put, List.setIfInBounds_toArray, List.set_cons_zero, List.set_cons_succ]; rfl
  refine mix_let (fun _ v w9 => NewB w0 25 3 v w9) ?_ (by exact Loc.const _ _) (fun i _ _ e u w w' hr h => h.keep hr.keep) ?_ ?_ ?_ ?_
  rotate_left
  · intro e; rfl
  · intro e w9 hR hF K hK; go_simp; exact hK _ _ _ (RkT.of_same ((Chg.refl _ _).alloc _)) ⟨_, rfl, Chg.size hR, _, rfl, Blk.new _ _ _⟩ (by simp only [Act.put, List.setIfInBounds_toArray, List.set_cons_zero, List.set_cons_succ])
  · intro e; simp only [Act.put, List.setIfInBounds_toArray, List.set_cons_zero, List.set_cons_succ]; rfl
  refine mix_let (fun _ v w9 => NewB w0 33 10 v w9) ?_ (by exact Loc.const _ _) (fun i _ _ e u w w' hr h => h.keep hr.keep) ?_ ?_ ?_ ?_
  rotate_left
  · intro e; rfl
  · intro e w9 hR hF K hK; go_simp; exact hK _ _ _ (RkT.of_same ((Chg.refl _ _).alloc _)) ⟨_, rfl, Chg.size hR, _, rfl, Blk.new _ _ _⟩ (by simp only [Act.put, List.setIfInBounds_toArray, List.set_cons_zero, List.set_cons_succ])
  · intro e; simp only [Act.put, List.setIfInBounds_toArray, List.set_cons_zero, List.set_cons_succ]; rfl
  refine mt_st 8 23 3 [Value.int .i64 p1, .int .i64 p2, .int .i64 p3] ?_ (by rfl) rowPt.sz HP.out.len HP.out.one (fun _ => by rfl) (fun _ => by rfl) (fun _ => by rfl) (by kernel_rfl) (fun e w h => h) (by rfl) (by intro i hi h; (repeat' split at h) <;> first | omega | (cases h; done) | exact absurd h (by decide)) ?_ ?_
  rotate_left
  · intro e; rfl
  refine mt_st 9 25 3 [Value.int .i64 s1, .int .i64 s2, .int .i64 s3] ?_ (by rfl) rowSp.sz HSp.out.len HSp.out.one (fun _ => by rfl) (fun _ => by rfl) (fun _ => by rfl) (by kernel_rfl) (fun e w h => h) (by rfl) (by intro i hi h; (repeat' split at h) <;> first | omega | (cases h; done) | exact absurd h (by decide)) ?_ ?_
  rotate_left
  · intro e; rfl
  refine mt_st 10 33 10 [Value.int .i64 3, .int .i64 a, .int .i64 b, .int .i64 c, .int .i64 d, .int .i64 e1, .int .i64 f, .int .i64 g, .int .i64 x, .int .i64 y] ?_ (by rfl) rowQry.sz HQ.out.len HQ.out.one (fun _ => by rfl) (fun _ => by rfl) (fun _ => by rfl) (by kernel_rfl) (fun e w h => h) (by rfl) (by intro i hi h; (repeat' split at h) <;> first | omega | (cases h; done) | exact absurd h (by decide)) ?_ ?_
  rotate_left
  · intro e; rfl
  refine mix_nil fun e w3 hR hF => hFin _ _ ?_
  simp only [List.drop_succ_cons, List.drop_zero]
  obtain ⟨b4, h4, hz4, hB4⟩ := (show PutB w0 23 [Value.int .i64 p1, .int .i64 p2, .int .i64 p3] (e 8) w3 from hF 11 (by decide))
  obtain ⟨b5, h5, hz5, hB5⟩ := (show PutB w0 25 [Value.int .i64 s1, .int .i64 s2, .int .i64 s3] (e 9) w3 from hF 12 (by decide))
  obtain ⟨b6, h6, hz6, hB6⟩ := (show PutB w0 33 [Value.int .i64 3, .int .i64 a, .int .i64 b, .int .i64 c, .int .i64 d, .int .i64 e1, .int .i64 f, .int .i64 g, .int .i64 x, .int .i64 y] (e 10) w3 from hF 13 (by decide))
  rw [h4, h5, h6]
  have hsm := RT.same hR
  have hx0 := Hx.out.same hsm
  have hb0 := Hb.out.same hsm
  have hr0 := Hr.out.same hsm
  have Hne := hide (show (b4 ≠ (w.heap.size + 1 + 1) ∧ b5 ≠ (w.heap.size + 1 + 1) ∧ b6 ≠ (w.heap.size + 1 + 1)) from ⟨ty_ne hB4 hx0 (by decide), ty_ne hB5 hx0 (by decide), ty_ne hB6 hx0 (by decide)⟩)
  have HB := hide hb0
  have Hgx := hide (show w.heap.size ≠ (w.heap.size + 1 + 1) from by omega)
  have HR := hide hr0
  have HX3 := hide (show Blk w3 (w.heap.size + 1 + 1) 35 ([Value.int .i64 2, .int .i64 0, .int .i64 0, .int .i64 0, .int .i64 0, .int .i64 0, .int .i64 0, .int .i64 0, .int .i64 0, .int .i64 0, .int .i64 0, .int .i64 0, .int .i64 0, .int .i64 0, .int .i64 0, .int .i64 0, .int .i64 0, .int .i64 0]).toArray from hx0)
  have H4 := hide hB4
  have H5 := hide hB5
  have H6 := hide hB6
  have HS := hide (Same.trans Hs.out hsm)
  have kb0 : w3.cell? ⟨w.heap.size, 0, none⟩ = some (Value.int .i64 2) := (HB.out).cell 0
  have k60 : w3.cell? ⟨b6, 0, none⟩ = some (Value.int .i64 3) := (H6.out).cell 0
  have HcX3 := hide (Chg.refl (fun k => k = (w.heap.size + 1 + 1)) w3)
  clear hR hF hFin h4 h5 h6 hx0 hb0 hr0 hB4 hB5 hB6 hz4 hz5 hz6 hsm e Hb Hr Hx
  have Hrx := hide (show w.heap.size + 1 ≠ (w.heap.size + 1 + 1) from by omega)
  have HC4 := hide (⟨by show 8 < 18; decide, rfl⟩ : CellL [Value.int .i64 2, .int .i64 0, .int .i64 0, .int .i64 0, .int .i64 0, .int .i64 0, .int .i64 0, .int .i64 0, .int .i64 0, .int .i64 0, .int .i64 0, .int .i64 0, .int .i64 0, .int .i64 0, .int .i64 0, .int .i64 0, .int .i64 0, .int .i64 0] 8 (Value.int .i64 3))
  have HV5 := hide (RowL.lit rfl rfl : RowL [Value.int .i64 e1, .int .i64 f, .int .i64 g] 3)
  have HZ5 := hide (RowL.lit rfl rfl : RowL [Value.int .i64 0, .int .i64 0, .int .i64 0] 3)
  have HO5 := hide (RowL.lit rfl rfl : RowL [Value.int .i64 2, .int .i64 0, .int .i64 0, .int .i64 0, .int .i64 0, .int .i64 0, .int .i64 0, .int .i64 0, .int .i64 3, .int .i64 0, .int .i64 0, .int .i64 0, .int .i64 0] 13)
  go_wp2_with (first
    | ((with_reducible refine stCg 3 (w.heap.size + 1 + 1) 8 (Value.int .i64 3) 35 [Value.int .i64 2, .int .i64 0, .int .i64 0, .int .i64 0, .int .i64 0, .int .i64 0, .int .i64 0, .int .i64 0, .int .i64 0, .int .i64 0, .int .i64 0, .int .i64 0, .int .i64 0, .int .i64 0, .int .i64 0, .int .i64 0, .int .i64 0, .int .i64 0] intSz HC4.out.one HX3.out HC4.out.lt ?_ ?_ ?_); rfl; rfl; intro w4 hc hb; clear kb0 k60; have HX4 := hide (show Blk w4 (w.heap.size + 1 + 1) 35 ([Value.int .i64 2, .int .i64 0, .int .i64 0, .int .i64 0, .int .i64 0, .int .i64 0, .int .i64 0, .int .i64 0, .int .i64 3, .int .i64 0, .int .i64 0, .int .i64 0, .int .i64 0] ++ [Value.int .i64 0, .int .i64 0, .int .i64 0] ++ [Value.int .i64 0, .int .i64 0]).toArray from hb); have hc' := Chg.trans HcX3.out hc (fun _ _ e => e); have HcX4 := hide hc'; have kb0 : w4.cell? ⟨w.heap.size, 0, none⟩ = some (Value.int .i64 2) := (HB.out.chg hc' Hgx.out).cell 0; have k60 : w4.cell? ⟨b6, 0, none⟩ = some (Value.int .i64 3) := (H6.out.chg hc' Hne.out.2.2).cell 0; clear hc hc' hb)
    | ((with_reducible refine ldR 31 b6 5 3 [Value.int .i64 e1, .int .i64 f, .int .i64 g] rowWin HV5.out.len (rangeAt_blk [Value.int .i64 3, .int .i64 a, .int .i64 b, .int .i64 c, .int .i64 d] [Value.int .i64 e1, .int .i64 f, .int .i64 g] [Value.int .i64 x, .int .i64 y] (H6.out.chg HcX4.out Hne.out.2.2)) ?_ ?_ ?_); rfl; rfl)
    | ((with_reducible refine stMg 31 (w.heap.size + 1 + 1) 13 3 [Value.int .i64 2, .int .i64 0, .int .i64 0, .int .i64 0, .int .i64 0, .int .i64 0, .int .i64 0, .int .i64 0, .int .i64 3, .int .i64 0, .int .i64 0, .int .i64 0, .int .i64 0] [Value.int .i64 0, .int .i64 0, .int .i64 0] [Value.int .i64 0, .int .i64 0] [Value.int .i64 e1, .int .i64 f, .int .i64 g] 35 rowWin HV5.out.len HZ5.out.len HO5.out.len HX4.out HV5.out.one ?_ ?_ ?_); rfl; rfl; intro w5 hc hb; clear kb0 k60; have HX5 := hide (show Blk w5 (w.heap.size + 1 + 1) 35 ([Value.int .i64 2, .int .i64 0, .int .i64 0, .int .i64 0, .int .i64 0, .int .i64 0, .int .i64 0, .int .i64 0, .int .i64 3, .int .i64 0, .int .i64 0, .int .i64 0, .int .i64 0, .int .i64 e1, .int .i64 f, .int .i64 g, .int .i64 0, .int .i64 0]).toArray from hb); have hc' := Chg.trans HcX4.out hc (fun _ _ e => e); have HcX5 := hide hc'; have kb0 : w5.cell? ⟨w.heap.size, 0, none⟩ = some (Value.int .i64 2) := (HB.out.chg hc' Hgx.out).cell 0; have k60 : w5.cell? ⟨b6, 0, none⟩ = some (Value.int .i64 3) := (H6.out.chg hc' Hne.out.2.2).cell 0; clear hc hc' hb)
    | ((with_reducible refine ldR 35 (w.heap.size + 1 + 1) 0 18 [Value.int .i64 2, .int .i64 0, .int .i64 0, .int .i64 0, .int .i64 0, .int .i64 0, .int .i64 0, .int .i64 0, .int .i64 3, .int .i64 0, .int .i64 0, .int .i64 0, .int .i64 0, .int .i64 e1, .int .i64 f, .int .i64 g, .int .i64 0, .int .i64 0] rowReq HF.out.len (blk_range HX5.out) ?_ ?_ ?_); rfl; rfl)
    | ((with_reducible refine stRg 35 (w.heap.size + 1) 18 [Value.int .i64 2, .int .i64 0, .int .i64 0, .int .i64 0, .int .i64 0, .int .i64 0, .int .i64 0, .int .i64 0, .int .i64 3, .int .i64 0, .int .i64 0, .int .i64 0, .int .i64 0, .int .i64 e1, .int .i64 f, .int .i64 g, .int .i64 0, .int .i64 0] 35 _ rowReq HF.out.len ?_ (HR.out.chg HcX5.out Hrx.out) HF.out.one ?_ ?_ ?_); rfl; rfl; rfl; intro w9 hc9 hz9 hb9; have Hc9 := hide hc9; have Hb9 := hide hb9; clear hc9 hz9 hb9)
    | fail)
  refine bodyPost_ret (results_cell_row rfl _ _ _ _ _ _ _ rfl Hb9.out Tryz.underlying35 rfl (by kernel_rfl)) (by rfl) (show _ ∧ _ from ⟨rfl, ?_⟩)
  have h1 : Chg (fun k => w.heap.size ≤ k) w w3 := Same.to HS.out
  have h2 : Chg (fun k => w.heap.size ≤ k) w w5 := Chg.trans h1 HcX5.out (fun k _ e => (by have e' : k = (w.heap.size + 1 + 1) := e; omega))
  exact Chg.fresh (S := fun k => w.heap.size ≤ k) (Chg.trans h2 Hc9.out (fun k _ e => (by have e' : k = w.heap.size + 1 := e; omega))) (fun _ h => h)
set_option maxRecDepth 100000 in
set_option maxHeartbeats 8000000 in
theorem ronly_14 (ck p1 p2 p3 s1 s2 s3 a b c d e1 f g x y : Int) (w : World) :
    Calls Tryz.prog 27 #[.agg #[Value.int .i64 2, .int .i64 ck, .int .i64 p1, .int .i64 p2, .int .i64 p3, .int .i64 s1, .int .i64 s2, .int .i64 s3, .int .i64 4, .int .i64 a, .int .i64 b, .int .i64 c, .int .i64 d, .int .i64 e1, .int .i64 f, .int .i64 g, .int .i64 x, .int .i64 y]] w fun en w' => en = .returned (.agg #[Value.int .i64 2, .int .i64 0, .int .i64 0, .int .i64 0, .int .i64 0, .int .i64 0, .int .i64 0, .int .i64 0, .int .i64 4, .int .i64 0, .int .i64 0, .int .i64 0, .int .i64 0, .int .i64 e1, .int .i64 f, .int .i64 g, .int .i64 0, .int .i64 0]) ∧ Same w w'  := by
  have hb := (Blk.new w 35 #[Value.int .i64 2, .int .i64 ck, .int .i64 p1, .int .i64 p2, .int .i64 p3, .int .i64 s1, .int .i64 s2, .int .i64 s3, .int .i64 4, .int .i64 a, .int .i64 b, .int .i64 c, .int .i64 d, .int .i64 e1, .int .i64 f, .int .i64 g, .int .i64 x, .int .i64 y]).alloc (.cells #[Value.int .i64 0, .int .i64 0, .int .i64 0, .int .i64 0, .int .i64 0, .int .i64 0, .int .i64 0, .int .i64 0, .int .i64 0, .int .i64 0, .int .i64 0, .int .i64 0, .int .i64 0, .int .i64 0, .int .i64 0, .int .i64 0, .int .i64 0, .int .i64 0] 35)
  have hr := Blk.new (w.alloc (.cells #[Value.int .i64 2, .int .i64 ck, .int .i64 p1, .int .i64 p2, .int .i64 p3, .int .i64 s1, .int .i64 s2, .int .i64 s3, .int .i64 4, .int .i64 a, .int .i64 b, .int .i64 c, .int .i64 d, .int .i64 e1, .int .i64 f, .int .i64 g, .int .i64 x, .int .i64 y] 35)) 35 #[Value.int .i64 0, .int .i64 0, .int .i64 0, .int .i64 0, .int .i64 0, .int .i64 0, .int .i64 0, .int .i64 0, .int .i64 0, .int .i64 0, .int .i64 0, .int .i64 0, .int .i64 0, .int .i64 0, .int .i64 0, .int .i64 0, .int .i64 0, .int .i64 0]
  simp only [World.size_alloc] at hr
  have hs : Same w ((w.alloc (.cells #[Value.int .i64 2, .int .i64 ck, .int .i64 p1, .int .i64 p2, .int .i64 p3, .int .i64 s1, .int .i64 s2, .int .i64 s3, .int .i64 4, .int .i64 a, .int .i64 b, .int .i64 c, .int .i64 d, .int .i64 e1, .int .i64 f, .int .i64 g, .int .i64 x, .int .i64 y] 35)).alloc (.cells #[Value.int .i64 0, .int .i64 0, .int .i64 0, .int .i64 0, .int .i64 0, .int .i64 0, .int .i64 0, .int .i64 0, .int .i64 0, .int .i64 0, .int .i64 0, .int .i64 0, .int .i64 0, .int .i64 0, .int .i64 0, .int .i64 0, .int .i64 0, .int .i64 0] 35)) := ((Chg.refl _ w).alloc _).alloc _
  have Hb0 := hide hb
  have Hr0 := hide hr
  have Hs0 := hide hs
  have HXL := hide (RowL.lit rfl rfl : RowL [Value.int .i64 2, .int .i64 0, .int .i64 0, .int .i64 0, .int .i64 0, .int .i64 0, .int .i64 0, .int .i64 0, .int .i64 0, .int .i64 0, .int .i64 0, .int .i64 0, .int .i64 0, .int .i64 0, .int .i64 0, .int .i64 0, .int .i64 0, .int .i64 0] 18)
  clear hb hr hs
  go_enter Tryz.func27, Tryz.ntmps27
  go_wp2_with (first
    | ((with_reducible refine stNg 35 18 [Value.int .i64 2, .int .i64 0, .int .i64 0, .int .i64 0, .int .i64 0, .int .i64 0, .int .i64 0, .int .i64 0, .int .i64 0, .int .i64 0, .int .i64 0, .int .i64 0, .int .i64 0, .int .i64 0, .int .i64 0, .int .i64 0, .int .i64 0, .int .i64 0] 35 _ rowReq HXL.out.len ?_ HXL.out.one ?_ ?_ ?_); rfl; (simp only [World.size_alloc]; rfl); rfl; intro w0 hs1 hz1 hb1; simp only [World.size_alloc] at hb1; have Hs := hide (Same.trans Hs0.out hs1); have Hx := hide (show Blk w0 (w.heap.size + 1 + 1) 35 #[Value.int .i64 2, .int .i64 0, .int .i64 0, .int .i64 0, .int .i64 0, .int .i64 0, .int .i64 0, .int .i64 0, .int .i64 0, .int .i64 0, .int .i64 0, .int .i64 0, .int .i64 0, .int .i64 0, .int .i64 0, .int .i64 0, .int .i64 0, .int .i64 0] from hb1); have Hb := hide (Hb0.out.same hs1); have Hr := hide (Hr0.out.same hs1); clear hs1 hz1 hb1)
    | fail)
  clear Hs0 Hb0 Hr0 HXL
  have HP := hide (RowL.lit rfl rfl : RowL [Value.int .i64 p1, .int .i64 p2, .int .i64 p3] 3)
  have HSp := hide (RowL.lit rfl rfl : RowL [Value.int .i64 s1, .int .i64 s2, .int .i64 s3] 3)
  have HQ := hide (RowL.lit rfl rfl : RowL [Value.int .i64 4, .int .i64 a, .int .i64 b, .int .i64 c, .int .i64 d, .int .i64 e1, .int .i64 f, .int .i64 g, .int .i64 x, .int .i64 y] 10)
  have HF := hide (RowL.lit rfl rfl : RowL [Value.int .i64 2, .int .i64 0, .int .i64 0, .int .i64 0, .int .i64 0, .int .i64 0, .int .i64 0, .int .i64 0, .int .i64 4, .int .i64 0, .int .i64 0, .int .i64 0, .int .i64 0, .int .i64 e1, .int .i64 f, .int .i64 g, .int .i64 0, .int .i64 0] 18)
  refine wp_region_mixT (fun k => if k = 11 then some 23 else if k = 12 then some 25 else if k = 13 then some 33 else none) 14 (by kernel_rfl) (by kernel_rfl) fun Fin hFin => ?_
  simp only [List.take_succ_cons, List.take_zero]
  iterate 2 (
      (refine mix_lit ?_ ?_ (fun w => RkT.of_same (Chg.refl _ w)) ?_ ?_ ?_ ?_
       rotate_left; rotate_left
       · intro e w1 hR hF K hK; (skip); go_simp; (refine hK _ _ (RkT.of_same (Chg.refl _ _)) ?_; rfl)
       · intro e; simp only [Act.put, List.setIfInBounds_toArray, List.set_cons_zero, List.set_cons_succ]; rfl
       · exact Loc.const _ _))
  refine mix_ld [Value.int .i64 p1, .int .i64 p2, .int .i64 p3] ?_ (fun w => RkT.of_same (Chg.refl _ w)) (fun _ => by rfl) 23 _ rfl w.heap.size 2 (fun _ => by rfl) _ (fun w1 hR => rangeAt_blk [Value.int .i64 2, .int .i64 ck] [Value.int .i64 p1, .int .i64 p2, .int .i64 p3] [Value.int .i64 s1, .int .i64 s2, .int .i64 s3, .int .i64 4, .int .i64 a, .int .i64 b, .int .i64 c, .int .i64 d, .int .i64 e1, .int .i64 f, .int .i64 g, .int .i64 x, .int .i64 y] (Hb.out.same (RT.same hR))) Tryz.underlying23 rfl (by kernel_rfl) ?_ ?_
  rotate_left
  · intro e; simp only [Act.put, List.setIfInBounds_toArray, List.set_cons_zero, List.set_cons_succ]; rfl
  iterate 2 (
      (refine mix_lit ?_ ?_ (fun w => RkT.of_same (Chg.refl _ w)) ?_ ?_ ?_ ?_
       rotate_left; rotate_left
       · intro e w1 hR hF K hK; (skip); go_simp; (refine hK _ _ (RkT.of_same (Chg.refl _ _)) ?_; rfl)
       · intro e; simp only [Act.put, List.setIfInBounds_toArray, List.set_cons_zero, List.set_cons_succ]; rfl
       · exact Loc.const _ _))
  refine mix_ld [Value.int .i64 s1, .int .i64 s2, .int .i64 s3] ?_ (fun w => RkT.of_same (Chg.refl _ w)) (fun _ => by rfl) 25 _ rfl w.heap.size 5 (fun _ => by rfl) _ (fun w1 hR => rangeAt_blk [Value.int .i64 2, .int .i64 ck, .int .i64 p1, .int .i64 p2, .int .i64 p3] [Value.int .i64 s1, .int .i64 s2, .int .i64 s3] [Value.int .i64 4, .int .i64 a, .int .i64 b, .int .i64 c, .int .i64 d, .int .i64 e1, .int .i64 f, .int .i64 g, .int .i64 x, .int .i64 y] (Hb.out.same (RT.same hR))) Tryz.underlying25 rfl (by kernel_rfl) ?_ ?_
  rotate_left
  · intro e; simp only [Act.put, List.setIfInBounds_toArray, List.set_cons_zero, List.set_cons_succ]; rfl
  iterate 1 (
      (refine mix_lit ?_ ?_ (fun w => RkT.of_same (Chg.refl _ w)) ?_ ?_ ?_ ?_
       rotate_left; rotate_left
       · intro e w1 hR hF K hK; (skip); go_simp; (refine hK _ _ (RkT.of_same (Chg.refl _ _)) ?_; rfl)
       · intro e; simp only [Act.put, List.setIfInBounds_toArray, List.set_cons_zero, List.set_cons_succ]; rfl
       · exact Loc.const _ _))
  refine mix_ld [Value.int .i64 4, .int .i64 a, .int .i64 b, .int .i64 c, .int .i64 d, .int .i64 e1, .int .i64 f, .int .i64 g, .int .i64 x, .int .i64 y] ?_ (fun w => RkT.of_same (Chg.refl _ w)) (fun _ => by rfl) 33 _ rfl w.heap.size 8 (fun _ => by rfl) _ (fun w1 hR => rangeAt_blk [Value.int .i64 2, .int .i64 ck, .int .i64 p1, .int .i64 p2, .int .i64 p3, .int .i64 s1, .int .i64 s2, .int .i64 s3] [Value.int .i64 4, .int .i64 a, .int .i64 b, .int .i64 c, .int .i64 d, .int .i64 e1, .int .i64 f, .int .i64 g, .int .i64 x, .int .i64 y] [] (Hb.out.same (RT.same hR))) Tryz.underlying33 rfl (by kernel_rfl) ?_ ?_
  rotate_left
  · intro e; simp only [Act.put, List.setIfInBounds_toArray, List.set_cons_zero, List.set_cons_succ]; rfl
  refine mix_let (fun _ v w9 => NewB w0 23 3 v w9) ?_ (by exact Loc.const _ _) (fun i _ _ e u w w' hr h => h.keep hr.keep) ?_ ?_ ?_ ?_
  rotate_left
  · intro e; rfl
  · intro e w9 hR hF K hK; go_simp; exact hK _ _ _ (RkT.of_same ((Chg.refl _ _).alloc _)) ⟨_, rfl, Chg.size hR, _, rfl, Blk.new _ _ _⟩ (by simp only [Act.put, List.setIfInBounds_toArray, List.set_cons_zero, List.set_cons_succ])
  · intro e; simp only [Act.put, List.setIfInBounds_toArray, List.set_cons_zero, List.set_cons_succ]; rfl
  refine mix_let (fun _ v w9 => NewB w0 25 3 v w9) ?_ (by exact Loc.const _ _) (fun i _ _ e u w w' hr h => h.keep hr.keep) ?_ ?_ ?_ ?_
  rotate_left
  · intro e; rfl
  · intro e w9 hR hF K hK; go_simp; exact hK _ _ _ (RkT.of_same ((Chg.refl _ _).alloc _)) ⟨_, rfl, Chg.size hR, _, rfl, Blk.new _ _ _⟩ (by simp only [Act.put, List.setIfInBounds_toArray, List.set_cons_zero, List.set_cons_succ])
  · intro e; simp only [Act.put, List.setIfInBounds_toArray, List.set_cons_zero, List.set_cons_succ]; rfl
  refine mix_let (fun _ v w9 => NewB w0 33 10 v w9) ?_ (by exact Loc.const _ _) (fun i _ _ e u w w' hr h => h.keep hr.keep) ?_ ?_ ?_ ?_
  rotate_left
  · intro e; rfl
  · intro e w9 hR hF K hK; go_simp; exact hK _ _ _ (RkT.of_same ((Chg.refl _ _).alloc _)) ⟨_, rfl, Chg.size hR, _, rfl, Blk.new _ _ _⟩ (by simp only [Act.put, List.setIfInBounds_toArray, List.set_cons_zero, List.set_cons_succ])
  · intro e; simp only [Act.put, List.setIfInBounds_toArray, List.set_cons_zero, List.set_cons_succ]; rfl
  refine mt_st 8 23 3 [Value.int .i64 p1, .int .i64 p2, .int .i64 p3] ?_ (by rfl) rowPt.sz HP.out.len HP.out.one (fun _ => by rfl) (fun _ => by rfl) (fun _ => by rfl) (by kernel_rfl) (fun e w h => h) (by rfl) (by intro i hi h; (repeat' split at h) <;> first | omega | (cases h; done) | exact absurd h (by decide)) ?_ ?_
  rotate_left
  · intro e; rfl
  refine mt_st 9 25 3 [Value.int .i64 s1, .int .i64 s2, .int .i64 s3] ?_ (by rfl) rowSp.sz HSp.out.len HSp.out.one (fun _ => by rfl) (fun _ => by rfl) (fun _ => by rfl) (by kernel_rfl) (fun e w h => h) (by rfl) (by intro i hi h; (repeat' split at h) <;> first | omega | (cases h; done) | exact absurd h (by decide)) ?_ ?_
  rotate_left
  · intro e; rfl
  refine mt_st 10 33 10 [Value.int .i64 4, .int .i64 a, .int .i64 b, .int .i64 c, .int .i64 d, .int .i64 e1, .int .i64 f, .int .i64 g, .int .i64 x, .int .i64 y] ?_ (by rfl) rowQry.sz HQ.out.len HQ.out.one (fun _ => by rfl) (fun _ => by rfl) (fun _ => by rfl) (by kernel_rfl) (fun e w h => h) (by rfl) (by intro i hi h; (repeat' split at h) <;> first | omega | (cases h; done) | exact absurd h (by decide)) ?_ ?_
  rotate_left
  · intro e; rfl
  refine mix_nil fun e w3 hR hF => hFin _ _ ?_
  simp only [List.drop_succ_cons, List.drop_zero]
  obtain ⟨b4, h4, hz4, hB4⟩ := (show PutB w0 23 [Value.int .i64 p1, .int .i64 p2, .int .i64 p3] (e 8) w3 from hF 11 (by decide))
  obtain ⟨b5, h5, hz5, hB5⟩ := (show PutB w0 25 [Value.int .i64 s1, .int .i64 s2, .int .i64 s3] (e 9) w3 from hF 12 (by decide))
  obtain ⟨b6, h6, hz6, hB6⟩ := (show PutB w0 33 [Value.int .i64 4, .int .i64 a, .int .i64 b, .int .i64 c, .int .i64 d, .int .i64 e1, .int .i64 f, .int .i64 g, .int .i64 x, .int .i64 y] (e 10) w3 from hF 13 (by decide))
  rw [h4, h5, h6]
  have hsm := RT.same hR
  have hx0 := Hx.out.same hsm
  have hb0 := Hb.out.same hsm
  have hr0 := Hr.out.same hsm
  have Hne := hide (show (b4 ≠ (w.heap.size + 1 + 1) ∧ b5 ≠ (w.heap.size + 1 + 1) ∧ b6 ≠ (w.heap.size + 1 + 1)) from ⟨ty_ne hB4 hx0 (by decide), ty_ne hB5 hx0 (by decide), ty_ne hB6 hx0 (by decide)⟩)
  have HB := hide hb0
  have Hgx := hide (show w.heap.size ≠ (w.heap.size + 1 + 1) from by omega)
  have HR := hide hr0
  have HX3 := hide (show Blk w3 (w.heap.size + 1 + 1) 35 ([Value.int .i64 2, .int .i64 0, .int .i64 0, .int .i64 0, .int .i64 0, .int .i64 0, .int .i64 0, .int .i64 0, .int .i64 0, .int .i64 0, .int .i64 0, .int .i64 0, .int .i64 0, .int .i64 0, .int .i64 0, .int .i64 0, .int .i64 0, .int .i64 0]).toArray from hx0)
  have H4 := hide hB4
  have H5 := hide hB5
  have H6 := hide hB6
  have HS := hide (Same.trans Hs.out hsm)
  have kb0 : w3.cell? ⟨w.heap.size, 0, none⟩ = some (Value.int .i64 2) := (HB.out).cell 0
  have k60 : w3.cell? ⟨b6, 0, none⟩ = some (Value.int .i64 4) := (H6.out).cell 0
  have HcX3 := hide (Chg.refl (fun k => k = (w.heap.size + 1 + 1)) w3)
  clear hR hF hFin h4 h5 h6 hx0 hb0 hr0 hB4 hB5 hB6 hz4 hz5 hz6 hsm e Hb Hr Hx
  have Hrx := hide (show w.heap.size + 1 ≠ (w.heap.size + 1 + 1) from by omega)
  have HC4 := hide (⟨by show 8 < 18; decide, rfl⟩ : CellL [Value.int .i64 2, .int .i64 0, .int .i64 0, .int .i64 0, .int .i64 0, .int .i64 0, .int .i64 0, .int .i64 0, .int .i64 0, .int .i64 0, .int .i64 0, .int .i64 0, .int .i64 0, .int .i64 0, .int .i64 0, .int .i64 0, .int .i64 0, .int .i64 0] 8 (Value.int .i64 4))
  have HV5 := hide (RowL.lit rfl rfl : RowL [Value.int .i64 e1, .int .i64 f, .int .i64 g] 3)
  have HZ5 := hide (RowL.lit rfl rfl : RowL [Value.int .i64 0, .int .i64 0, .int .i64 0] 3)
  have HO5 := hide (RowL.lit rfl rfl : RowL [Value.int .i64 2, .int .i64 0, .int .i64 0, .int .i64 0, .int .i64 0, .int .i64 0, .int .i64 0, .int .i64 0, .int .i64 4, .int .i64 0, .int .i64 0, .int .i64 0, .int .i64 0] 13)
  go_wp2_with (first
    | ((with_reducible refine stCg 3 (w.heap.size + 1 + 1) 8 (Value.int .i64 4) 35 [Value.int .i64 2, .int .i64 0, .int .i64 0, .int .i64 0, .int .i64 0, .int .i64 0, .int .i64 0, .int .i64 0, .int .i64 0, .int .i64 0, .int .i64 0, .int .i64 0, .int .i64 0, .int .i64 0, .int .i64 0, .int .i64 0, .int .i64 0, .int .i64 0] intSz HC4.out.one HX3.out HC4.out.lt ?_ ?_ ?_); rfl; rfl; intro w4 hc hb; clear kb0 k60; have HX4 := hide (show Blk w4 (w.heap.size + 1 + 1) 35 ([Value.int .i64 2, .int .i64 0, .int .i64 0, .int .i64 0, .int .i64 0, .int .i64 0, .int .i64 0, .int .i64 0, .int .i64 4, .int .i64 0, .int .i64 0, .int .i64 0, .int .i64 0] ++ [Value.int .i64 0, .int .i64 0, .int .i64 0] ++ [Value.int .i64 0, .int .i64 0]).toArray from hb); have hc' := Chg.trans HcX3.out hc (fun _ _ e => e); have HcX4 := hide hc'; have kb0 : w4.cell? ⟨w.heap.size, 0, none⟩ = some (Value.int .i64 2) := (HB.out.chg hc' Hgx.out).cell 0; have k60 : w4.cell? ⟨b6, 0, none⟩ = some (Value.int .i64 4) := (H6.out.chg hc' Hne.out.2.2).cell 0; clear hc hc' hb)
    | ((with_reducible refine ldR 31 b6 5 3 [Value.int .i64 e1, .int .i64 f, .int .i64 g] rowWin HV5.out.len (rangeAt_blk [Value.int .i64 4, .int .i64 a, .int .i64 b, .int .i64 c, .int .i64 d] [Value.int .i64 e1, .int .i64 f, .int .i64 g] [Value.int .i64 x, .int .i64 y] (H6.out.chg HcX4.out Hne.out.2.2)) ?_ ?_ ?_); rfl; rfl)
    | ((with_reducible refine stMg 31 (w.heap.size + 1 + 1) 13 3 [Value.int .i64 2, .int .i64 0, .int .i64 0, .int .i64 0, .int .i64 0, .int .i64 0, .int .i64 0, .int .i64 0, .int .i64 4, .int .i64 0, .int .i64 0, .int .i64 0, .int .i64 0] [Value.int .i64 0, .int .i64 0, .int .i64 0] [Value.int .i64 0, .int .i64 0] [Value.int .i64 e1, .int .i64 f, .int .i64 g] 35 rowWin HV5.out.len HZ5.out.len HO5.out.len HX4.out HV5.out.one ?_ ?_ ?_); rfl; rfl; intro w5 hc hb; clear kb0 k60; have HX5 := hide (show Blk w5 (w.heap.size + 1 + 1) 35 ([Value.int .i64 2, .int .i64 0, .int .i64 0, .int .i64 0, .int .i64 0, .int .i64 0, .int .i64 0, .int .i64 0, .int .i64 4, .int .i64 0, .int .i64 0, .int .i64 0, .int .i64 0, .int .i64 e1, .int .i64 f, .int .i64 g, .int .i64 0, .int .i64 0]).toArray from hb); have hc' := Chg.trans HcX4.out hc (fun _ _ e => e); have HcX5 := hide hc'; have kb0 : w5.cell? ⟨w.heap.size, 0, none⟩ = some (Value.int .i64 2) := (HB.out.chg hc' Hgx.out).cell 0; have k60 : w5.cell? ⟨b6, 0, none⟩ = some (Value.int .i64 4) := (H6.out.chg hc' Hne.out.2.2).cell 0; clear hc hc' hb)
    | ((with_reducible refine ldR 35 (w.heap.size + 1 + 1) 0 18 [Value.int .i64 2, .int .i64 0, .int .i64 0, .int .i64 0, .int .i64 0, .int .i64 0, .int .i64 0, .int .i64 0, .int .i64 4, .int .i64 0, .int .i64 0, .int .i64 0, .int .i64 0, .int .i64 e1, .int .i64 f, .int .i64 g, .int .i64 0, .int .i64 0] rowReq HF.out.len (blk_range HX5.out) ?_ ?_ ?_); rfl; rfl)
    | ((with_reducible refine stRg 35 (w.heap.size + 1) 18 [Value.int .i64 2, .int .i64 0, .int .i64 0, .int .i64 0, .int .i64 0, .int .i64 0, .int .i64 0, .int .i64 0, .int .i64 4, .int .i64 0, .int .i64 0, .int .i64 0, .int .i64 0, .int .i64 e1, .int .i64 f, .int .i64 g, .int .i64 0, .int .i64 0] 35 _ rowReq HF.out.len ?_ (HR.out.chg HcX5.out Hrx.out) HF.out.one ?_ ?_ ?_); rfl; rfl; rfl; intro w9 hc9 hz9 hb9; have Hc9 := hide hc9; have Hb9 := hide hb9; clear hc9 hz9 hb9)
    | fail)
  refine bodyPost_ret (results_cell_row rfl _ _ _ _ _ _ _ rfl Hb9.out Tryz.underlying35 rfl (by kernel_rfl)) (by rfl) (show _ ∧ _ from ⟨rfl, ?_⟩)
  have h1 : Chg (fun k => w.heap.size ≤ k) w w3 := Same.to HS.out
  have h2 : Chg (fun k => w.heap.size ≤ k) w w5 := Chg.trans h1 HcX5.out (fun k _ e => (by have e' : k = (w.heap.size + 1 + 1) := e; omega))
  exact Chg.fresh (S := fun k => w.heap.size ≤ k) (Chg.trans h2 Hc9.out (fun k _ e => (by have e' : k = w.heap.size + 1 := e; omega))) (fun _ h => h)
set_option maxRecDepth 100000 in
set_option maxHeartbeats 8000000 in
theorem ronly_15 (ck p1 p2 p3 s1 s2 s3 a b c d e1 f g x y : Int) (w : World) :
    Calls Tryz.prog 27 #[.agg #[Value.int .i64 2, .int .i64 ck, .int .i64 p1, .int .i64 p2, .int .i64 p3, .int .i64 s1, .int .i64 s2, .int .i64 s3, .int .i64 5, .int .i64 a, .int .i64 b, .int .i64 c, .int .i64 d, .int .i64 e1, .int .i64 f, .int .i64 g, .int .i64 x, .int .i64 y]] w fun en w' => en = .returned (.agg #[Value.int .i64 2, .int .i64 0, .int .i64 0, .int .i64 0, .int .i64 0, .int .i64 0, .int .i64 0, .int .i64 0, .int .i64 5, .int .i64 0, .int .i64 0, .int .i64 0, .int .i64 0, .int .i64 0, .int .i64 0, .int .i64 0, .int .i64 x, .int .i64 0]) ∧ Same w w'  := by
  have hb := (Blk.new w 35 #[Value.int .i64 2, .int .i64 ck, .int .i64 p1, .int .i64 p2, .int .i64 p3, .int .i64 s1, .int .i64 s2, .int .i64 s3, .int .i64 5, .int .i64 a, .int .i64 b, .int .i64 c, .int .i64 d, .int .i64 e1, .int .i64 f, .int .i64 g, .int .i64 x, .int .i64 y]).alloc (.cells #[Value.int .i64 0, .int .i64 0, .int .i64 0, .int .i64 0, .int .i64 0, .int .i64 0, .int .i64 0, .int .i64 0, .int .i64 0, .int .i64 0, .int .i64 0, .int .i64 0, .int .i64 0, .int .i64 0, .int .i64 0, .int .i64 0, .int .i64 0, .int .i64 0] 35)
  have hr := Blk.new (w.alloc (.cells #[Value.int .i64 2, .int .i64 ck, .int .i64 p1, .int .i64 p2, .int .i64 p3, .int .i64 s1, .int .i64 s2, .int .i64 s3, .int .i64 5, .int .i64 a, .int .i64 b, .int .i64 c, .int .i64 d, .int .i64 e1, .int .i64 f, .int .i64 g, .int .i64 x, .int .i64 y] 35)) 35 #[Value.int .i64 0, .int .i64 0, .int .i64 0, .int .i64 0, .int .i64 0, .int .i64 0, .int .i64 0, .int .i64 0, .int .i64 0, .int .i64 0, .int .i64 0, .int .i64 0, .int .i64 0, .int .i64 0, .int .i64 0, .int .i64 0, .int .i64 0, .int .i64 0]
  simp only [World.size_alloc] at hr
  have hs : Same w ((w.alloc (.cells #[Value.int .i64 2, .int .i64 ck, .int .i64 p1, .int .i64 p2, .int .i64 p3, .int .i64 s1, .int .i64 s2, .int .i64 s3, .int .i64 5, .int .i64 a, .int .i64 b, .int .i64 c, .int .i64 d, .int .i64 e1, .int .i64 f, .int .i64 g, .int .i64 x, .int .i64 y] 35)).alloc (.cells #[Value.int .i64 0, .int .i64 0, .int .i64 0, .int .i64 0, .int .i64 0, .int .i64 0, .int .i64 0, .int .i64 0, .int .i64 0, .int .i64 0, .int .i64 0, .int .i64 0, .int .i64 0, .int .i64 0, .int .i64 0, .int .i64 0, .int .i64 0, .int .i64 0] 35)) := ((Chg.refl _ w).alloc _).alloc _
  have Hb0 := hide hb
  have Hr0 := hide hr
  have Hs0 := hide hs
  have HXL := hide (RowL.lit rfl rfl : RowL [Value.int .i64 2, .int .i64 0, .int .i64 0, .int .i64 0, .int .i64 0, .int .i64 0, .int .i64 0, .int .i64 0, .int .i64 0, .int .i64 0, .int .i64 0, .int .i64 0, .int .i64 0, .int .i64 0, .int .i64 0, .int .i64 0, .int .i64 0, .int .i64 0] 18)
  clear hb hr hs
  go_enter Tryz.func27, Tryz.ntmps27
  go_wp2_with (first
    | ((with_reducible refine stNg 35 18 [Value.int .i64 2, .int .i64 0, .int .i64 0, .int .i64 0, .int .i64 0, .int .i64 0, .int .i64 0, .int .i64 0, .int .i64 0, .int .i64 0, .int .i64 0, .int .i64 0, .int .i64 0, .int .i64 0, .int .i64 0, .int .i64 0, .int .i64 0, .int .i64 0] 35 _ rowReq HXL.out.len ?_ HXL.out.one ?_ ?_ ?_); rfl; (simp only [World.size_alloc]; rfl); rfl; intro w0 hs1 hz1 hb1; simp only [World.size_alloc] at hb1; have Hs := hide (Same.trans Hs0.out hs1); have Hx := hide (show Blk w0 (w.heap.size + 1 + 1) 35 #[Value.int .i64 2, .int .i64 0, .int .i64 0, .int .i64 0, .int .i64 0, .int .i64 0, .int .i64 0, .int .i64 0, .int .i64 0, .int .i64 0, .int .i64 0, .int .i64 0, .int .i64 0, .int .i64 0, .int .i64 0, .int .i64 0, .int .i64 0, .int .i64 0] from hb1); have Hb := hide (Hb0.out.same hs1); have Hr := hide (Hr0.out.same hs1); clear hs1 hz1 hb1)
    | fail)
  clear Hs0 Hb0 Hr0 HXL
  have HP := hide (RowL.lit rfl rfl : RowL [Value.int .i64 p1, .int .i64 p2, .int .i64 p3] 3)
  have HSp := hide (RowL.lit rfl rfl : RowL [Value.int .i64 s1, .int .i64 s2, .int .i64 s3] 3)
  have HQ := hide (RowL.lit rfl rfl : RowL [Value.int .i64 5, .int .i64 a, .int .i64 b, .int .i64 c, .int .i64 d, .int .i64 e1, .int .i64 f, .int .i64 g, .int .i64 x, .int .i64 y] 10)
  have HF := hide (RowL.lit rfl rfl : RowL [Value.int .i64 2, .int .i64 0, .int .i64 0, .int .i64 0, .int .i64 0, .int .i64 0, .int .i64 0, .int .i64 0, .int .i64 5, .int .i64 0, .int .i64 0, .int .i64 0, .int .i64 0, .int .i64 0, .int .i64 0, .int .i64 0, .int .i64 x, .int .i64 0] 18)
  refine wp_region_mixT (fun k => if k = 11 then some 23 else if k = 12 then some 25 else if k = 13 then some 33 else none) 14 (by kernel_rfl) (by kernel_rfl) fun Fin hFin => ?_
  simp only [List.take_succ_cons, List.take_zero]
  iterate 2 (
      (refine mix_lit ?_ ?_ (fun w => RkT.of_same (Chg.refl _ w)) ?_ ?_ ?_ ?_
       rotate_left; rotate_left
       · intro e w1 hR hF K hK; (skip); go_simp; (refine hK _ _ (RkT.of_same (Chg.refl _ _)) ?_; rfl)
       · intro e; simp only [Act.put, List.setIfInBounds_toArray, List.set_cons_zero, List.set_cons_succ]; rfl
       · exact Loc.const _ _))
  refine mix_ld [Value.int .i64 p1, .int .i64 p2, .int .i64 p3] ?_ (fun w => RkT.of_same (Chg.refl _ w)) (fun _ => by rfl) 23 _ rfl w.heap.size 2 (fun _ => by rfl) _ (fun w1 hR => rangeAt_blk [Value.int .i64 2, .int .i64 ck] [Value.int .i64 p1, .int .i64 p2, .int .i64 p3] [Value.int .i64 s1, .int .i64 s2, .int .i64 s3, .int .i64 5, .int .i64 a, .int .i64 b, .int .i64 c, .int .i64 d, .int .i64 e1, .int .i64 f, .int .i64 g, .int .i64 x, .int .i64 y] (Hb.out.same (RT.same hR))) Tryz.underlying23 rfl (by kernel_rfl) ?_ ?_
  rotate_left
  · intro e; simp only [Act.put, List.setIfInBounds_toArray, List.set_cons_zero, List.set_cons_succ]; rfl
  iterate 2 (
      (refine mix_lit ?_ ?_ (fun w => RkT.of_same (Chg.refl _ w)) ?_ ?_ ?_ ?_
       rotate_left; rotate_left
       · intro e w1 hR hF K hK; (skip); go_simp; (refine hK _ _ (RkT.of_same (Chg.refl _ _)) ?_; rfl)
       · intro e; simp only [Act.put, List.setIfInBounds_toArray, List.set_cons_zero, List.set_cons_succ]; rfl
       · exact Loc.const _ _))
  refine mix_ld [Value.int .i64 s1, .int .i64 s2, .int .i64 s3] ?_ (fun w => RkT.of_same (Chg.refl _ w)) (fun _ => by rfl) 25 _ rfl w.heap.size 5 (fun _ => by rfl) _ (fun w1 hR => rangeAt_blk [Value.int .i64 2, .int .i64 ck, .int .i64 p1, .int .i64 p2, .int .i64 p3] [Value.int .i64 s1, .int .i64 s2, .int .i64 s3] [Value.int .i64 5, .int .i64 a, .int .i64 b, .int .i64 c, .int .i64 d, .int .i64 e1, .int .i64 f, .int .i64 g, .int .i64 x, .int .i64 y] (Hb.out.same (RT.same hR))) Tryz.underlying25 rfl (by kernel_rfl) ?_ ?_
  rotate_left
  · intro e; simp only [Act.put, List.setIfInBounds_toArray, List.set_cons_zero, List.set_cons_succ]; rfl
  iterate 1 (
      (refine mix_lit ?_ ?_ (fun w => RkT.of_same (Chg.refl _ w)) ?_ ?_ ?_ ?_
       rotate_left; rotate_left
       · intro e w1 hR hF K hK; (skip); go_simp; (refine hK _ _ (RkT.of_same (Chg.refl _ _)) ?_; rfl)
       · intro e; simp only [Act.put, List.setIfInBounds_toArray, List.set_cons_zero, List.set_cons_succ]; rfl
       · exact Loc.const _ _))
  refine mix_ld [Value.int .i64 5, .int .i64 a, .int .i64 b, .int .i64 c, .int .i64 d, .int .i64 e1, .int .i64 f, .int .i64 g, .int .i64 x, .int .i64 y] ?_ (fun w => RkT.of_same (Chg.refl _ w)) (fun _ => by rfl) 33 _ rfl w.heap.size 8 (fun _ => by rfl) _ (fun w1 hR => rangeAt_blk [Value.int .i64 2, .int .i64 ck, .int .i64 p1, .int .i64 p2, .int .i64 p3, .int .i64 s1, .int .i64 s2, .int .i64 s3] [Value.int .i64 5, .int .i64 a, .int .i64 b, .int .i64 c, .int .i64 d, .int .i64 e1, .int .i64 f, .int .i64 g, .int .i64 x, .int .i64 y] [] (Hb.out.same (RT.same hR))) Tryz.underlying33 rfl (by kernel_rfl) ?_ ?_
  rotate_left
  · intro e; simp only [Act.put, List.setIfInBounds_toArray, List.set_cons_zero, List.set_cons_succ]; rfl
  refine mix_let (fun _ v w9 => NewB w0 23 3 v w9) ?_ (by exact Loc.const _ _) (fun i _ _ e u w w' hr h => h.keep hr.keep) ?_ ?_ ?_ ?_
  rotate_left
  · intro e; rfl
  · intro e w9 hR hF K hK; go_simp; exact hK _ _ _ (RkT.of_same ((Chg.refl _ _).alloc _)) ⟨_, rfl, Chg.size hR, _, rfl, Blk.new _ _ _⟩ (by simp only [Act.put, List.setIfInBounds_toArray, List.set_cons_zero, List.set_cons_succ])
  · intro e; simp only [Act.put, List.setIfInBounds_toArray, List.set_cons_zero, List.set_cons_succ]; rfl
  refine mix_let (fun _ v w9 => NewB w0 25 3 v w9) ?_ (by exact Loc.const _ _) (fun i _ _ e u w w' hr h => h.keep hr.keep) ?_ ?_ ?_ ?_
  rotate_left
  · intro e; rfl
  · intro e w9 hR hF K hK; go_simp; exact hK _ _ _ (RkT.of_same ((Chg.refl _ _).alloc _)) ⟨_, rfl, Chg.size hR, _, rfl, Blk.new _ _ _⟩ (by simp only [Act.put, List.setIfInBounds_toArray, List.set_cons_zero, List.set_cons_succ])
  · intro e; simp only [Act.put, List.setIfInBounds_toArray, List.set_cons_zero, List.set_cons_succ]; rfl
  refine mix_let (fun _ v w9 => NewB w0 33 10 v w9) ?_ (by exact Loc.const _ _) (fun i _ _ e u w w' hr h => h.keep hr.keep) ?_ ?_ ?_ ?_
  rotate_left
  · intro e; rfl
  · intro e w9 hR hF K hK; go_simp; exact hK _ _ _ (RkT.of_same ((Chg.refl _ _).alloc _)) ⟨_, rfl, Chg.size hR, _, rfl, Blk.new _ _ _⟩ (by simp only [Act.put, List.setIfInBounds_toArray, List.set_cons_zero, List.set_cons_succ])
  · intro e; simp only [Act.put, List.setIfInBounds_toArray, List.set_cons_zero, List.set_cons_succ]; rfl
  refine mt_st 8 23 3 [Value.int .i64 p1, .int .i64 p2, .int .i64 p3] ?_ (by rfl) rowPt.sz HP.out.len HP.out.one (fun _ => by rfl) (fun _ => by rfl) (fun _ => by rfl) (by kernel_rfl) (fun e w h => h) (by rfl) (by intro i hi h; (repeat' split at h) <;> first | omega | (cases h; done) | exact absurd h (by decide)) ?_ ?_
  rotate_left
  · intro e; rfl
  refine mt_st 9 25 3 [Value.int .i64 s1, .int .i64 s2, .int .i64 s3] ?_ (by rfl) rowSp.sz HSp.out.len HSp.out.one (fun _ => by rfl) (fun _ => by rfl) (fun _ => by rfl) (by kernel_rfl) (fun e w h => h) (by rfl) (by intro i hi h; (repeat' split at h) <;> first | omega | (cases h; done) | exact absurd h (by decide)) ?_ ?_
  rotate_left
  · intro e; rfl
  refine mt_st 10 33 10 [Value.int .i64 5, .int .i64 a, .int .i64 b, .int .i64 c, .int .i64 d, .int .i64 e1, .int .i64 f, .int .i64 g, .int .i64 x, .int .i64 y] ?_ (by rfl) rowQry.sz HQ.out.len HQ.out.one (fun _ => by rfl) (fun _ => by rfl) (fun _ => by rfl) (by kernel_rfl) (fun e w h => h) (by rfl) (by intro i hi h; (repeat' split at h) <;> first | omega | (cases h; done) | exact absurd h (by decide)) ?_ ?_
  rotate_left
  · intro e; rfl
  refine mix_nil fun e w3 hR hF => hFin _ _ ?_
  simp only [List.drop_succ_cons, List.drop_zero]
  obtain ⟨b4, h4, hz4, hB4⟩ := (show PutB w0 23 [Value.int .i64 p1, .int .i64 p2, .int .i64 p3] (e 8) w3 from hF 11 (by decide))
  obtain ⟨b5, h5, hz5, hB5⟩ := (show PutB w0 25 [Value.int .i64 s1, .int .i64 s2, .int .i64 s3] (e 9) w3 from hF 12 (by decide))
  obtain ⟨b6, h6, hz6, hB6⟩ := (show PutB w0 33 [Value.int .i64 5, .int .i64 a, .int .i64 b, .int .i64 c, .int .i64 d, .int .i64 e1, .int .i64 f, .int .i64 g, .int .i64 x, .int .i64 y] (e 10) w3 from hF 13 (by decide))
  rw [h4, h5, h6]
  have hsm := RT.same hR
  have hx0 := Hx.out.same hsm
  have hb0 := Hb.out.same hsm
  have hr0 := Hr.out.same hsm
  have Hne := hide (show (b4 ≠ (w.heap.size + 1 + 1) ∧ b5 ≠ (w.heap.size + 1 + 1) ∧ b6 ≠ (w.heap.size + 1 + 1)) from ⟨ty_ne hB4 hx0 (by decide), ty_ne hB5 hx0 (by decide), ty_ne hB6 hx0 (by decide)⟩)
  have HB := hide hb0
  have Hgx := hide (show w.heap.size ≠ (w.heap.size + 1 + 1) from by omega)
  have HR := hide hr0
  have HX3 := hide (show Blk w3 (w.heap.size + 1 + 1) 35 ([Value.int .i64 2, .int .i64 0, .int .i64 0, .int .i64 0, .int .i64 0, .int .i64 0, .int .i64 0, .int .i64 0, .int .i64 0, .int .i64 0, .int .i64 0, .int .i64 0, .int .i64 0, .int .i64 0, .int .i64 0, .int .i64 0, .int .i64 0, .int .i64 0]).toArray from hx0)
  have H4 := hide hB4
  have H5 := hide hB5
  have H6 := hide hB6
  have HS := hide (Same.trans Hs.out hsm)
  have kb0 : w3.cell? ⟨w.heap.size, 0, none⟩ = some (Value.int .i64 2) := (HB.out).cell 0
  have k60 : w3.cell? ⟨b6, 0, none⟩ = some (Value.int .i64 5) := (H6.out).cell 0
  have k68 : w3.cell? ⟨b6, 8, none⟩ = some (Value.int .i64 x) := (H6.out).cell 8
  have HcX3 := hide (Chg.refl (fun k => k = (w.heap.size + 1 + 1)) w3)
  clear hR hF hFin h4 h5 h6 hx0 hb0 hr0 hB4 hB5 hB6 hz4 hz5 hz6 hsm e Hb Hr Hx
  have Hrx := hide (show w.heap.size + 1 ≠ (w.heap.size + 1 + 1) from by omega)
  have HC4 := hide (⟨by show 8 < 18; decide, rfl⟩ : CellL [Value.int .i64 2, .int .i64 0, .int .i64 0, .int .i64 0, .int .i64 0, .int .i64 0, .int .i64 0, .int .i64 0, .int .i64 0, .int .i64 0, .int .i64 0, .int .i64 0, .int .i64 0, .int .i64 0, .int .i64 0, .int .i64 0, .int .i64 0, .int .i64 0] 8 (Value.int .i64 5))
  have HC5 := hide (⟨by show 16 < 18; decide, rfl⟩ : CellL [Value.int .i64 2, .int .i64 0, .int .i64 0, .int .i64 0, .int .i64 0, .int .i64 0, .int .i64 0, .int .i64 0, .int .i64 5, .int .i64 0, .int .i64 0, .int .i64 0, .int .i64 0, .int .i64 0, .int .i64 0, .int .i64 0, .int .i64 0, .int .i64 0] 16 (Value.int .i64 x))
  go_wp2_with (first
    | ((with_reducible refine stCg 3 (w.heap.size + 1 + 1) 8 (Value.int .i64 5) 35 [Value.int .i64 2, .int .i64 0, .int .i64 0, .int .i64 0, .int .i64 0, .int .i64 0, .int .i64 0, .int .i64 0, .int .i64 0, .int .i64 0, .int .i64 0, .int .i64 0, .int .i64 0, .int .i64 0, .int .i64 0, .int .i64 0, .int .i64 0, .int .i64 0] intSz HC4.out.one HX3.out HC4.out.lt ?_ ?_ ?_); rfl; rfl; intro w4 hc hb; clear kb0 k60 k68; have HX4 := hide (show Blk w4 (w.heap.size + 1 + 1) 35 ([Value.int .i64 2, .int .i64 0, .int .i64 0, .int .i64 0, .int .i64 0, .int .i64 0, .int .i64 0, .int .i64 0, .int .i64 5, .int .i64 0, .int .i64 0, .int .i64 0, .int .i64 0, .int .i64 0, .int .i64 0, .int .i64 0, .int .i64 0, .int .i64 0]).toArray from hb); have hc' := Chg.trans HcX3.out hc (fun _ _ e => e); have HcX4 := hide hc'; have kb0 : w4.cell? ⟨w.heap.size, 0, none⟩ = some (Value.int .i64 2) := (HB.out.chg hc' Hgx.out).cell 0; have k60 : w4.cell? ⟨b6, 0, none⟩ = some (Value.int .i64 5) := (H6.out.chg hc' Hne.out.2.2).cell 0; have k68 : w4.cell? ⟨b6, 8, none⟩ = some (Value.int .i64 x) := (H6.out.chg hc' Hne.out.2.2).cell 8; clear hc hc' hb)
    | ((with_reducible refine stCg 3 (w.heap.size + 1 + 1) 16 (Value.int .i64 x) 35 [Value.int .i64 2, .int .i64 0, .int .i64 0, .int .i64 0, .int .i64 0, .int .i64 0, .int .i64 0, .int .i64 0, .int .i64 5, .int .i64 0, .int .i64 0, .int .i64 0, .int .i64 0, .int .i64 0, .int .i64 0, .int .i64 0, .int .i64 0, .int .i64 0] intSz HC5.out.one HX4.out HC5.out.lt ?_ ?_ ?_); rfl; rfl; intro w5 hc hb; clear kb0 k60 k68; have HX5 := hide (show Blk w5 (w.heap.size + 1 + 1) 35 ([Value.int .i64 2, .int .i64 0, .int .i64 0, .int .i64 0, .int .i64 0, .int .i64 0, .int .i64 0, .int .i64 0, .int .i64 5, .int .i64 0, .int .i64 0, .int .i64 0, .int .i64 0, .int .i64 0, .int .i64 0, .int .i64 0, .int .i64 x, .int .i64 0]).toArray from hb); have hc' := Chg.trans HcX4.out hc (fun _ _ e => e); have HcX5 := hide hc'; have kb0 : w5.cell? ⟨w.heap.size, 0, none⟩ = some (Value.int .i64 2) := (HB.out.chg hc' Hgx.out).cell 0; have k60 : w5.cell? ⟨b6, 0, none⟩ = some (Value.int .i64 5) := (H6.out.chg hc' Hne.out.2.2).cell 0; have k68 : w5.cell? ⟨b6, 8, none⟩ = some (Value.int .i64 x) := (H6.out.chg hc' Hne.out.2.2).cell 8; clear hc hc' hb)
    | ((with_reducible refine ldR 35 (w.heap.size + 1 + 1) 0 18 [Value.int .i64 2, .int .i64 0, .int .i64 0, .int .i64 0, .int .i64 0, .int .i64 0, .int .i64 0, .int .i64 0, .int .i64 5, .int .i64 0, .int .i64 0, .int .i64 0, .int .i64 0, .int .i64 0, .int .i64 0, .int .i64 0, .int .i64 x, .int .i64 0] rowReq HF.out.len (blk_range HX5.out) ?_ ?_ ?_); rfl; rfl)
    | ((with_reducible refine stRg 35 (w.heap.size + 1) 18 [Value.int .i64 2, .int .i64 0, .int .i64 0, .int .i64 0, .int .i64 0, .int .i64 0, .int .i64 0, .int .i64 0, .int .i64 5, .int .i64 0, .int .i64 0, .int .i64 0, .int .i64 0, .int .i64 0, .int .i64 0, .int .i64 0, .int .i64 x, .int .i64 0] 35 _ rowReq HF.out.len ?_ (HR.out.chg HcX5.out Hrx.out) HF.out.one ?_ ?_ ?_); rfl; rfl; rfl; intro w9 hc9 hz9 hb9; have Hc9 := hide hc9; have Hb9 := hide hb9; clear hc9 hz9 hb9)
    | fail)
  refine bodyPost_ret (results_cell_row rfl _ _ _ _ _ _ _ rfl Hb9.out Tryz.underlying35 rfl (by kernel_rfl)) (by rfl) (show _ ∧ _ from ⟨rfl, ?_⟩)
  have h1 : Chg (fun k => w.heap.size ≤ k) w w3 := Same.to HS.out
  have h2 : Chg (fun k => w.heap.size ≤ k) w w5 := Chg.trans h1 HcX5.out (fun k _ e => (by have e' : k = (w.heap.size + 1 + 1) := e; omega))
  exact Chg.fresh (S := fun k => w.heap.size ≤ k) (Chg.trans h2 Hc9.out (fun k _ e => (by have e' : k = w.heap.size + 1 := e; omega))) (fun _ h => h)
set_option maxRecDepth 100000 in
set_option maxHeartbeats 8000000 in
theorem ronly_16 (ck p1 p2 p3 s1 s2 s3 a b c d e1 f g x y : Int) (w : World) :
    Calls Tryz.prog 27 #[.agg #[Value.int .i64 2, .int .i64 ck, .int .i64 p1, .int .i64 p2, .int .i64 p3, .int .i64 s1, .int .i64 s2, .int .i64 s3, .int .i64 6, .int .i64 a, .int .i64 b, .int .i64 c, .int .i64 d, .int .i64 e1, .int .i64 f, .int .i64 g, .int .i64 x, .int .i64 y]] w fun en w' => en = .returned (.agg #[Value.int .i64 2, .int .i64 0, .int .i64 0, .int .i64 0, .int .i64 0, .int .i64 0, .int .i64 0, .int .i64 0, .int .i64 6, .int .i64 0, .int .i64 0, .int .i64 0, .int .i64 0, .int .i64 0, .int .i64 0, .int .i64 0, .int .i64 x, .int .i64 y]) ∧ Same w w'  := by
  have hb := (Blk.new w 35 #[Value.int .i64 2, .int .i64 ck, .int .i64 p1, .int .i64 p2, .int .i64 p3, .int .i64 s1, .int .i64 s2, .int .i64 s3, .int .i64 6, .int .i64 a, .int .i64 b, .int .i64 c, .int .i64 d, .int .i64 e1, .int .i64 f, .int .i64 g, .int .i64 x, .int .i64 y]).alloc (.cells #[Value.int .i64 0, .int .i64 0, .int .i64 0, .int .i64 0, .int .i64 0, .int .i64 0, .int .i64 0, .int .i64 0, .int .i64 0, .int .i64 0, .int .i64 0, .int .i64 0, .int .i64 0, .int .i64 0, .int .i64 0, .int .i64 0, .int .i64 0, .int .i64 0] 35)
  have hr := Blk.new (w.alloc (.cells #[Value.int .i64 2, .int .i64 ck, .int .i64 p1, .int .i64 p2, .int .i64 p3, .int .i64 s1, .int .i64 s2, .int .i64 s3, .int .i64 6, .int .i64 a, .int .i64 b, .int .i64 c, .int .i64 d, .int .i64 e1, .int .i64 f, .int .i64 g, .int .i64 x, .int .i64 y] 35)) 35 #[Value.int .i64 0, .int .i64 0, .int .i64 0, .int .i64 0, .int .i64 0, .int .i64 0, .int .i64 0, .int .i64 0, .int .i64 0, .int .i64 0, .int .i64 0, .int .i64 0, .int .i64 0, .int .i64 0, .int .i64 0, .int .i64 0, .int .i64 0, .int .i64 0]
  simp only [World.size_alloc] at hr
  have hs : Same w ((w.alloc (.cells #[Value.int .i64 2, .int .i64 ck, .int .i64 p1, .int .i64 p2, .int .i64 p3, .int .i64 s1, .int .i64 s2, .int .i64 s3, .int .i64 6, .int .i64 a, .int .i64 b, .int .i64 c, .int .i64 d, .int .i64 e1, .int .i64 f, .int .i64 g, .int .i64 x, .int .i64 y] 35)).alloc (.cells #[Value.int .i64 0, .int .i64 0, .int .i64 0, .int .i64 0, .int .i64 0, .int .i64 0, .int .i64 0, .int .i64 0, .int .i64 0, .int .i64 0, .int .i64 0, .int .i64 0, .int .i64 0, .int .i64 0, .int .i64 0, .int .i64 0, .int .i64 0, .int .i64 0] 35)) := ((Chg.refl _ w).alloc _).alloc _
  have Hb0 := hide hb
  have Hr0 := hide hr
  have Hs0 := hide hs
  have HXL := hide (RowL.lit rfl rfl : RowL [Value.int .i64 2, .int .i64 0, .int .i64 0, .int .i64 0, .int .i64 0, .int .i64 0, .int .i64 0, .int .i64 0, .int .i64 0, .int .i64 0, .int .i64 0, .int .i64 0, .int .i64 0, .int .i64 0, .int .i64 0, .int .i64 0, .int .i64 0, .int .i64 0] 18)
  clear hb hr hs
  go_enter Tryz.func27, Tryz.ntmps27
  go_wp2_with (first
    | ((with_reducible refine stNg 35 18 [Value.int .i64 2, .int .i64 0, .int .i64 0, .int .i64 0, .int .i64 0, .int .i64 0, .int .i64 0, .int .i64 0, .int .i64 0, .int .i64 0, .int .i64 0, .int .i64 0, .int .i64 0, .int .i64 0, .int .i64 0, .int .i64 0, .int .i64 0, .int .i64 0] 35 _ rowReq HXL.out.len ?_ HXL.out.one ?_ ?_ ?_); rfl; (simp only [World.size_alloc]; rfl); rfl; intro w0 hs1 hz1 hb1; simp only [World.size_alloc] at hb1; have Hs := hide (Same.trans Hs0.out hs1); have Hx := hide (show Blk w0 (w.heap.size + 1 + 1) 35 #[Value.int .i64 2, .int .i64 0, .int .i64 0, .int .i64 0, .int .i64 0, .int .i64 0, .int .i64 0, .int .i64 0, .int .i64 0, .int .i64 0, .int .i64 0, .int .i64 0, .int .i64 0, .int .i64 0, .int .i64 0, .int .i64 0, .int .i64 0, .int .i64 0] from hb1); have Hb := hide (Hb0.out.same hs1); have Hr := hide (Hr0.out.same hs1); clear hs1 hz1 hb1)
    | fail)
  clear Hs0 Hb0 Hr0 HXL
  have HP := hide (RowL.lit rfl rfl : RowL [Value.int .i64 p1, .int .i64 p2, .int .i64 p3] 3)
  have HSp := hide (RowL.lit rfl rfl : RowL [Value.int .i64 s1, .int .i64 s2, .int .i64 s3] 3)
  have HQ := hide (RowL.lit rfl rfl : RowL [Value.int .i64 6, .int .i64 a, .int .i64 b, .int .i64 c, .int .i64 d, .int .i64 e1, .int .i64 f, .int .i64 g, .int .i64 x, .int .i64 y] 10)
  have HF := hide (RowL.lit rfl rfl : RowL [Value.int .i64 2, .int .i64 0, .int .i64 0, .int .i64 0, .int .i64 0, .int .i64 0, .int .i64 0, .int .i64 0, .int .i64 6, .int .i64 0, .int .i64 0, .int .i64 0, .int .i64 0, .int .i64 0, .int .i64 0, .int .i64 0, .int .i64 x, .int .i64 y] 18)
  refine wp_region_mixT (fun k => if k = 11 then some 23 else if k = 12 then some 25 else if k = 13 then some 33 else none) 14 (by kernel_rfl) (by kernel_rfl) fun Fin hFin => ?_
  simp only [List.take_succ_cons, List.take_zero]
  iterate 2 (
      (refine mix_lit ?_ ?_ (fun w => RkT.of_same (Chg.refl _ w)) ?_ ?_ ?_ ?_
       rotate_left; rotate_left
       · intro e w1 hR hF K hK; (skip); go_simp; (refine hK _ _ (RkT.of_same (Chg.refl _ _)) ?_; rfl)
       · intro e; simp only [Act.put, List.setIfInBounds_toArray, List.set_cons_zero, List.set_cons_succ]; rfl
       · exact Loc.const _ _))
  refine mix_ld [Value.int .i64 p1, .int .i64 p2, .int .i64 p3] ?_ (fun w => RkT.of_same (Chg.refl _ w)) (fun _ => by rfl) 23 _ rfl w.heap.size 2 (fun _ => by rfl) _ (fun w1 hR => rangeAt_blk [Value.int .i64 2, .int .i64 ck] [Value.int .i64 p1, .int .i64 p2, .int .i64 p3] [Value.int .i64 s1, .int .i64 s2, .int .i64 s3, .int .i64 6, .int .i64 a, .int .i64 b, .int .i64 c, .int .i64 d, .int .i64 e1, .int .i64 f, .int .i64 g, .int .i64 x, .int .i64 y] (Hb.out.same (RT.same hR))) Tryz.underlying23 rfl (by kernel_rfl) ?_ ?_
  rotate_left
  · intro e; simp only [Act.put, List.setIfInBounds_toArray, List.set_cons_zero, List.set_cons_succ]; rfl
  iterate 2 (
      (refine mix_lit ?_ ?_ (fun w => RkT.of_same (Chg.refl _ w)) ?_ ?_ ?_ ?_
       rotate_left; rotate_left
       · intro e w1 hR hF K hK; (skip); go_simp; (refine hK _ _ (RkT.of_same (Chg.refl _ _)) ?_; rfl)
       · intro e; simp only [Act.put, List.setIfInBounds_toArray, List.set_cons_zero, List.set_cons_succ]; rfl
       · exact Loc.const _ _))
  refine mix_ld [Value.int .i64 s1, .int .i64 s2, .int .i64 s3] ?_ (fun w => RkT.of_same (Chg.refl _ w)) (fun _ => by rfl) 25 _ rfl w.heap.size 5 (fun _ => by rfl) _ (fun w1 hR => rangeAt_blk [Value.int .i64 2, .int .i64 ck, .int .i64 p1, .int .i64 p2, .int .i64 p3] [Value.int .i64 s1, .int .i64 s2, .int .i64 s3] [Value.int .i64 6, .int .i64 a, .int .i64 b, .int .i64 c, .int .i64 d, .int .i64 e1, .int .i64 f, .int .i64 g, .int .i64 x, .int .i64 y] (Hb.out.same (RT.same hR))) Tryz.underlying25 rfl (by kernel_rfl) ?_ ?_
  rotate_left
  · intro e; simp only [Act.put, List.setIfInBounds_toArray, List.set_cons_zero, List.set_cons_succ]; rfl
  iterate 1 (
      (refine mix_lit ?_ ?_ (fun w => RkT.of_same (Chg.refl _ w)) ?_ ?_ ?_ ?_
       rotate_left; rotate_left
       · intro e w1 hR hF K hK; (skip); go_simp; (refine hK _ _ (RkT.of_same (Chg.refl _ _)) ?_; rfl)
       · intro e; simp only [Act.put, List.setIfInBounds_toArray, List.set_cons_zero, List.set_cons_succ]; rfl
       · exact Loc.const _ _))
  refine mix_ld [Value.int .i64 6, .int .i64 a, .int .i64 b, .int .i64 c, .int .i64 d, .int .i64 e1, .int .i64 f, .int .i64 g, .int .i64 x, .int .i64 y] ?_ (fun w => RkT.of_same (Chg.refl _ w)) (fun _ => by rfl) 33 _ rfl w.heap.size 8 (fun _ => by rfl) _ (fun w1 hR => rangeAt_blk [Value.int .i64 2, .int .i64 ck, .int .i64 p1, .int .i64 p2, .int .i64 p3, .int .i64 s1, .int .i64 s2, .int .i64 s3] [Value.int .i64 6, .int .i64 a, .int .i64 b, .int .i64 c, .int .i64 d, .int .i64 e1, .int .i64 f, .int .i64 g, .int .i64 x, .int .i64 y] [] (Hb.out.same (RT.same hR))) Tryz.underlying33 rfl (by kernel_rfl) ?_ ?_
  rotate_left
  · intro e; simp only [Act.put, List.setIfInBounds_toArray, List.set_cons_zero, List.set_cons_succ]; rfl
  refine mix_let (fun _ v w9 => NewB w0 23 3 v w9) ?_ (by exact Loc.const _ _) (fun i _ _ e u w w' hr h => h.keep hr.keep) ?_ ?_ ?_ ?_
  rotate_left
  · intro e; rfl
  · intro e w9 hR hF K hK; go_simp; exact hK _ _ _ (RkT.of_same ((Chg.refl _ _).alloc _)) ⟨_, rfl, Chg.size hR, _, rfl, Blk.new _ _ _⟩ (by simp only [Act.put, List.setIfInBounds_toArray, List.set_cons_zero, List.set_cons_succ])
  · intro e; simp only [Act.put, List.setIfInBounds_toArray, List.set_cons_zero, List.set_cons_succ]; rfl
  refine mix_let (fun _ v w9 => NewB w0 25 3 v w9) ?_ (by exact Loc.const _ _) (fun i _ _ e u w w' hr h => h.keep hr.keep) ?_ ?_ ?_ ?_
  rotate_left
  · intro e; rfl
  · intro e w9 hR hF K hK; go_simp; exact hK _ _ _ (RkT.of_same ((Chg.refl _ _).alloc _)) ⟨_, rfl, Chg.size hR, _, rfl, Blk.new _ _ _⟩ (by simp only [Act.put, List.setIfInBounds_toArray, List.set_cons_zero, List.set_cons_succ])
  · intro e; simp only [Act.put, List.setIfInBounds_toArray, List.set_cons_zero, List.set_cons_succ]; rfl
  refine mix_let (fun _ v w9 => NewB w0 33 10 v w9) ?_ (by exact Loc.const _ _) (fun i _ _ e u w w' hr h => h.keep hr.keep) ?_ ?_ ?_ ?_
  rotate_left
  · intro e; rfl
  · intro e w9 hR hF K hK; go_simp; exact hK _ _ _ (RkT.of_same ((Chg.refl _ _).alloc _)) ⟨_, rfl, Chg.size hR, _, rfl, Blk.new _ _ _⟩ (by simp only [Act.put, List.setIfInBounds_toArray, List.set_cons_zero, List.set_cons_succ])
  · intro e; simp only [Act.put, List.setIfInBounds_toArray, List.set_cons_zero, List.set_cons_succ]; rfl
  refine mt_st 8 23 3 [Value.int .i64 p1, .int .i64 p2, .int .i64 p3] ?_ (by rfl) rowPt.sz HP.out.len HP.out.one (fun _ => by rfl) (fun _ => by rfl) (fun _ => by rfl) (by kernel_rfl) (fun e w h => h) (by rfl) (by intro i hi h; (repeat' split at h) <;> first | omega | (cases h; done) | exact absurd h (by decide)) ?_ ?_
  rotate_left
  · intro e; rfl
  refine mt_st 9 25 3 [Value.int .i64 s1, .int .i64 s2, .int .i64 s3] ?_ (by rfl) rowSp.sz HSp.out.len HSp.out.one (fun _ => by rfl) (fun _ => by rfl) (fun _ => by rfl) (by kernel_rfl) (fun e w h => h) (by rfl) (by intro i hi h; (repeat' split at h) <;> first | omega | (cases h; done) | exact absurd h (by decide)) ?_ ?_
  rotate_left
  · intro e; rfl
  refine mt_st 10 33 10 [Value.int .i64 6, .int .i64 a, .int .i64 b, .int .i64 c, .int .i64 d, .int .i64 e1, .int .i64 f, .int .i64 g, .int .i64 x, .int .i64 y] ?_ (by rfl) rowQry.sz HQ.out.len HQ.out.one (fun _ => by rfl) (fun _ => by rfl) (fun _ => by rfl) (by kernel_rfl) (fun e w h => h) (by rfl) (by intro i hi h; (repeat' split at h) <;> first | omega | (cases h; done) | exact absurd h (by decide)) ?_ ?_
  rotate_left
  · intro e; rfl
  refine mix_nil fun e w3 hR hF => hFin _ _ ?_
  simp only [List.drop_succ_cons, List.drop_zero]
  obtain ⟨b4, h4, hz4, hB4⟩ := (show PutB w0 23 [Value.int .i64 p1, .int .i64 p2, .int .i64 p3] (e 8) w3 from hF 11 (by decide))
  obtain ⟨b5, h5, hz5, hB5⟩ := (show PutB w0 25 [Value.int .i64 s1, .int .i64 s2, .int .i64 s3] (e 9) w3 from hF 12 (by decide))
  obtain ⟨b6, h6, hz6, hB6⟩ := (show PutB w0 33 [Value.int .i64 6, .int .i64 a, .int .i64 b, .int .i64 c, .int .i64 d, .int .i64 e1, .int .i64 f, .int .i64 g, .int .i64 x, .int .i64 y] (e 10) w3 from hF 13 (by decide))
  rw [h4, h5, h6]
  have hsm := RT.same hR
  have hx0 := Hx.out.same hsm
  have hb0 := Hb.out.same hsm
  have hr0 := Hr.out.same hsm
  have Hne := hide (show (b4 ≠ (w.heap.size + 1 + 1) ∧ b5 ≠ (w.heap.size + 1 + 1) ∧ b6 ≠ (w.heap.size + 1 + 1)) from ⟨ty_ne hB4 hx0 (by decide), ty_ne hB5 hx0 (by decide), ty_ne hB6 hx0 (by decide)⟩)
  have HB := hide hb0
  have Hgx := hide (show w.heap.size ≠ (w.heap.size + 1 + 1) from by omega)
  have HR := hide hr0
  have HX3 := hide (show Blk w3 (w.heap.size + 1 + 1) 35 ([Value.int .i64 2, .int .i64 0, .int .i64 0, .int .i64 0, .int .i64 0, .int .i64 0, .int .i64 0, .int .i64 0, .int .i64 0, .int .i64 0, .int .i64 0, .int .i64 0, .int .i64 0, .int .i64 0, .int .i64 0, .int .i64 0, .int .i64 0, .int .i64 0]).toArray from hx0)
  have H4 := hide hB4
  have H5 := hide hB5
  have H6 := hide hB6
  have HS := hide (Same.trans Hs.out hsm)
  have kb0 : w3.cell? ⟨w.heap.size, 0, none⟩ = some (Value.int .i64 2) := (HB.out).cell 0
  have k60 : w3.cell? ⟨b6, 0, none⟩ = some (Value.int .i64 6) := (H6.out).cell 0
  have k68 : w3.cell? ⟨b6, 8, none⟩ = some (Value.int .i64 x) := (H6.out).cell 8
  have k69 : w3.cell? ⟨b6, 9, none⟩ = some (Value.int .i64 y) := (H6.out).cell 9
  have HcX3 := hide (Chg.refl (fun k => k = (w.heap.size + 1 + 1)) w3)
  clear hR hF hFin h4 h5 h6 hx0 hb0 hr0 hB4 hB5 hB6 hz4 hz5 hz6 hsm e Hb Hr Hx
  have Hrx := hide (show w.heap.size + 1 ≠ (w.heap.size + 1 + 1) from by omega)
  have HC4 := hide (⟨by show 8 < 18; decide, rfl⟩ : CellL [Value.int .i64 2, .int .i64 0, .int .i64 0, .int .i64 0, .int .i64 0, .int .i64 0, .int .i64 0, .int .i64 0, .int .i64 0, .int .i64 0, .int .i64 0, .int .i64 0, .int .i64 0, .int .i64 0, .int .i64 0, .int .i64 0, .int .i64 0, .int .i64 0] 8 (Value.int .i64 6))
  have HC5 := hide (⟨by show 16 < 18; decide, rfl⟩ : CellL [Value.int .i64 2, .int .i64 0, .int .i64 0, .int .i64 0, .int .i64 0, .int .i64 0, .int .i64 0, .int .i64 0, .int .i64 6, .int .i64 0, .int .i64 0, .int .i64 0, .int .i64 0, .int .i64 0, .int .i64 0, .int .i64 0, .int .i64 0, .int .i64 0] 16 (Value.int .i64 x))
  have HC6 := hide (⟨by show 17 < 18; decide, rfl⟩ : CellL [Value.int .i64 2, .int .i64 0, .int .i64 0, .int .i64 0, .int .i64 0, .int .i64 0, .int .i64 0, .int .i64 0, .int .i64 6, .int .i64 0, .int .i64 0, .int .i64 0, .int .i64 0, .int .i64 0, .int .i64 0, .int .i64 0, .int .i64 x, .int .i64 0] 17 (Value.int .i64 y))
  go_wp2_with (first
    | ((with_reducible refine stCg 3 (w.heap.size + 1 + 1) 8 (Value.int .i64 6) 35 [Value.int .i64 2, .int .i64 0, .int .i64 0, .int .i64 0, .int .i64 0, .int .i64 0, .int .i64 0, .int .i64 0, .int .i64 0, .int .i64 0, .int .i64 0, .int .i64 0, .int .i64 0, .int .i64 0, .int .i64 0, .int .i64 0, .int .i64 0, .int .i64 0] intSz HC4.out.one HX3.out HC4.out.lt ?_ ?_ ?_); rfl; rfl; intro w4 hc hb; clear kb0 k60 k68 k69; have HX4 := hide (show Blk w4 (w.heap.size + 1 + 1) 35 ([Value.int .i64 2, .int .i64 0, .int .i64 0, .int .i64 0, .int .i64 0, .int .i64 0, .int .i64 0, .int .i64 0, .int .i64 6, .int .i64 0, .int .i64 0, .int .i64 0, .int .i64 0, .int .i64 0, .int .i64 0, .int .i64 0, .int .i64 0, .int .i64 0]).toArray from hb); have hc' := Chg.trans HcX3.out hc (fun _ _ e => e); have HcX4 := hide hc'; have kb0 : w4.cell? ⟨w.heap.size, 0, none⟩ = some (Value.int .i64 2) := (HB.out.chg hc' Hgx.out).cell 0; have k60 : w4.cell? ⟨b6, 0, none⟩ = some (Value.int .i64 6) := (H6.out.chg hc' Hne.out.2.2).cell 0; have k68 : w4.cell? ⟨b6, 8, none⟩ = some (Value.int .i64 x) := (H6.out.chg hc' Hne.out.2.2).cell 8; have k69 : w4.cell? ⟨b6, 9, none⟩ = some (Value.int .i64 y) := (H6.out.chg hc' Hne.out.2.2).cell 9; clear hc hc' hb)
    | ((with_reducible refine stCg 3 (w.heap.size + 1 + 1) 16 (Value.int .i64 x) 35 [Value.int .i64 2, .int .i64 0, .int .i64 0, .int .i64 0, .int .i64 0, .int .i64 0, .int .i64 0, .int .i64 0, .int .i64 6, .int .i64 0, .int .i64 0, .int .i64 0, .int .i64 0, .int .i64 0, .int .i64 0, .int .i64 0, .int .i64 0, .int .i64 0] intSz HC5.out.one HX4.out HC5.out.lt ?_ ?_ ?_); rfl; rfl; intro w5 hc hb; clear kb0 k60 k68 k69; have HX5 := hide (show Blk w5 (w.heap.size + 1 + 1) 35 ([Value.int .i64 2, .int .i64 0, .int .i64 0, .int .i64 0, .int .i64 0, .int .i64 0, .int .i64 0, .int .i64 0, .int .i64 6, .int .i64 0, .int .i64 0, .int .i64 0, .int .i64 0, .int .i64 0, .int .i64 0, .int .i64 0, .int .i64 x, .int .i64 0]).toArray from hb); have hc' := Chg.trans HcX4.out hc (fun _ _ e => e); have HcX5 := hide hc'; have kb0 : w5.cell? ⟨w.heap.size, 0, none⟩ = some (Value.int .i64 2) := (HB.out.chg hc' Hgx.out).cell 0; have k60 : w5.cell? ⟨b6, 0, none⟩ = some (Value.int .i64 6) := (H6.out.chg hc' Hne.out.2.2).cell 0; have k68 : w5.cell? ⟨b6, 8, none⟩ = some (Value.int .i64 x) := (H6.out.chg hc' Hne.out.2.2).cell 8; have k69 : w5.cell? ⟨b6, 9, none⟩ = some (Value.int .i64 y) := (H6.out.chg hc' Hne.out.2.2).cell 9; clear hc hc' hb)
    | ((with_reducible refine stCg 3 (w.heap.size + 1 + 1) 17 (Value.int .i64 y) 35 [Value.int .i64 2, .int .i64 0, .int .i64 0, .int .i64 0, .int .i64 0, .int .i64 0, .int .i64 0, .int .i64 0, .int .i64 6, .int .i64 0, .int .i64 0, .int .i64 0, .int .i64 0, .int .i64 0, .int .i64 0, .int .i64 0, .int .i64 x, .int .i64 0] intSz HC6.out.one HX5.out HC6.out.lt ?_ ?_ ?_); rfl; rfl; intro w6 hc hb; clear kb0 k60 k68 k69; have HX6 := hide (show Blk w6 (w.heap.size + 1 + 1) 35 ([Value.int .i64 2, .int .i64 0, .int .i64 0, .int .i64 0, .int .i64 0, .int .i64 0, .int .i64 0, .int .i64 0, .int .i64 6, .int .i64 0, .int .i64 0, .int .i64 0, .int .i64 0, .int .i64 0, .int .i64 0, .int .i64 0, .int .i64 x, .int .i64 y]).toArray from hb); have hc' := Chg.trans HcX5.out hc (fun _ _ e => e); have HcX6 := hide hc'; have kb0 : w6.cell? ⟨w.heap.size, 0, none⟩ = some (Value.int .i64 2) := (HB.out.chg hc' Hgx.out).cell 0; have k60 : w6.cell? ⟨b6, 0, none⟩ = some (Value.int .i64 6) := (H6.out.chg hc' Hne.out.2.2).cell 0; have k68 : w6.cell? ⟨b6, 8, none⟩ = some (Value.int .i64 x) := (H6.out.chg hc' Hne.out.2.2).cell 8; have k69 : w6.cell? ⟨b6, 9, none⟩ = some (Value.int .i64 y) := (H6.out.chg hc' Hne.out.2.2).cell 9; clear hc hc' hb)
    | ((with_reducible refine ldR 35 (w.heap.size + 1 + 1) 0 18 [Value.int .i64 2, .int .i64 0, .int .i64 0, .int .i64 0, .int .i64 0, .int .i64 0, .int .i64 0, .int .i64 0, .int .i64 6, .int .i64 0, .int .i64 0, .int .i64 0, .int .i64 0, .int .i64 0, .int .i64 0, .int .i64 0, .int .i64 x, .int .i64 y] rowReq HF.out.len (blk_range HX6.out) ?_ ?_ ?_); rfl; rfl)
    | ((with_reducible refine stRg 35 (w.heap.size + 1) 18 [Value.int .i64 2, .int .i64 0, .int .i64 0, .int .i64 0, .int .i64 0, .int .i64 0, .int .i64 0, .int .i64 0, .int .i64 6, .int .i64 0, .int .i64 0, .int .i64 0, .int .i64 0, .int .i64 0, .int .i64 0, .int .i64 0, .int .i64 x, .int .i64 y] 35 _ rowReq HF.out.len ?_ (HR.out.chg HcX6.out Hrx.out) HF.out.one ?_ ?_ ?_); rfl; rfl; rfl; intro w9 hc9 hz9 hb9; have Hc9 := hide hc9; have Hb9 := hide hb9; clear hc9 hz9 hb9)
    | fail)
  refine bodyPost_ret (results_cell_row rfl _ _ _ _ _ _ _ rfl Hb9.out Tryz.underlying35 rfl (by kernel_rfl)) (by rfl) (show _ ∧ _ from ⟨rfl, ?_⟩)
  have h1 : Chg (fun k => w.heap.size ≤ k) w w3 := Same.to HS.out
  have h2 : Chg (fun k => w.heap.size ≤ k) w w6 := Chg.trans h1 HcX6.out (fun k _ e => (by have e' : k = (w.heap.size + 1 + 1) := e; omega))
  exact Chg.fresh (S := fun k => w.heap.size ≤ k) (Chg.trans h2 Hc9.out (fun k _ e => (by have e' : k = w.heap.size + 1 := e; omega))) (fun _ h => h)
set_option maxRecDepth 100000 in
set_option maxHeartbeats 8000000 in
theorem ronly_17 (ck p1 p2 p3 s1 s2 s3 a b c d e1 f g x y : Int) (w : World) :
    Calls Tryz.prog 27 #[.agg #[Value.int .i64 2, .int .i64 ck, .int .i64 p1, .int .i64 p2, .int .i64 p3, .int .i64 s1, .int .i64 s2, .int .i64 s3, .int .i64 7, .int .i64 a, .int .i64 b, .int .i64 c, .int .i64 d, .int .i64 e1, .int .i64 f, .int .i64 g, .int .i64 x, .int .i64 y]] w fun en w' => en = .returned (.agg #[Value.int .i64 2, .int .i64 0, .int .i64 0, .int .i64 0, .int .i64 0, .int .i64 0, .int .i64 0, .int .i64 0, .int .i64 7, .int .i64 0, .int .i64 0, .int .i64 0, .int .i64 0, .int .i64 0, .int .i64 0, .int .i64 0, .int .i64 x, .int .i64 y]) ∧ Same w w'  := by
  have hb := (Blk.new w 35 #[Value.int .i64 2, .int .i64 ck, .int .i64 p1, .int .i64 p2, .int .i64 p3, .int .i64 s1, .int .i64 s2, .int .i64 s3, .int .i64 7, .int .i64 a, .int .i64 b, .int .i64 c, .int .i64 d, .int .i64 e1, .int .i64 f, .int .i64 g, .int .i64 x, .int .i64 y]).alloc (.cells #[Value.int .i64 0, .int .i64 0, .int .i64 0, .int .i64 0, .int .i64 0, .int .i64 0, .int .i64 0, .int .i64 0, .int .i64 0, .int .i64 0, .int .i64 0, .int .i64 0, .int .i64 0, .int .i64 0, .int .i64 0, .int .i64 0, .int .i64 0, .int .i64 0] 35)
  have hr := Blk.new (w.alloc (.cells #[Value.int .i64 2, .int .i64 ck, .int .i64 p1, .int .i64 p2, .int .i64 p3, .int .i64 s1, .int .i64 s2, .int .i64 s3, .int .i64 7, .int .i64 a, .int .i64 b, .int .i64 c, .int .i64 d, .int .i64 e1, .int .i64 f, .int .i64 g, .int .i64 x, .int .i64 y] 35)) 35 #[Value.int .i64 0, .int .i64 0, .int .i64 0, .int .i64 0, .int .i64 0, .int .i64 0, .int .i64 0, .int .i64 0, .int .i64 0, .int .i64 0, .int .i64 0, .int .i64 0, .int .i64 0, .int .i64 0, .int .i64 0, .int .i64 0, .int .i64 0, .int .i64 0]
  simp only [World.size_alloc] at hr
  have hs : Same w ((w.alloc (.cells #[Value.int .i64 2, .int .i64 ck, .int .i64 p1, .int .i64 p2, .int .i64 p3, .int .i64 s1, .int .i64 s2, .int .i64 s3, .int .i64 7, .int .i64 a, .int .i64 b, .int .i64 c, .int .i64 d, .int .i64 e1, .int .i64 f, .int .i64 g, .int .i64 x, .int .i64 y] 35)).alloc (.cells #[Value.int .i64 0, .int .i64 0, .int .i64 0, .int .i64 0, .int .i64 0, .int .i64 0, .int .i64 0, .int .i64 0, .int .i64 0, .int .i64 0, .int .i64 0, .int .i64 0, .int .i64 0, .int .i64 0, .int .i64 0, .int .i64 0, .int .i64 0, .int .i64 0] 35)) := ((Chg.refl _ w).alloc _).alloc _
  have Hb0 := hide hb
  have Hr0 := hide hr
  have Hs0 := hide hs
  have HXL := hide (RowL.lit rfl rfl : RowL [Value.int .i64 2, .int .i64 0, .int .i64 0, .int .i64 0, .int .i64 0, .int .i64 0, .int .i64 0, .int .i64 0, .int .i64 0, .int .i64 0, .int .i64 0, .int .i64 0, .int .i64 0, .int .i64 0, .int .i64 0, .int .i64 0, .int .i64 0, .int .i64 0] 18)
  clear hb hr hs
  go_enter Tryz.func27, Tryz.ntmps27
  go_wp2_with (first
    | ((with_reducible refine stNg 35 18 [Value.int .i64 2, .int .i64 0, .int .i64 0, .int .i64 0, .int .i64 0, .int .i64 0, .int .i64 0, .int .i64 0, .int .i64 0, .int .i64 0, .int .i64 0, .int .i64 0, .int .i64 0, .int .i64 0, .int .i64 0, .int .i64 0, .int .i64 0, .int .i64 0] 35 _ rowReq HXL.out.len ?_ HXL.out.one ?_ ?_ ?_); rfl; (simp only [World.size_alloc]; rfl); rfl; intro w0 hs1 hz1 hb1; simp only [World.size_alloc] at hb1; have Hs := hide (Same.trans Hs0.out hs1); have Hx := hide (show Blk w0 (w.heap.size + 1 + 1) 35 #[Value.int .i64 2, .int .i64 0, .int .i64 0, .int .i64 0, .int .i64 0, .int .i64 0, .int .i64 0, .int .i64 0, .int .i64 0, .int .i64 0, .int .i64 0, .int .i64 0, .int .i64 0, .int .i64 0, .int .i64 0, .int .i64 0, .int .i64 0, .int .i64 0] from hb1); have Hb := hide (Hb0.out.same hs1); have Hr := hide (Hr0.out.same hs1); clear hs1 hz1 hb1)
    | fail)
  clear Hs0 Hb0 Hr0 HXL
  have HP := hide (RowL.lit rfl rfl : RowL [Value.int .i64 p1, .int .i64 p2, .int .i64 p3] 3)
  have HSp := hide (RowL.lit rfl rfl : RowL [Value.int .i64 s1, .int .i64 s2, .int .i64 s3] 3)
  have HQ := hide (RowL.lit rfl rfl : RowL [Value.int .i64 7, .int .i64 a, .int .i64 b, .int .i64 c, .int .i64 d, .int .i64 e1, .int .i64 f, .int .i64 g, .int .i64 x, .int .i64 y] 10)
  have HF := hide (RowL.lit rfl rfl : RowL [Value.int .i64 2, .int .i64 0, .int .i64 0, .int .i64 0, .int .i64 0, .int .i64 0, .int .i64 0, .int .i64 0, .int .i64 7, .int .i64 0, .int .i64 0, .int .i64 0, .int .i64 0, .int .i64 0, .int .i64 0, .int .i64 0, .int .i64 x, .int .i64 y] 18)
  refine wp_region_mixT (fun k => if k = 11 then some 23 else if k = 12 then some 25 else if k = 13 then some 33 else none) 14 (by kernel_rfl) (by kernel_rfl) fun Fin hFin => ?_
  simp only [List.take_succ_cons, List.take_zero]
  iterate 2 (
      (refine mix_lit ?_ ?_ (fun w => RkT.of_same (Chg.refl _ w)) ?_ ?_ ?_ ?_
       rotate_left; rotate_left
       · intro e w1 hR hF K hK; (skip); go_simp; (refine hK _ _ (RkT.of_same (Chg.refl _ _)) ?_; rfl)
       · intro e; simp only [Act.put, List.setIfInBounds_toArray, List.set_cons_zero, List.set_cons_succ]; rfl
       · exact Loc.const _ _))
  refine mix_ld [Value.int .i64 p1, .int .i64 p2, .int .i64 p3] ?_ (fun w => RkT.of_same (Chg.refl _ w)) (fun _ => by rfl) 23 _ rfl w.heap.size 2 (fun _ => by rfl) _ (fun w1 hR => rangeAt_blk [Value.int .i64 2, .int .i64 ck] [Value.int .i64 p1, .int .i64 p2, .int .i64 p3] [Value.int .i64 s1, .int .i64 s2, .int .i64 s3, .int .i64 7, .int .i64 a, .int .i64 b, .int .i64 c, .int .i64 d, .int .i64 e1, .int .i64 f, .int .i64 g, .int .i64 x, .int .i64 y] (Hb.out.same (RT.same hR))) Tryz.underlying23 rfl (by kernel_rfl) ?_ ?_
  rotate_left
  · intro e; simp only [Act.put, List.setIfInBounds_toArray, List.set_cons_zero, List.set_cons_succ]; rfl
  iterate 2 (
      (refine mix_lit ?_ ?_ (fun w => RkT.of_same (Chg.refl _ w)) ?_ ?_ ?_ ?_
       rotate_left; rotate_left
       · intro e w1 hR hF K hK; (skip); go_simp; (refine hK _ _ (RkT.of_same (Chg.refl _ _)) ?_; rfl)
       · intro e; simp only [Act.put, List.setIfInBounds_toArray, List.set_cons_zero, List.set_cons_succ]; rfl
       · exact Loc.const _ _))
  refine mix_ld [Value.int .i64 s1, .int .i64 s2, .int .i64 s3] ?_ (fun w => RkT.of_same (Chg.refl _ w)) (fun _ => by rfl) 25 _ rfl w.heap.size 5 (fun _ => by rfl) _ (fun w1 hR => rangeAt_blk [Value.int .i64 2, .int .i64 ck, .int .i64 p1, .int .i64 p2, .int .i64 p3] [Value.int .i64 s1, .int .i64 s2, .int .i64 s3] [Value.int .i64 7, .int .i64 a, .int .i64 b, .int .i64 c, .int .i64 d, .int .i64 e1, .int .i64 f, .int .i64 g, .int .i64 x, .int .i64 y] (Hb.out.same (RT.same hR))) Tryz.underlying25 rfl (by kernel_rfl) ?_ ?_
  rotate_left
  · intro e; simp only [Act.put, List.setIfInBounds_toArray, List.set_cons_zero, List.set_cons_succ]; rfl
  iterate 1 (
      (refine mix_lit ?_ ?_ (fun w => RkT.of_same (Chg.refl _ w)) ?_ ?_ ?_ ?_
       rotate_left; rotate_left
       · intro e w1 hR hF K hK; (skip); go_simp; (refine hK _ _ (RkT.of_same (Chg.refl _ _)) ?_; rfl)
       · intro e; simp only [Act.put, List.setIfInBounds_toArray, List.set_cons_zero, List.set_cons_succ]; rfl
       · exact Loc.const _ _))
  refine mix_ld [Value.int .i64 7, .int .i64 a, .int .i64 b, .int .i64 c, .int .i64 d, .int .i64 e1, .int .i64 f, .int .i64 g, .int .i64 x, .int .i64 y] ?_ (fun w => RkT.of_same (Chg.refl _ w)) (fun _ => by rfl) 33 _ rfl w.heap.size 8 (fun _ => by rfl) _ (fun w1 hR => rangeAt_blk [Value.int .i64 2, .int .i64 ck, .int .i64 p1, .int .i64 p2, .int .i64 p3, .int .i64 s1, .int .i64 s2, .int .i64 s3] [Value.int .i64 7, .int .i64 a, .int .i64 b, .int .i64 c, .int .i64 d, .int .i64 e1, .int .i64 f, .int .i64 g, .int .i64 x, .int .i64 y] [] (Hb.out.same (RT.same hR))) Tryz.underlying33 rfl (by kernel_rfl) ?_ ?_
  rotate_left
  · intro e; simp only [Act.put, List.setIfInBounds_toArray, List.set_cons_zero, List.set_cons_succ]; rfl
  refine mix_let (fun _ v w9 => NewB w0 23 3 v w9) ?_ (by exact Loc.const _ _) (fun i _ _ e u w w' hr h => h.keep hr.keep) ?_ ?_ ?_ ?_
  rotate_left
  · intro e; rfl
  · intro e w9 hR hF K hK; go_simp; exact hK _ _ _ (RkT.of_same ((Chg.refl _ _).alloc _)) ⟨_, rfl, Chg.size hR, _, rfl, Blk.new _ _ _⟩ (by simp only [Act.put, List.setIfInBounds_toArray, List.set_cons_zero, List.set_cons_succ])
  · intro e; simp only [Act.put, List.setIfInBounds_toArray, List.set_cons_zero, List.set_cons_succ]; rfl
  refine mix_let (fun _ v w9 => NewB w0 25 3 v w9) ?_ (by exact Loc.const _ _) (fun i _ _ e u w w' hr h => h.keep hr.keep) ?_ ?_ ?_ ?_
  rotate_left
  · intro e; rfl
  · intro e w9 hR hF K hK; go_simp; exact hK _ _ _ (RkT.of_same ((Chg.refl _ _).alloc _)) ⟨_, rfl, Chg.size hR, _, rfl, Blk.new _ _ _⟩ (by simp only [Act.put, List.setIfInBounds_toArray, List.set_cons_zero, List.set_cons_succ])
  · intro e; simp only [Act.put, List.setIfInBounds_toArray, List.set_cons_zero, List.set_cons_succ]; rfl
  refine mix_let (fun _ v w9 => NewB w0 33 10 v w9) ?_ (by exact Loc.const _ _) (fun i _ _ e u w w' hr h => h.keep hr.keep) ?_ ?_ ?_ ?_
  rotate_left
  · intro e; rfl
  · intro e w9 hR hF K hK; go_simp; exact hK _ _ _ (RkT.of_same ((Chg.refl _ _).alloc _)) ⟨_, rfl, Chg.size hR, _, rfl, Blk.new _ _ _⟩ (by simp only [Act.put, List.setIfInBounds_toArray, List.set_cons_zero, List.set_cons_succ])
  · intro e; simp only [Act.put, List.setIfInBounds_toArray, List.set_cons_zero, List.set_cons_succ]; rfl
  refine mt_st 8 23 3 [Value.int .i64 p1, .int .i64 p2, .int .i64 p3] ?_ (by rfl) rowPt.sz HP.out.len HP.out.one (fun _ => by rfl) (fun _ => by rfl) (fun _ => by rfl) (by kernel_rfl) (fun e w h => h) (by rfl) (by intro i hi h; (repeat' split at h) <;> first | omega | (cases h; done) | exact absurd h (by decide)) ?_ ?_
  rotate_left
  · intro e; rfl
  refine mt_st 9 25 3 [Value.int .i64 s1, .int .i64 s2, .int .i64 s3] ?_ (by rfl) rowSp.sz HSp.out.len HSp.out.one (fun _ => by rfl) (fun _ => by rfl) (fun _ => by rfl) (by kernel_rfl) (fun e w h => h) (by rfl) (by intro i hi h; (repeat' split at h) <;> first | omega | (cases h; done) | exact absurd h (by decide)) ?_ ?_
  rotate_left
  · intro e; rfl
  refine mt_st 10 33 10 [Value.int .i64 7, .int .i64 a, .int .i64 b, .int .i64 c, .int .i64 d, .int .i64 e1, .int .i64 f, .int .i64 g, .int .i64 x, .int .i64 y] ?_ (by rfl) rowQry.sz HQ.out.len HQ.out.one (fun _ => by rfl) (fun _ => by rfl) (fun _ => by rfl) (by kernel_rfl) (fun e w h => h) (by rfl) (by intro i hi h; (repeat' split at h) <;> first | omega | (cases h; done) | exact absurd h (by decide)) ?_ ?_
  rotate_left
  · intro e; rfl
  refine mix_nil fun e w3 hR hF => hFin _ _ ?_
  simp only [List.drop_succ_cons, List.drop_zero]
  obtain ⟨b4, h4, hz4, hB4⟩ := (show PutB w0 23 [Value.int .i64 p1, .int .i64 p2, .int .i64 p3] (e 8) w3 from hF 11 (by decide))
  obtain ⟨b5, h5, hz5, hB5⟩ := (show PutB w0 25 [Value.int .i64 s1, .int .i64 s2, .int .i64 s3] (e 9) w3 from hF 12 (by decide))
  obtain ⟨b6, h6, hz6, hB6⟩ := (show PutB w0 33 [Value.int .i64 7, .int .i64 a, .int .i64 b, .int .i64 c, .int .i64 d, .int .i64 e1, .int .i64 f, .int .i64 g, .int .i64 x, .int .i64 y] (e 10) w3 from hF 13 (by decide))
  rw [h4, h5, h6]
  have hsm := RT.same hR
  have hx0 := Hx.out.same hsm
  have hb0 := Hb.out.same hsm
  have hr0 := Hr.out.same hsm
  have Hne := hide (show (b4 ≠ (w.heap.size + 1 + 1) ∧ b5 ≠ (w.heap.size + 1 + 1) ∧ b6 ≠ (w.heap.size + 1 + 1)) from ⟨ty_ne hB4 hx0 (by decide), ty_ne hB5 hx0 (by decide), ty_ne hB6 hx0 (by decide)⟩)
  have HB := hide hb0
  have Hgx := hide (show w.heap.size ≠ (w.heap.size + 1 + 1) from by omega)
  have HR := hide hr0
  have HX3 := hide (show Blk w3 (w.heap.size + 1 + 1) 35 ([Value.int .i64 2, .int .i64 0, .int .i64 0, .int .i64 0, .int .i64 0, .int .i64 0, .int .i64 0, .int .i64 0, .int .i64 0, .int .i64 0, .int .i64 0, .int .i64 0, .int .i64 0, .int .i64 0, .int .i64 0, .int .i64 0, .int .i64 0, .int .i64 0]).toArray from hx0)
  have H4 := hide hB4
  have H5 := hide hB5
  have H6 := hide hB6
  have HS := hide (Same.trans Hs.out hsm)
  have kb0 : w3.cell? ⟨w.heap.size, 0, none⟩ = some (Value.int .i64 2) := (HB.out).cell 0
  have k60 : w3.cell? ⟨b6, 0, none⟩ = some (Value.int .i64 7) := (H6.out).cell 0
  have k68 : w3.cell? ⟨b6, 8, none⟩ = some (Value.int .i64 x) := (H6.out).cell 8
  have k69 : w3.cell? ⟨b6, 9, none⟩ = some (Value.int .i64 y) := (H6.out).cell 9
  have HcX3 := hide (Chg.refl (fun k => k = (w.heap.size + 1 + 1)) w3)
  clear hR hF hFin h4 h5 h6 hx0 hb0 hr0 hB4 hB5 hB6 hz4 hz5 hz6 hsm e Hb Hr Hx
  have Hrx := hide (show w.heap.size + 1 ≠ (w.heap.size + 1 + 1) from by omega)
  have HC4 := hide (⟨by show 8 < 18; decide, rfl⟩ : CellL [Value.int .i64 2, .int .i64 0, .int .i64 0, .int .i64 0, .int .i64 0, .int .i64 0, .int .i64 0, .int .i64 0, .int .i64 0, .int .i64 0, .int .i64 0, .int .i64 0, .int .i64 0, .int .i64 0, .int .i64 0, .int .i64 0, .int .i64 0, .int .i64 0] 8 (Value.int .i64 7))
  have HC5 := hide (⟨by show 16 < 18; decide, rfl⟩ : CellL [Value.int .i64 2, .int .i64 0, .int .i64 0, .int .i64 0, .int .i64 0, .int .i64 0, .int .i64 0, .int .i64 0, .int .i64 7, .int .i64 0, .int .i64 0, .int .i64 0, .int .i64 0, .int .i64 0, .int .i64 0, .int .i64 0, .int .i64 0, .int .i64 0] 16 (Value.int .i64 x))
  have HC6 := hide (⟨by show 17 < 18; decide, rfl⟩ : CellL [Value.int .i64 2, .int .i64 0, .int .i64 0, .int .i64 0, .int .i64 0, .int .i64 0, .int .i64 0, .int .i64 0, .int .i64 7, .int .i64 0, .int .i64 0, .int .i64 0, .int .i64 0, .int .i64 0, .int .i64 0, .int .i64 0, .int .i64 x, .int .i64 0] 17 (Value.int .i64 y))
  go_wp2_with (first
    | ((with_reducible refine stCg 3 (w.heap.size + 1 + 1) 8 (Value.int .i64 7) 35 [Value.int .i64 2, .int .i64 0, .int .i64 0, .int .i64 0, .int .i64 0, .int .i64 0, .int .i64 0, .int .i64 0, .int .i64 0, .int .i64 0, .int .i64 0, .int .i64 0, .int .i64 0, .int .i64 0, .int .i64 0, .int .i64 0, .int .i64 0, .int .i64 0] intSz HC4.out.one HX3.out HC4.out.lt ?_ ?_ ?_); rfl; rfl; intro w4 hc hb; clear kb0 k60 k68 k69; have HX4 := hide (show Blk w4 (w.heap.size + 1 + 1) 35 ([Value.int .i64 2, .int .i64 0, .int .i64 0, .int .i64 0, .int .i64 0, .int .i64 0, .int .i64 0, .int .i64 0, .int .i64 7, .int .i64 0, .int .i64 0, .int .i64 0, .int .i64 0, .int .i64 0, .int .i64 0, .int .i64 0, .int .i64 0, .int .i64 0]).toArray from hb); have hc' := Chg.trans HcX3.out hc (fun _ _ e => e); have HcX4 := hide hc'; have kb0 : w4.cell? ⟨w.heap.size, 0, none⟩ = some (Value.int .i64 2) := (HB.out.chg hc' Hgx.out).cell 0; have k60 : w4.cell? ⟨b6, 0, none⟩ = some (Value.int .i64 7) := (H6.out.chg hc' Hne.out.2.2).cell 0; have k68 : w4.cell? ⟨b6, 8, none⟩ = some (Value.int .i64 x) := (H6.out.chg hc' Hne.out.2.2).cell 8; have k69 : w4.cell? ⟨b6, 9, none⟩ = some (Value.int .i64 y) := (H6.out.chg hc' Hne.out.2.2).cell 9; clear hc hc' hb)
    | ((with_reducible refine stCg 3 (w.heap.size + 1 + 1) 16 (Value.int .i64 x) 35 [Value.int .i64 2, .int .i64 0, .int .i64 0, .int .i64 0, .int .i64 0, .int .i64 0, .int .i64 0, .int .i64 0, .int .i64 7, .int .i64 0, .int .i64 0, .int .i64 0, .int .i64 0, .int .i64 0, .int .i64 0, .int .i64 0, .int .i64 0, .int .i64 0] intSz HC5.out.one HX4.out HC5.out.lt ?_ ?_ ?_); rfl; rfl; intro w5 hc hb; clear kb0 k60 k68 k69; have HX5 := hide (show Blk w5 (w.heap.size + 1 + 1) 35 ([Value.int .i64 2, .int .i64 0, .int .i64 0, .int .i64 0, .int .i64 0, .int .i64 0, .int .i64 0, .int .i64 0, .int .i64 7, .int .i64 0, .int .i64 0, .int .i64 0, .int .i64 0, .int .i64 0, .int .i64 0, .int .i64 0, .int .i64 x, .int .i64 0]).toArray from hb); have hc' := Chg.trans HcX4.out hc (fun _ _ e => e); have HcX5 := hide hc'; have kb0 : w5.cell? ⟨w.heap.size, 0, none⟩ = some (Value.int .i64 2) := (HB.out.chg hc' Hgx.out).cell 0; have k60 : w5.cell? ⟨b6, 0, none⟩ = some (Value.int .i64 7) := (H6.out.chg hc' Hne.out.2.2).cell 0; have k68 : w5.cell? ⟨b6, 8, none⟩ = some (Value.int .i64 x) := (H6.out.chg hc' Hne.out.2.2).cell 8; have k69 : w5.cell? ⟨b6, 9, none⟩ = some (Value.int .i64 y) := (H6.out.chg hc' Hne.out.2.2).cell 9; clear hc hc' hb)
    | ((with_reducible refine stCg 3 (w.heap.size + 1 + 1) 17 (Value.int .i64 y) 35 [Value.int .i64 2, .int .i64 0, .int .i64 0, .int .i64 0, .int .i64 0, .int .i64 0, .int .i64 0, .int .i64 0, .int .i64 7, .int .i64 0, .int .i64 0, .int .i64 0, .int .i64 0, .int .i64 0, .int .i64 0, .int .i64 0, .int .i64 x, .int .i64 0] intSz HC6.out.one HX5.out HC6.out.lt ?_ ?_ ?_); rfl; rfl; intro w6 hc hb; clear kb0 k60 k68 k69; have HX6 := hide (show Blk w6 (w.heap.size + 1 + 1) 35 ([Value.int .i64 2, .int .i64 0, .int .i64 0, .int .i64 0, .int .i64 0, .int .i64 0, .int .i64 0, .int .i64 0, .int .i64 7, .int .i64 0, .int .i64 0, .int .i64 0, .int .i64 0, .int .i64 0, .int .i64 0, .int .i64 0, .int .i64 x, .int .i64 y]).toArray from hb); have hc' := Chg.trans HcX5.out hc (fun _ _ e => e); have HcX6 := hide hc'; have kb0 : w6.cell? ⟨w.heap.size, 0, none⟩ = some (Value.int .i64 2) := (HB.out.chg hc' Hgx.out).cell 0; have k60 : w6.cell? ⟨b6, 0, none⟩ = some (Value.int .i64 7) := (H6.out.chg hc' Hne.out.2.2).cell 0; have k68 : w6.cell? ⟨b6, 8, none⟩ = some (Value.int .i64 x) := (H6.out.chg hc' Hne.out.2.2).cell 8; have k69 : w6.cell? ⟨b6, 9, none⟩ = some (Value.int .i64 y) := (H6.out.chg hc' Hne.out.2.2).cell 9; clear hc hc' hb)
    | ((with_reducible refine ldR 35 (w.heap.size + 1 + 1) 0 18 [Value.int .i64 2, .int .i64 0, .int .i64 0, .int .i64 0, .int .i64 0, .int .i64 0, .int .i64 0, .int .i64 0, .int .i64 7, .int .i64 0, .int .i64 0, .int .i64 0, .int .i64 0, .int .i64 0, .int .i64 0, .int .i64 0, .int .i64 x, .int .i64 y] rowReq HF.out.len (blk_range HX6.out) ?_ ?_ ?_); rfl; rfl)
    | ((with_reducible refine stRg 35 (w.heap.size + 1) 18 [Value.int .i64 2, .int .i64 0, .int .i64 0, .int .i64 0, .int .i64 0, .int .i64 0, .int .i64 0, .int .i64 0, .int .i64 7, .int .i64 0, .int .i64 0, .int .i64 0, .int .i64 0, .int .i64 0, .int .i64 0, .int .i64 0, .int .i64 x, .int .i64 y] 35 _ rowReq HF.out.len ?_ (HR.out.chg HcX6.out Hrx.out) HF.out.one ?_ ?_ ?_); rfl; rfl; rfl; intro w9 hc9 hz9 hb9; have Hc9 := hide hc9; have Hb9 := hide hb9; clear hc9 hz9 hb9)
    | fail)
  refine bodyPost_ret (results_cell_row rfl _ _ _ _ _ _ _ rfl Hb9.out Tryz.underlying35 rfl (by kernel_rfl)) (by rfl) (show _ ∧ _ from ⟨rfl, ?_⟩)
  have h1 : Chg (fun k => w.heap.size ≤ k) w w3 := Same.to HS.out
  have h2 : Chg (fun k => w.heap.size ≤ k) w w6 := Chg.trans h1 HcX6.out (fun k _ e => (by have e' : k = (w.heap.size + 1 + 1) := e; omega))
  exact Chg.fresh (S := fun k => w.heap.size ≤ k) (Chg.trans h2 Hc9.out (fun k _ e => (by have e' : k = w.heap.size + 1 := e; omega))) (fun _ h => h)
theorem ronly_any (r : Rq) (w : World) (hg : goodR r = true) :
    Calls Tryz.prog 27 #[rqV r] w fun e w' => e = .returned (rqV (onlyR r)) ∧ Same w w' := by
  obtain ⟨k, ⟨ck, ⟨p1, p2, p3⟩, ⟨s1, s2, s3⟩⟩, ⟨qk, a, b, c, d, e1, f, g, x, y⟩⟩ := r
  have := good_cases hg
  simp only at this
  rcases this with ⟨rfl, rfl | rfl | rfl | rfl⟩ | ⟨rfl, rfl | rfl | rfl | rfl | rfl | rfl | rfl⟩
  · exact ronly_1 qk p1 p2 p3 s1 s2 s3 a b c d e1 f g x y w
  · exact ronly_2 qk p1 p2 p3 s1 s2 s3 a b c d e1 f g x y w
  · exact ronly_3 qk p1 p2 p3 s1 s2 s3 a b c d e1 f g x y w
  · exact ronly_4 qk p1 p2 p3 s1 s2 s3 a b c d e1 f g x y w
  · exact ronly_11 ck p1 p2 p3 s1 s2 s3 a b c d e1 f g x y w
  · exact ronly_12 ck p1 p2 p3 s1 s2 s3 a b c d e1 f g x y w
  · exact ronly_13 ck p1 p2 p3 s1 s2 s3 a b c d e1 f g x y w
  · exact ronly_14 ck p1 p2 p3 s1 s2 s3 a b c d e1 f g x y w
  · exact ronly_15 ck p1 p2 p3 s1 s2 s3 a b c d e1 f g x y w
  · exact ronly_16 ck p1 p2 p3 s1 s2 s3 a b c d e1 f g x y w
  · exact ronly_17 ck p1 p2 p3 s1 s2 s3 a b c d e1 f g x y w
end Go.Proofs.YtlodanjpkjfjiaaGreatDoor
/-! OnG -/
namespace Go.Proofs.YtlodanjpkjfjiaaGreatDoor
open Go.RowKit Go.Al
set_option linter.unusedVariables false

/-- where the bytes of what plays a part lie -/
def onlyAt (a : Ac) (A : Option Addr) : Option Addr := if a.k = 5 then A else none
def onlyCap (a : Ac) (c : Nat) : Nat := if a.k = 5 then c else 0
theorem onlyA_at {a : Ac} {A : Option Addr} {c : Nat} {w : World} (h : ActAt w a A c) : ActAt w (onlyA a) (onlyAt a A) (onlyCap a c) := by
  unfold onlyAt onlyCap ActAt
  by_cases h5 : a.k = 5
  · rw [if_pos h5, if_pos h5]
    have : (onlyA a).b = a.b := by simp [onlyA, h5]
    rw [this]; exact h
  · rw [if_neg h5, if_neg h5]
    have : (onlyA a).b = [] := by simp [onlyA, h5]
    rw [this]; exact ⟨Rd.nil _ _, Nat.zero_le _, Nat.zero_le _⟩
set_option maxRecDepth 100000 in
set_option maxHeartbeats 8000000 in
theorem ronlyA_1 (a : Ac) {A0 : Option Addr} {c : Nat} (w : World) (hg : goodA a = true) (hk : a.k = 1) :
    Calls Tryz.prog 15 #[acV a A0 c] w fun e w' => e = .returned (acV (onlyA a) (onlyAt a A0) (onlyCap a c)) ∧ Same w w'  := by
  have hb := (Blk.new w 38 (acL a A0 c).toArray).alloc (.cells #[Value.int .i64 0, .int .i64 0, .int .i64 0, .int .i64 0, .int .i64 0, .int .i64 0, .int .i64 0, .int .i64 0, .int .i64 0, .int .i64 0, .int .i64 0, .int .i64 0, .int .i64 0, .int .i64 0, .int .i64 0, .int .i64 0, .int .i64 0, .int .i64 0, .int .i64 0, .int .i64 0, .int .i64 0, .slice none 0 0] 38)
  have hr := Blk.new (w.alloc (.cells (acL a A0 c).toArray 38)) 38 #[Value.int .i64 0, .int .i64 0, .int .i64 0, .int .i64 0, .int .i64 0, .int .i64 0, .int .i64 0, .int .i64 0, .int .i64 0, .int .i64 0, .int .i64 0, .int .i64 0, .int .i64 0, .int .i64 0, .int .i64 0, .int .i64 0, .int .i64 0, .int .i64 0, .int .i64 0, .int .i64 0, .int .i64 0, .slice none 0 0]
  simp only [World.size_alloc] at hr
  have hs : Same w ((w.alloc (.cells (acL a A0 c).toArray 38)).alloc (.cells #[Value.int .i64 0, .int .i64 0, .int .i64 0, .int .i64 0, .int .i64 0, .int .i64 0, .int .i64 0, .int .i64 0, .int .i64 0, .int .i64 0, .int .i64 0, .int .i64 0, .int .i64 0, .int .i64 0, .int .i64 0, .int .i64 0, .int .i64 0, .int .i64 0, .int .i64 0, .int .i64 0, .int .i64 0, .slice none 0 0] 38)) := ((Chg.refl _ w).alloc _).alloc _
  have l0 : (acL a A0 c)[0]? = some (.int .i64 a.k) := rfl
  have l1 : (acL a A0 c)[1]? = some (.int .i64 a.id) := rfl
  have l2 : (acL a A0 c)[2]? = some (.int .i64 a.n) := rfl
  have l21 : (acL a A0 c)[21]? = some (.slice A0 a.b.length c) := rfl
  have Hra := hide (fun (w' : World) (hs' : Same ((w.alloc (.cells (acL a A0 c).toArray 38)).alloc (.cells #[Value.int .i64 0, .int .i64 0, .int .i64 0, .int .i64 0, .int .i64 0, .int .i64 0, .int .i64 0, .int .i64 0, .int .i64 0, .int .i64 0, .int .i64 0, .int .i64 0, .int .i64 0, .int .i64 0, .int .i64 0, .int .i64 0, .int .i64 0, .int .i64 0, .int .i64 0, .int .i64 0, .int .i64 0, .slice none 0 0] 38)) w') => (acW_range (hb.same hs') : w'.rangeAt w.heap.size 3 (rqL a.r)))
  have HG := hide hg
  obtain ⟨k, id, n, r, b⟩ := a
  simp only at hk
  subst hk
  have hO : onlyA ⟨1, id, n, r, b⟩ = ⟨1, id, 0, onlyR r, []⟩ := by simp [onlyA]
  simp only at *
  obtain ⟨bl, hbl⟩ : ∃ n, b.length = n := ⟨_, rfl⟩
  have HE : Hid (∀ w', Same w w' → (Ending.returned (.agg ([Value.int .i64 1, .int .i64 id, .int .i64 0] ++ rqL (onlyR r) ++ [Value.slice none 0 0]).toArray) = .returned (acV (onlyA ⟨1, id, n, r, b⟩) (onlyAt ⟨1, id, n, r, b⟩ A0) (onlyCap ⟨1, id, n, r, b⟩ c)) ∧ Same w w')) := hide fun w' h4 => by
    subst hbl
    rw [hO]
    exact ⟨rfl, h4⟩
  rw [hbl] at l21
  have hgr : goodR r = true := by simpa [goodA] using HG.out
  have HO := hide (fun w' => ronly_any r w' hgr)
  have Hrl := hide (rqL_len r)
  have Hol := hide (rqL_len (onlyR r))
  have H1o := hide (one_rqL (onlyR r))
  unfold rqV at HO
  clear hgr
  have Hb := hide hb
  have Hr := hide hr
  have Hs := hide hs
  have c0 := hb.cell 0
  have c1 := hb.cell 1
  simp only [List.getElem?_toArray, l0, l1] at c0 c1
  clear hb hr hs hO hbl HG hg
  rw [show acV ⟨1, id, n, r, b⟩ A0 c = .agg (acL ⟨1, id, n, r, b⟩ A0 c).toArray from rfl]
  obtain ⟨vE, hvE⟩ : ∃ v, acV (onlyA ⟨1, id, n, r, b⟩) (onlyAt ⟨1, id, n, r, b⟩ A0) (onlyCap ⟨1, id, n, r, b⟩ c) = v := ⟨_, rfl⟩
  rw [hvE] at HE ⊢
  clear hvE
  generalize acL ⟨1, id, n, r, b⟩ A0 c = L at *
  generalize rqL r = RL at *
  generalize rqL (onlyR r) = RO at *
  have HM := hide (RowL.lit rfl rfl : RowL [Value.int .i64 1, .int .i64 id, .int .i64 0, .int .i64 0, .int .i64 0, .int .i64 0, .int .i64 0, .int .i64 0, .int .i64 0, .int .i64 0, .int .i64 0, .int .i64 0, .int .i64 0, .int .i64 0, .int .i64 0, .int .i64 0, .int .i64 0, .int .i64 0, .int .i64 0, .int .i64 0, .int .i64 0, .slice none 0 0] 22)
  have HZl := hide (RowL.lit rfl rfl : RowL [Value.int .i64 0, .int .i64 0, .int .i64 0, .int .i64 0, .int .i64 0, .int .i64 0, .int .i64 0, .int .i64 0, .int .i64 0, .int .i64 0, .int .i64 0, .int .i64 0, .int .i64 0, .int .i64 0, .int .i64 0, .int .i64 0, .int .i64 0, .int .i64 0] 18)
  have HP3 := hide (RowL.lit rfl rfl : RowL [Value.int .i64 1, Value.int .i64 id, Value.int .i64 0] 3)
  have HF := hide (show RowL ([Value.int .i64 1, .int .i64 id, .int .i64 0] ++ RO ++ [Value.slice none 0 0]) 22 from ⟨by simp [Hol.out], fun u hu => (by simp only [List.mem_append, List.mem_cons, List.not_mem_nil, or_false] at hu; rcases hu with ((rfl | rfl | rfl) | h) | rfl; rfl; rfl; rfl; exact H1o.out u h; rfl)⟩)
  go_enter Tryz.func15, Tryz.ntmps15
  go_wp2_with (first
    | ((with_reducible refine stNg 38 22 [Value.int .i64 1, .int .i64 id, .int .i64 0, .int .i64 0, .int .i64 0, .int .i64 0, .int .i64 0, .int .i64 0, .int .i64 0, .int .i64 0, .int .i64 0, .int .i64 0, .int .i64 0, .int .i64 0, .int .i64 0, .int .i64 0, .int .i64 0, .int .i64 0, .int .i64 0, .int .i64 0, .int .i64 0, .slice none 0 0] 38 _ rowAct HM.out.len ?_ HM.out.one ?_ ?_ ?_); rfl; (simp only [World.size_alloc]; rfl); rfl; intro w1 hs1 hz1 hb1; simp only [World.size_alloc] at hb1; have Hs1 := hide (Same.trans Hs.out hs1); have Hm1 := hide hb1; have Hb1 := hide (Hb.out.same hs1); have Hr1 := hide (Hr.out.same hs1); have c0 := Hb1.out.cell 0; have c1 := Hb1.out.cell 1; have c2 := Hb1.out.cell 2; have c21 := Hb1.out.cell 21; simp only [List.getElem?_toArray, l0, l1, l2, l21] at c0 c1 c2 c21; have Hra1 := hide (Hra.out _ hs1); clear hs1 hz1 hb1)
    | ((with_reducible refine ldR 35 w.heap.size 3 18 RL rowReq Hrl.out Hra1.out ?_ ?_ ?_); rfl; rfl)
    | (go_at_call 27; ((with_reducible refine (HO.out _).mono ?_); rintro e w2 ⟨rfl, hs2⟩; have Hs2 := hide (Same.trans Hs1.out hs2); have Hm2 := hide (show Blk w2 (w.heap.size + 1 + 1) 38 ([Value.int .i64 1, Value.int .i64 id, Value.int .i64 0] ++ [Value.int .i64 0, .int .i64 0, .int .i64 0, .int .i64 0, .int .i64 0, .int .i64 0, .int .i64 0, .int .i64 0, .int .i64 0, .int .i64 0, .int .i64 0, .int .i64 0, .int .i64 0, .int .i64 0, .int .i64 0, .int .i64 0, .int .i64 0, .int .i64 0] ++ [Value.slice none 0 0]).toArray from Hm1.out.same hs2); have Hr2 := hide (Hr1.out.same hs2); have Hb2 := hide (Hb1.out.same hs2); clear hs2))
    | ((with_reducible refine stMg 35 (w.heap.size + 1 + 1) 3 18 [Value.int .i64 1, Value.int .i64 id, Value.int .i64 0] [Value.int .i64 0, .int .i64 0, .int .i64 0, .int .i64 0, .int .i64 0, .int .i64 0, .int .i64 0, .int .i64 0, .int .i64 0, .int .i64 0, .int .i64 0, .int .i64 0, .int .i64 0, .int .i64 0, .int .i64 0, .int .i64 0, .int .i64 0, .int .i64 0] [Value.slice none 0 0] RO 38 rowReq Hol.out HZl.out.len HP3.out.len Hm2.out H1o.out ?_ ?_ ?_); rfl; rfl; intro w3 hc hb; have Hc3 := hide hc; have Hm3 := hide hb; have Hr3 := hide (Hr2.out.chg hc (by omega)); have HB := Hb2.out.chg hc (by omega); have d0 := HB.cell 0; have d2 := HB.cell 2; have d21 := HB.cell 21; simp only [List.getElem?_toArray, l0, l2, l21] at d0 d2 d21; clear HB; clear hc hb)
    | ((with_reducible refine ldR 38 (w.heap.size + 1 + 1) 0 22 ([Value.int .i64 1, .int .i64 id, .int .i64 0] ++ RO ++ [Value.slice none 0 0]) rowAct HF.out.len (blk_range Hm3.out) ?_ ?_ ?_); rfl; rfl)
    | ((with_reducible refine stRg 38 (w.heap.size + 1) 22 ([Value.int .i64 1, .int .i64 id, .int .i64 0] ++ RO ++ [Value.slice none 0 0]) 38 _ rowAct HF.out.len ?_ Hr3.out HF.out.one ?_ ?_ ?_); rfl; rfl; rfl; intro w9 hc9 hz9 hb9; have Hc9 := hide hc9; have Hb9 := hide hb9; clear hc9 hz9 hb9)
    | fail)
  refine bodyPost_ret (results_cell_row rfl _ _ _ _ _ _ _ rfl Hb9.out Tryz.underlying38 rfl (by rw [List.size_toArray, show ([Value.int .i64 1, .int .i64 id, .int .i64 0] ++ RO ++ [Value.slice none 0 0]).length = 22 from HF.out.len]; exact infoAct)) (by rfl) ?_
  have h1 : Chg (fun k => w.heap.size ≤ k) w w3 := Chg.trans (Same.to Hs2.out) Hc3.out (fun k _ e => (by have e' : k = w.heap.size + 1 + 1 := e; omega))
  have hF := Chg.fresh (S := fun k => w.heap.size ≤ k) (Chg.trans h1 Hc9.out (fun k _ e => (by have e' : k = w.heap.size + 1 := e; omega))) (fun _ h => h)
  exact HE.out _ hF
set_option maxRecDepth 100000 in
set_option maxHeartbeats 8000000 in
theorem ronlyA_2 (a : Ac) {A0 : Option Addr} {c : Nat} (w : World) (hg : goodA a = true) (hk : a.k = 2) :
    Calls Tryz.prog 15 #[acV a A0 c] w fun e w' => e = .returned (acV (onlyA a) (onlyAt a A0) (onlyCap a c)) ∧ Same w w'  := by
  have hb := (Blk.new w 38 (acL a A0 c).toArray).alloc (.cells #[Value.int .i64 0, .int .i64 0, .int .i64 0, .int .i64 0, .int .i64 0, .int .i64 0, .int .i64 0, .int .i64 0, .int .i64 0, .int .i64 0, .int .i64 0, .int .i64 0, .int .i64 0, .int .i64 0, .int .i64 0, .int .i64 0, .int .i64 0, .int .i64 0, .int .i64 0, .int .i64 0, .int .i64 0, .slice none 0 0] 38)
  have hr := Blk.new (w.alloc (.cells (acL a A0 c).toArray 38)) 38 #[Value.int .i64 0, .int .i64 0, .int .i64 0, .int .i64 0, .int .i64 0, .int .i64 0, .int .i64 0, .int .i64 0, .int .i64 0, .int .i64 0, .int .i64 0, .int .i64 0, .int .i64 0, .int .i64 0, .int .i64 0, .int .i64 0, .int .i64 0, .int .i64 0, .int .i64 0, .int .i64 0, .int .i64 0, .slice none 0 0]
  simp only [World.size_alloc] at hr
  have hs : Same w ((w.alloc (.cells (acL a A0 c).toArray 38)).alloc (.cells #[Value.int .i64 0, .int .i64 0, .int .i64 0, .int .i64 0, .int .i64 0, .int .i64 0, .int .i64 0, .int .i64 0, .int .i64 0, .int .i64 0, .int .i64 0, .int .i64 0, .int .i64 0, .int .i64 0, .int .i64 0, .int .i64 0, .int .i64 0, .int .i64 0, .int .i64 0, .int .i64 0, .int .i64 0, .slice none 0 0] 38)) := ((Chg.refl _ w).alloc _).alloc _
  have l0 : (acL a A0 c)[0]? = some (.int .i64 a.k) := rfl
  have l1 : (acL a A0 c)[1]? = some (.int .i64 a.id) := rfl
  have l2 : (acL a A0 c)[2]? = some (.int .i64 a.n) := rfl
  have l21 : (acL a A0 c)[21]? = some (.slice A0 a.b.length c) := rfl
  have Hra := hide (fun (w' : World) (hs' : Same ((w.alloc (.cells (acL a A0 c).toArray 38)).alloc (.cells #[Value.int .i64 0, .int .i64 0, .int .i64 0, .int .i64 0, .int .i64 0, .int .i64 0, .int .i64 0, .int .i64 0, .int .i64 0, .int .i64 0, .int .i64 0, .int .i64 0, .int .i64 0, .int .i64 0, .int .i64 0, .int .i64 0, .int .i64 0, .int .i64 0, .int .i64 0, .int .i64 0, .int .i64 0, .slice none 0 0] 38)) w') => (acW_range (hb.same hs') : w'.rangeAt w.heap.size 3 (rqL a.r)))
  have HG := hide hg
  obtain ⟨k, id, n, r, b⟩ := a
  simp only at hk
  subst hk
  have hO : onlyA ⟨2, id, n, r, b⟩ = ⟨2, id, n, rqz, []⟩ := by simp [onlyA]
  simp only at *
  obtain ⟨bl, hbl⟩ : ∃ n, b.length = n := ⟨_, rfl⟩
  have HE : Hid (∀ w', Same w w' → (Ending.returned (.agg ([Value.int .i64 2, .int .i64 id, .int .i64 n, .int .i64 0, .int .i64 0, .int .i64 0, .int .i64 0, .int .i64 0, .int .i64 0, .int .i64 0, .int .i64 0, .int .i64 0, .int .i64 0, .int .i64 0, .int .i64 0, .int .i64 0, .int .i64 0, .int .i64 0, .int .i64 0, .int .i64 0, .int .i64 0, .slice none 0 0]).toArray) = .returned (acV (onlyA ⟨2, id, n, r, b⟩) (onlyAt ⟨2, id, n, r, b⟩ A0) (onlyCap ⟨2, id, n, r, b⟩ c)) ∧ Same w w')) := hide fun w' h4 => by
    subst hbl
    rw [hO]
    exact ⟨rfl, h4⟩
  rw [hbl] at l21
  have Hb := hide hb
  have Hr := hide hr
  have Hs := hide hs
  have c0 := hb.cell 0
  have c1 := hb.cell 1
  simp only [List.getElem?_toArray, l0, l1] at c0 c1
  clear hb hr hs hO hbl HG hg
  rw [show acV ⟨2, id, n, r, b⟩ A0 c = .agg (acL ⟨2, id, n, r, b⟩ A0 c).toArray from rfl]
  obtain ⟨vE, hvE⟩ : ∃ v, acV (onlyA ⟨2, id, n, r, b⟩) (onlyAt ⟨2, id, n, r, b⟩ A0) (onlyCap ⟨2, id, n, r, b⟩ c) = v := ⟨_, rfl⟩
  rw [hvE] at HE ⊢
  clear hvE
  generalize acL ⟨2, id, n, r, b⟩ A0 c = L at *
  have HM := hide (RowL.lit rfl rfl : RowL [Value.int .i64 2, .int .i64 id, .int .i64 0, .int .i64 0, .int .i64 0, .int .i64 0, .int .i64 0, .int .i64 0, .int .i64 0, .int .i64 0, .int .i64 0, .int .i64 0, .int .i64 0, .int .i64 0, .int .i64 0, .int .i64 0, .int .i64 0, .int .i64 0, .int .i64 0, .int .i64 0, .int .i64 0, .slice none 0 0] 22)
  have Hclw3 := hide ((⟨by show 2 < 22; decide, rfl⟩ : CellL [Value.int .i64 2, .int .i64 id, .int .i64 0, .int .i64 0, .int .i64 0, .int .i64 0, .int .i64 0, .int .i64 0, .int .i64 0, .int .i64 0, .int .i64 0, .int .i64 0, .int .i64 0, .int .i64 0, .int .i64 0, .int .i64 0, .int .i64 0, .int .i64 0, .int .i64 0, .int .i64 0, .int .i64 0, .slice none 0 0] 2 (Value.int .i64 n)))
  have HF := hide (RowL.lit rfl rfl : RowL ([Value.int .i64 2, .int .i64 id, .int .i64 n, .int .i64 0, .int .i64 0, .int .i64 0, .int .i64 0, .int .i64 0, .int .i64 0, .int .i64 0, .int .i64 0, .int .i64 0, .int .i64 0, .int .i64 0, .int .i64 0, .int .i64 0, .int .i64 0, .int .i64 0, .int .i64 0, .int .i64 0, .int .i64 0, .slice none 0 0]) 22)
  go_enter Tryz.func15, Tryz.ntmps15
  go_wp2_with (first
    | ((with_reducible refine stNg 38 22 [Value.int .i64 2, .int .i64 id, .int .i64 0, .int .i64 0, .int .i64 0, .int .i64 0, .int .i64 0, .int .i64 0, .int .i64 0, .int .i64 0, .int .i64 0, .int .i64 0, .int .i64 0, .int .i64 0, .int .i64 0, .int .i64 0, .int .i64 0, .int .i64 0, .int .i64 0, .int .i64 0, .int .i64 0, .slice none 0 0] 38 _ rowAct HM.out.len ?_ HM.out.one ?_ ?_ ?_); rfl; (simp only [World.size_alloc]; rfl); rfl; intro w1 hs1 hz1 hb1; simp only [World.size_alloc] at hb1; have Hs1 := hide (Same.trans Hs.out hs1); have Hm1 := hide hb1; have Hb1 := hide (Hb.out.same hs1); have Hr1 := hide (Hr.out.same hs1); have c0 := Hb1.out.cell 0; have c1 := Hb1.out.cell 1; have c2 := Hb1.out.cell 2; have c21 := Hb1.out.cell 21; simp only [List.getElem?_toArray, l0, l1, l2, l21] at c0 c1 c2 c21; have Hra1 := hide (Hra.out _ hs1); clear hs1 hz1 hb1)
    | ((with_reducible refine stCg 3 (w.heap.size + 1 + 1) 2 (Value.int .i64 n) 38 [Value.int .i64 2, .int .i64 id, .int .i64 0, .int .i64 0, .int .i64 0, .int .i64 0, .int .i64 0, .int .i64 0, .int .i64 0, .int .i64 0, .int .i64 0, .int .i64 0, .int .i64 0, .int .i64 0, .int .i64 0, .int .i64 0, .int .i64 0, .int .i64 0, .int .i64 0, .int .i64 0, .int .i64 0, .slice none 0 0] intSz Hclw3.out.one Hm1.out Hclw3.out.lt ?_ ?_ ?_); rfl; rfl; intro w3 hc hb; have Hc3 := hide hc; have Hm3 := hide (show Blk w3 (w.heap.size + 1 + 1) 38 ([Value.int .i64 2, .int .i64 id, .int .i64 n, .int .i64 0, .int .i64 0, .int .i64 0, .int .i64 0, .int .i64 0, .int .i64 0, .int .i64 0, .int .i64 0, .int .i64 0, .int .i64 0, .int .i64 0, .int .i64 0, .int .i64 0, .int .i64 0, .int .i64 0, .int .i64 0, .int .i64 0, .int .i64 0, .slice none 0 0]).toArray from hb); have Hr3 := hide (Hr1.out.chg hc (by omega)); have HB := Hb1.out.chg (hc) (by omega); have d0 := HB.cell 0; have d2 := HB.cell 2; have d21 := HB.cell 21; simp only [List.getElem?_toArray, l0, l2, l21] at d0 d2 d21; clear HB; clear hc hb)
    | ((with_reducible refine ldR 38 (w.heap.size + 1 + 1) 0 22 ([Value.int .i64 2, .int .i64 id, .int .i64 n, .int .i64 0, .int .i64 0, .int .i64 0, .int .i64 0, .int .i64 0, .int .i64 0, .int .i64 0, .int .i64 0, .int .i64 0, .int .i64 0, .int .i64 0, .int .i64 0, .int .i64 0, .int .i64 0, .int .i64 0, .int .i64 0, .int .i64 0, .int .i64 0, .slice none 0 0]) rowAct HF.out.len (blk_range Hm3.out) ?_ ?_ ?_); rfl; rfl)
    | ((with_reducible refine stRg 38 (w.heap.size + 1) 22 ([Value.int .i64 2, .int .i64 id, .int .i64 n, .int .i64 0, .int .i64 0, .int .i64 0, .int .i64 0, .int .i64 0, .int .i64 0, .int .i64 0, .int .i64 0, .int .i64 0, .int .i64 0, .int .i64 0, .int .i64 0, .int .i64 0, .int .i64 0, .int .i64 0, .int .i64 0, .int .i64 0, .int .i64 0, .slice none 0 0]) 38 _ rowAct HF.out.len ?_ Hr3.out HF.out.one ?_ ?_ ?_); rfl; rfl; rfl; intro w9 hc9 hz9 hb9; have Hc9 := hide hc9; have Hb9 := hide hb9; clear hc9 hz9 hb9)
    | fail)
  refine bodyPost_ret (results_cell_row rfl _ _ _ _ _ _ _ rfl Hb9.out Tryz.underlying38 rfl (by rw [List.size_toArray, show ([Value.int .i64 2, .int .i64 id, .int .i64 n, .int .i64 0, .int .i64 0, .int .i64 0, .int .i64 0, .int .i64 0, .int .i64 0, .int .i64 0, .int .i64 0, .int .i64 0, .int .i64 0, .int .i64 0, .int .i64 0, .int .i64 0, .int .i64 0, .int .i64 0, .int .i64 0, .int .i64 0, .int .i64 0, .slice none 0 0]).length = 22 from HF.out.len]; exact infoAct)) (by rfl) ?_
  have h1 : Chg (fun k => w.heap.size ≤ k) w w3 := Chg.trans (Same.to Hs1.out) Hc3.out (fun k _ e => (by have e' : k = w.heap.size + 1 + 1 := e; omega))
  have hF := Chg.fresh (S := fun k => w.heap.size ≤ k) (Chg.trans h1 Hc9.out (fun k _ e => (by have e' : k = w.heap.size + 1 := e; omega))) (fun _ h => h)
  exact HE.out _ hF
set_option maxRecDepth 100000 in
set_option maxHeartbeats 8000000 in
theorem ronlyA_3 (a : Ac) {A0 : Option Addr} {c : Nat} (w : World) (hg : goodA a = true) (hk : a.k = 3) :
    Calls Tryz.prog 15 #[acV a A0 c] w fun e w' => e = .returned (acV (onlyA a) (onlyAt a A0) (onlyCap a c)) ∧ Same w w'  := by
  have hb := (Blk.new w 38 (acL a A0 c).toArray).alloc (.cells #[Value.int .i64 0, .int .i64 0, .int .i64 0, .int .i64 0, .int .i64 0, .int .i64 0, .int .i64 0, .int .i64 0, .int .i64 0, .int .i64 0, .int .i64 0, .int .i64 0, .int .i64 0, .int .i64 0, .int .i64 0, .int .i64 0, .int .i64 0, .int .i64 0, .int .i64 0, .int .i64 0, .int .i64 0, .slice none 0 0] 38)
  have hr := Blk.new (w.alloc (.cells (acL a A0 c).toArray 38)) 38 #[Value.int .i64 0, .int .i64 0, .int .i64 0, .int .i64 0, .int .i64 0, .int .i64 0, .int .i64 0, .int .i64 0, .int .i64 0, .int .i64 0, .int .i64 0, .int .i64 0, .int .i64 0, .int .i64 0, .int .i64 0, .int .i64 0, .int .i64 0, .int .i64 0, .int .i64 0, .int .i64 0, .int .i64 0, .slice none 0 0]
  simp only [World.size_alloc] at hr
  have hs : Same w ((w.alloc (.cells (acL a A0 c).toArray 38)).alloc (.cells #[Value.int .i64 0, .int .i64 0, .int .i64 0, .int .i64 0, .int .i64 0, .int .i64 0, .int .i64 0, .int .i64 0, .int .i64 0, .int .i64 0, .int .i64 0, .int .i64 0, .int .i64 0, .int .i64 0, .int .i64 0, .int .i64 0, .int .i64 0, .int .i64 0, .int .i64 0, .int .i64 0, .int .i64 0, .slice none 0 0] 38)) := ((Chg.refl _ w).alloc _).alloc _
  have l0 : (acL a A0 c)[0]? = some (.int .i64 a.k) := rfl
  have l1 : (acL a A0 c)[1]? = some (.int .i64 a.id) := rfl
  have l2 : (acL a A0 c)[2]? = some (.int .i64 a.n) := rfl
  have l21 : (acL a A0 c)[21]? = some (.slice A0 a.b.length c) := rfl
  have Hra := hide (fun (w' : World) (hs' : Same ((w.alloc (.cells (acL a A0 c).toArray 38)).alloc (.cells #[Value.int .i64 0, .int .i64 0, .int .i64 0, .int .i64 0, .int .i64 0, .int .i64 0, .int .i64 0, .int .i64 0, .int .i64 0, .int .i64 0, .int .i64 0, .int .i64 0, .int .i64 0, .int .i64 0, .int .i64 0, .int .i64 0, .int .i64 0, .int .i64 0, .int .i64 0, .int .i64 0, .int .i64 0, .slice none 0 0] 38)) w') => (acW_range (hb.same hs') : w'.rangeAt w.heap.size 3 (rqL a.r)))
  have HG := hide hg
  obtain ⟨k, id, n, r, b⟩ := a
  simp only at hk
  subst hk
  have hO : onlyA ⟨3, id, n, r, b⟩ = ⟨3, id, 0, rqz, []⟩ := by simp [onlyA]
  simp only at *
  obtain ⟨bl, hbl⟩ : ∃ n, b.length = n := ⟨_, rfl⟩
  have HE : Hid (∀ w', Same w w' → (Ending.returned (.agg ([Value.int .i64 3, .int .i64 id, .int .i64 0, .int .i64 0, .int .i64 0, .int .i64 0, .int .i64 0, .int .i64 0, .int .i64 0, .int .i64 0, .int .i64 0, .int .i64 0, .int .i64 0, .int .i64 0, .int .i64 0, .int .i64 0, .int .i64 0, .int .i64 0, .int .i64 0, .int .i64 0, .int .i64 0, .slice none 0 0]).toArray) = .returned (acV (onlyA ⟨3, id, n, r, b⟩) (onlyAt ⟨3, id, n, r, b⟩ A0) (onlyCap ⟨3, id, n, r, b⟩ c)) ∧ Same w w')) := hide fun w' h4 => by
    subst hbl
    rw [hO]
    exact ⟨rfl, h4⟩
  rw [hbl] at l21
  have Hb := hide hb
  have Hr := hide hr
  have Hs := hide hs
  have c0 := hb.cell 0
  have c1 := hb.cell 1
  simp only [List.getElem?_toArray, l0, l1] at c0 c1
  clear hb hr hs hO hbl HG hg
  rw [show acV ⟨3, id, n, r, b⟩ A0 c = .agg (acL ⟨3, id, n, r, b⟩ A0 c).toArray from rfl]
  obtain ⟨vE, hvE⟩ : ∃ v, acV (onlyA ⟨3, id, n, r, b⟩) (onlyAt ⟨3, id, n, r, b⟩ A0) (onlyCap ⟨3, id, n, r, b⟩ c) = v := ⟨_, rfl⟩
  rw [hvE] at HE ⊢
  clear hvE
  generalize acL ⟨3, id, n, r, b⟩ A0 c = L at *
  have HM := hide (RowL.lit rfl rfl : RowL [Value.int .i64 3, .int .i64 id, .int .i64 0, .int .i64 0, .int .i64 0, .int .i64 0, .int .i64 0, .int .i64 0, .int .i64 0, .int .i64 0, .int .i64 0, .int .i64 0, .int .i64 0, .int .i64 0, .int .i64 0, .int .i64 0, .int .i64 0, .int .i64 0, .int .i64 0, .int .i64 0, .int .i64 0, .slice none 0 0] 22)
  have HF := hide (RowL.lit rfl rfl : RowL ([Value.int .i64 3, .int .i64 id, .int .i64 0, .int .i64 0, .int .i64 0, .int .i64 0, .int .i64 0, .int .i64 0, .int .i64 0, .int .i64 0, .int .i64 0, .int .i64 0, .int .i64 0, .int .i64 0, .int .i64 0, .int .i64 0, .int .i64 0, .int .i64 0, .int .i64 0, .int .i64 0, .int .i64 0, .slice none 0 0]) 22)
  go_enter Tryz.func15, Tryz.ntmps15
  go_wp2_with (first
    | ((with_reducible refine stNg 38 22 [Value.int .i64 3, .int .i64 id, .int .i64 0, .int .i64 0, .int .i64 0, .int .i64 0, .int .i64 0, .int .i64 0, .int .i64 0, .int .i64 0, .int .i64 0, .int .i64 0, .int .i64 0, .int .i64 0, .int .i64 0, .int .i64 0, .int .i64 0, .int .i64 0, .int .i64 0, .int .i64 0, .int .i64 0, .slice none 0 0] 38 _ rowAct HM.out.len ?_ HM.out.one ?_ ?_ ?_); rfl; (simp only [World.size_alloc]; rfl); rfl; intro w1 hs1 hz1 hb1; simp only [World.size_alloc] at hb1; have Hs1 := hide (Same.trans Hs.out hs1); have Hm1 := hide hb1; have Hb1 := hide (Hb.out.same hs1); have Hr1 := hide (Hr.out.same hs1); have c0 := Hb1.out.cell 0; have c1 := Hb1.out.cell 1; have c2 := Hb1.out.cell 2; have c21 := Hb1.out.cell 21; simp only [List.getElem?_toArray, l0, l1, l2, l21] at c0 c1 c2 c21; have Hra1 := hide (Hra.out _ hs1); clear hs1 hz1 hb1)
    | ((with_reducible refine ldR 38 (w.heap.size + 1 + 1) 0 22 ([Value.int .i64 3, .int .i64 id, .int .i64 0, .int .i64 0, .int .i64 0, .int .i64 0, .int .i64 0, .int .i64 0, .int .i64 0, .int .i64 0, .int .i64 0, .int .i64 0, .int .i64 0, .int .i64 0, .int .i64 0, .int .i64 0, .int .i64 0, .int .i64 0, .int .i64 0, .int .i64 0, .int .i64 0, .slice none 0 0]) rowAct HF.out.len (blk_range Hm1.out) ?_ ?_ ?_); rfl; rfl)
    | ((with_reducible refine stRg 38 (w.heap.size + 1) 22 ([Value.int .i64 3, .int .i64 id, .int .i64 0, .int .i64 0, .int .i64 0, .int .i64 0, .int .i64 0, .int .i64 0, .int .i64 0, .int .i64 0, .int .i64 0, .int .i64 0, .int .i64 0, .int .i64 0, .int .i64 0, .int .i64 0, .int .i64 0, .int .i64 0, .int .i64 0, .int .i64 0, .int .i64 0, .slice none 0 0]) 38 _ rowAct HF.out.len ?_ Hr1.out HF.out.one ?_ ?_ ?_); rfl; rfl; rfl; intro w9 hc9 hz9 hb9; have Hc9 := hide hc9; have Hb9 := hide hb9; clear hc9 hz9 hb9)
    | fail)
  refine bodyPost_ret (results_cell_row rfl _ _ _ _ _ _ _ rfl Hb9.out Tryz.underlying38 rfl (by rw [List.size_toArray, show ([Value.int .i64 3, .int .i64 id, .int .i64 0, .int .i64 0, .int .i64 0, .int .i64 0, .int .i64 0, .int .i64 0, .int .i64 0, .int .i64 0, .int .i64 0, .int .i64 0, .int .i64 0, .int .i64 0, .int .i64 0, .int .i64 0, .int .i64 0, .int .i64 0, .int .i64 0, .int .i64 0, .int .i64 0, .slice none 0 0]).length = 22 from HF.out.len]; exact infoAct)) (by rfl) ?_
  have h1 : Chg (fun k => w.heap.size ≤ k) w w1 := Same.to Hs1.out
  have hF := Chg.fresh (S := fun k => w.heap.size ≤ k) (Chg.trans h1 Hc9.out (fun k _ e => (by have e' : k = w.heap.size + 1 := e; omega))) (fun _ h => h)
  exact HE.out _ hF
set_option maxRecDepth 100000 in
set_option maxHeartbeats 8000000 in
theorem ronlyA_4 (a : Ac) {A0 : Option Addr} {c : Nat} (w : World) (hg : goodA a = true) (hk : a.k = 4) :
    Calls Tryz.prog 15 #[acV a A0 c] w fun e w' => e = .returned (acV (onlyA a) (onlyAt a A0) (onlyCap a c)) ∧ Same w w'  := by
  have hb := (Blk.new w 38 (acL a A0 c).toArray).alloc (.cells #[Value.int .i64 0, .int .i64 0, .int .i64 0, .int .i64 0, .int .i64 0, .int .i64 0, .int .i64 0, .int .i64 0, .int .i64 0, .int .i64 0, .int .i64 0, .int .i64 0, .int .i64 0, .int .i64 0, .int .i64 0, .int .i64 0, .int .i64 0, .int .i64 0, .int .i64 0, .int .i64 0, .int .i64 0, .slice none 0 0] 38)
  have hr := Blk.new (w.alloc (.cells (acL a A0 c).toArray 38)) 38 #[Value.int .i64 0, .int .i64 0, .int .i64 0, .int .i64 0, .int .i64 0, .int .i64 0, .int .i64 0, .int .i64 0, .int .i64 0, .int .i64 0, .int .i64 0, .int .i64 0, .int .i64 0, .int .i64 0, .int .i64 0, .int .i64 0, .int .i64 0, .int .i64 0, .int .i64 0, .int .i64 0, .int .i64 0, .slice none 0 0]
  simp only [World.size_alloc] at hr
  have hs : Same w ((w.alloc (.cells (acL a A0 c).toArray 38)).alloc (.cells #[Value.int .i64 0, .int .i64 0, .int .i64 0, .int .i64 0, .int .i64 0, .int .i64 0, .int .i64 0, .int .i64 0, .int .i64 0, .int .i64 0, .int .i64 0, .int .i64 0, .int .i64 0, .int .i64 0, .int .i64 0, .int .i64 0, .int .i64 0, .int .i64 0, .int .i64 0, .int .i64 0, .int .i64 0, .slice none 0 0] 38)) := ((Chg.refl _ w).alloc _).alloc _
  have l0 : (acL a A0 c)[0]? = some (.int .i64 a.k) := rfl
  have l1 : (acL a A0 c)[1]? = some (.int .i64 a.id) := rfl
  have l2 : (acL a A0 c)[2]? = some (.int .i64 a.n) := rfl
  have l21 : (acL a A0 c)[21]? = some (.slice A0 a.b.length c) := rfl
  have Hra := hide (fun (w' : World) (hs' : Same ((w.alloc (.cells (acL a A0 c).toArray 38)).alloc (.cells #[Value.int .i64 0, .int .i64 0, .int .i64 0, .int .i64 0, .int .i64 0, .int .i64 0, .int .i64 0, .int .i64 0, .int .i64 0, .int .i64 0, .int .i64 0, .int .i64 0, .int .i64 0, .int .i64 0, .int .i64 0, .int .i64 0, .int .i64 0, .int .i64 0, .int .i64 0, .int .i64 0, .int .i64 0, .slice none 0 0] 38)) w') => (acW_range (hb.same hs') : w'.rangeAt w.heap.size 3 (rqL a.r)))
  have HG := hide hg
  obtain ⟨k, id, n, r, b⟩ := a
  simp only at hk
  subst hk
  have hO : onlyA ⟨4, id, n, r, b⟩ = ⟨4, 0, n, rqz, []⟩ := by simp [onlyA]
  simp only at *
  obtain ⟨bl, hbl⟩ : ∃ n, b.length = n := ⟨_, rfl⟩
  have HE : Hid (∀ w', Same w w' → (Ending.returned (.agg ([Value.int .i64 4, .int .i64 0, .int .i64 n, .int .i64 0, .int .i64 0, .int .i64 0, .int .i64 0, .int .i64 0, .int .i64 0, .int .i64 0, .int .i64 0, .int .i64 0, .int .i64 0, .int .i64 0, .int .i64 0, .int .i64 0, .int .i64 0, .int .i64 0, .int .i64 0, .int .i64 0, .int .i64 0, .slice none 0 0]).toArray) = .returned (acV (onlyA ⟨4, id, n, r, b⟩) (onlyAt ⟨4, id, n, r, b⟩ A0) (onlyCap ⟨4, id, n, r, b⟩ c)) ∧ Same w w')) := hide fun w' h4 => by
    subst hbl
    rw [hO]
    exact ⟨rfl, h4⟩
  rw [hbl] at l21
  have Hb := hide hb
  have Hr := hide hr
  have Hs := hide hs
  have c0 := hb.cell 0
  have c1 := hb.cell 1
  simp only [List.getElem?_toArray, l0, l1] at c0 c1
  clear hb hr hs hO hbl HG hg
  rw [show acV ⟨4, id, n, r, b⟩ A0 c = .agg (acL ⟨4, id, n, r, b⟩ A0 c).toArray from rfl]
  obtain ⟨vE, hvE⟩ : ∃ v, acV (onlyA ⟨4, id, n, r, b⟩) (onlyAt ⟨4, id, n, r, b⟩ A0) (onlyCap ⟨4, id, n, r, b⟩ c) = v := ⟨_, rfl⟩
  rw [hvE] at HE ⊢
  clear hvE
  generalize acL ⟨4, id, n, r, b⟩ A0 c = L at *
  have HM := hide (RowL.lit rfl rfl : RowL [Value.int .i64 4, .int .i64 id, .int .i64 0, .int .i64 0, .int .i64 0, .int .i64 0, .int .i64 0, .int .i64 0, .int .i64 0, .int .i64 0, .int .i64 0, .int .i64 0, .int .i64 0, .int .i64 0, .int .i64 0, .int .i64 0, .int .i64 0, .int .i64 0, .int .i64 0, .int .i64 0, .int .i64 0, .slice none 0 0] 22)
  have Hclw2 := hide ((⟨by show 1 < 22; decide, rfl⟩ : CellL [Value.int .i64 4, .int .i64 id, .int .i64 0, .int .i64 0, .int .i64 0, .int .i64 0, .int .i64 0, .int .i64 0, .int .i64 0, .int .i64 0, .int .i64 0, .int .i64 0, .int .i64 0, .int .i64 0, .int .i64 0, .int .i64 0, .int .i64 0, .int .i64 0, .int .i64 0, .int .i64 0, .int .i64 0, .slice none 0 0] 1 (Value.int .i64 0)))
  have Hclw3 := hide ((⟨by show 2 < 22; decide, rfl⟩ : CellL [Value.int .i64 4, .int .i64 0, .int .i64 0, .int .i64 0, .int .i64 0, .int .i64 0, .int .i64 0, .int .i64 0, .int .i64 0, .int .i64 0, .int .i64 0, .int .i64 0, .int .i64 0, .int .i64 0, .int .i64 0, .int .i64 0, .int .i64 0, .int .i64 0, .int .i64 0, .int .i64 0, .int .i64 0, .slice none 0 0] 2 (Value.int .i64 n)))
  have HF := hide (RowL.lit rfl rfl : RowL ([Value.int .i64 4, .int .i64 0, .int .i64 n, .int .i64 0, .int .i64 0, .int .i64 0, .int .i64 0, .int .i64 0, .int .i64 0, .int .i64 0, .int .i64 0, .int .i64 0, .int .i64 0, .int .i64 0, .int .i64 0, .int .i64 0, .int .i64 0, .int .i64 0, .int .i64 0, .int .i64 0, .int .i64 0, .slice none 0 0]) 22)
  go_enter Tryz.func15, Tryz.ntmps15
  go_wp2_with (first
    | ((with_reducible refine stNg 38 22 [Value.int .i64 4, .int .i64 id, .int .i64 0, .int .i64 0, .int .i64 0, .int .i64 0, .int .i64 0, .int .i64 0, .int .i64 0, .int .i64 0, .int .i64 0, .int .i64 0, .int .i64 0, .int .i64 0, .int .i64 0, .int .i64 0, .int .i64 0, .int .i64 0, .int .i64 0, .int .i64 0, .int .i64 0, .slice none 0 0] 38 _ rowAct HM.out.len ?_ HM.out.one ?_ ?_ ?_); rfl; (simp only [World.size_alloc]; rfl); rfl; intro w1 hs1 hz1 hb1; simp only [World.size_alloc] at hb1; have Hs1 := hide (Same.trans Hs.out hs1); have Hm1 := hide hb1; have Hb1 := hide (Hb.out.same hs1); have Hr1 := hide (Hr.out.same hs1); have c0 := Hb1.out.cell 0; have c1 := Hb1.out.cell 1; have c2 := Hb1.out.cell 2; have c21 := Hb1.out.cell 21; simp only [List.getElem?_toArray, l0, l1, l2, l21] at c0 c1 c2 c21; have Hra1 := hide (Hra.out _ hs1); clear hs1 hz1 hb1)
    | ((with_reducible refine stCg 3 (w.heap.size + 1 + 1) 1 (Value.int .i64 0) 38 [Value.int .i64 4, .int .i64 id, .int .i64 0, .int .i64 0, .int .i64 0, .int .i64 0, .int .i64 0, .int .i64 0, .int .i64 0, .int .i64 0, .int .i64 0, .int .i64 0, .int .i64 0, .int .i64 0, .int .i64 0, .int .i64 0, .int .i64 0, .int .i64 0, .int .i64 0, .int .i64 0, .int .i64 0, .slice none 0 0] intSz Hclw2.out.one Hm1.out Hclw2.out.lt ?_ ?_ ?_); rfl; rfl; intro w2 hc hb; have Hc2 := hide hc; have Hm2 := hide (show Blk w2 (w.heap.size + 1 + 1) 38 ([Value.int .i64 4, .int .i64 0, .int .i64 0, .int .i64 0, .int .i64 0, .int .i64 0, .int .i64 0, .int .i64 0, .int .i64 0, .int .i64 0, .int .i64 0, .int .i64 0, .int .i64 0, .int .i64 0, .int .i64 0, .int .i64 0, .int .i64 0, .int .i64 0, .int .i64 0, .int .i64 0, .int .i64 0, .slice none 0 0]).toArray from hb); have Hr2 := hide (Hr1.out.chg hc (by omega)); have HB := Hb1.out.chg (hc) (by omega); have d0 := HB.cell 0; have d2 := HB.cell 2; have d21 := HB.cell 21; simp only [List.getElem?_toArray, l0, l2, l21] at d0 d2 d21; clear HB; clear hc hb)
    | ((with_reducible refine stCg 3 (w.heap.size + 1 + 1) 2 (Value.int .i64 n) 38 [Value.int .i64 4, .int .i64 0, .int .i64 0, .int .i64 0, .int .i64 0, .int .i64 0, .int .i64 0, .int .i64 0, .int .i64 0, .int .i64 0, .int .i64 0, .int .i64 0, .int .i64 0, .int .i64 0, .int .i64 0, .int .i64 0, .int .i64 0, .int .i64 0, .int .i64 0, .int .i64 0, .int .i64 0, .slice none 0 0] intSz Hclw3.out.one Hm2.out Hclw3.out.lt ?_ ?_ ?_); rfl; rfl; intro w3 hc hb; have Hc3 := hide hc; have Hm3 := hide (show Blk w3 (w.heap.size + 1 + 1) 38 ([Value.int .i64 4, .int .i64 0, .int .i64 n, .int .i64 0, .int .i64 0, .int .i64 0, .int .i64 0, .int .i64 0, .int .i64 0, .int .i64 0, .int .i64 0, .int .i64 0, .int .i64 0, .int .i64 0, .int .i64 0, .int .i64 0, .int .i64 0, .int .i64 0, .int .i64 0, .int .i64 0, .int .i64 0, .slice none 0 0]).toArray from hb); have Hr3 := hide (Hr2.out.chg hc (by omega)); have HB := Hb1.out.chg (Chg.trans Hc2.out hc (fun _ _ e => e)) (by omega); have d0 := HB.cell 0; have d2 := HB.cell 2; have d21 := HB.cell 21; simp only [List.getElem?_toArray, l0, l2, l21] at d0 d2 d21; clear HB; clear hc hb)
    | ((with_reducible refine ldR 38 (w.heap.size + 1 + 1) 0 22 ([Value.int .i64 4, .int .i64 0, .int .i64 n, .int .i64 0, .int .i64 0, .int .i64 0, .int .i64 0, .int .i64 0, .int .i64 0, .int .i64 0, .int .i64 0, .int .i64 0, .int .i64 0, .int .i64 0, .int .i64 0, .int .i64 0, .int .i64 0, .int .i64 0, .int .i64 0, .int .i64 0, .int .i64 0, .slice none 0 0]) rowAct HF.out.len (blk_range Hm3.out) ?_ ?_ ?_); rfl; rfl)
    | ((with_reducible refine stRg 38 (w.heap.size + 1) 22 ([Value.int .i64 4, .int .i64 0, .int .i64 n, .int .i64 0, .int .i64 0, .int .i64 0, .int .i64 0, .int .i64 0, .int .i64 0, .int .i64 0, .int .i64 0, .int .i64 0, .int .i64 0, .int .i64 0, .int .i64 0, .int .i64 0, .int .i64 0, .int .i64 0, .int .i64 0, .int .i64 0, .int .i64 0, .slice none 0 0]) 38 _ rowAct HF.out.len ?_ Hr3.out HF.out.one ?_ ?_ ?_); rfl; rfl; rfl; intro w9 hc9 hz9 hb9; have Hc9 := hide hc9; have Hb9 := hide hb9; clear hc9 hz9 hb9)
    | fail)
  refine bodyPost_ret (results_cell_row rfl _ _ _ _ _ _ _ rfl Hb9.out Tryz.underlying38 rfl (by rw [List.size_toArray, show ([Value.int .i64 4, .int .i64 0, .int .i64 n, .int .i64 0, .int .i64 0, .int .i64 0, .int .i64 0, .int .i64 0, .int .i64 0, .int .i64 0, .int .i64 0, .int .i64 0, .int .i64 0, .int .i64 0, .int .i64 0, .int .i64 0, .int .i64 0, .int .i64 0, .int .i64 0, .int .i64 0, .int .i64 0, .slice none 0 0]).length = 22 from HF.out.len]; exact infoAct)) (by rfl) ?_
  have h0 : Chg (fun k => w.heap.size ≤ k) w w2 := Chg.trans (Same.to Hs1.out) Hc2.out (fun k _ e => (by have e' : k = w.heap.size + 1 + 1 := e; omega))
  have h1 : Chg (fun k => w.heap.size ≤ k) w w3 := Chg.trans h0 Hc3.out (fun k _ e => (by have e' : k = w.heap.size + 1 + 1 := e; omega))
  have hF := Chg.fresh (S := fun k => w.heap.size ≤ k) (Chg.trans h1 Hc9.out (fun k _ e => (by have e' : k = w.heap.size + 1 := e; omega))) (fun _ h => h)
  exact HE.out _ hF
set_option maxRecDepth 100000 in
set_option maxHeartbeats 8000000 in
theorem ronlyA_5 (a : Ac) {A0 : Option Addr} {c : Nat} (w : World) (hg : goodA a = true) (hk : a.k = 5) :
    Calls Tryz.prog 15 #[acV a A0 c] w fun e w' => e = .returned (acV (onlyA a) (onlyAt a A0) (onlyCap a c)) ∧ Same w w'  := by
  have hb := (Blk.new w 38 (acL a A0 c).toArray).alloc (.cells #[Value.int .i64 0, .int .i64 0, .int .i64 0, .int .i64 0, .int .i64 0, .int .i64 0, .int .i64 0, .int .i64 0, .int .i64 0, .int .i64 0, .int .i64 0, .int .i64 0, .int .i64 0, .int .i64 0, .int .i64 0, .int .i64 0, .int .i64 0, .int .i64 0, .int .i64 0, .int .i64 0, .int .i64 0, .slice none 0 0] 38)
  have hr := Blk.new (w.alloc (.cells (acL a A0 c).toArray 38)) 38 #[Value.int .i64 0, .int .i64 0, .int .i64 0, .int .i64 0, .int .i64 0, .int .i64 0, .int .i64 0, .int .i64 0, .int .i64 0, .int .i64 0, .int .i64 0, .int .i64 0, .int .i64 0, .int .i64 0, .int .i64 0, .int .i64 0, .int .i64 0, .int .i64 0, .int .i64 0, .int .i64 0, .int .i64 0, .slice none 0 0]
  simp only [World.size_alloc] at hr
  have hs : Same w ((w.alloc (.cells (acL a A0 c).toArray 38)).alloc (.cells #[Value.int .i64 0, .int .i64 0, .int .i64 0, .int .i64 0, .int .i64 0, .int .i64 0, .int .i64 0, .int .i64 0, .int .i64 0, .int .i64 0, .int .i64 0, .int .i64 0, .int .i64 0, .int .i64 0, .int .i64 0, .int .i64 0, .int .i64 0, .int .i64 0, .int .i64 0, .int .i64 0, .int .i64 0, .slice none 0 0] 38)) := ((Chg.refl _ w).alloc _).alloc _
  have l0 : (acL a A0 c)[0]? = some (.int .i64 a.k) := rfl
  have l1 : (acL a A0 c)[1]? = some (.int .i64 a.id) := rfl
  have l2 : (acL a A0 c)[2]? = some (.int .i64 a.n) := rfl
  have l21 : (acL a A0 c)[21]? = some (.slice A0 a.b.length c) := rfl
  have Hra := hide (fun (w' : World) (hs' : Same ((w.alloc (.cells (acL a A0 c).toArray 38)).alloc (.cells #[Value.int .i64 0, .int .i64 0, .int .i64 0, .int .i64 0, .int .i64 0, .int .i64 0, .int .i64 0, .int .i64 0, .int .i64 0, .int .i64 0, .int .i64 0, .int .i64 0, .int .i64 0, .int .i64 0, .int .i64 0, .int .i64 0, .int .i64 0, .int .i64 0, .int .i64 0, .int .i64 0, .int .i64 0, .slice none 0 0] 38)) w') => (acW_range (hb.same hs') : w'.rangeAt w.heap.size 3 (rqL a.r)))
  have HG := hide hg
  obtain ⟨k, id, n, r, b⟩ := a
  simp only at hk
  subst hk
  have hO : onlyA ⟨5, id, n, r, b⟩ = ⟨5, id, 0, rqz, b⟩ := by simp [onlyA]
  simp only at *
  obtain ⟨bl, hbl⟩ : ∃ n, b.length = n := ⟨_, rfl⟩
  have HE : Hid (∀ w', Same w w' → (Ending.returned (.agg ([Value.int .i64 5, .int .i64 id, .int .i64 0, .int .i64 0, .int .i64 0, .int .i64 0, .int .i64 0, .int .i64 0, .int .i64 0, .int .i64 0, .int .i64 0, .int .i64 0, .int .i64 0, .int .i64 0, .int .i64 0, .int .i64 0, .int .i64 0, .int .i64 0, .int .i64 0, .int .i64 0, .int .i64 0, .slice A0 bl c]).toArray) = .returned (acV (onlyA ⟨5, id, n, r, b⟩) (onlyAt ⟨5, id, n, r, b⟩ A0) (onlyCap ⟨5, id, n, r, b⟩ c)) ∧ Same w w')) := hide fun w' h4 => by
    subst hbl
    rw [hO]
    exact ⟨rfl, h4⟩
  rw [hbl] at l21
  have Hb := hide hb
  have Hr := hide hr
  have Hs := hide hs
  have c0 := hb.cell 0
  have c1 := hb.cell 1
  simp only [List.getElem?_toArray, l0, l1] at c0 c1
  clear hb hr hs hO hbl HG hg
  rw [show acV ⟨5, id, n, r, b⟩ A0 c = .agg (acL ⟨5, id, n, r, b⟩ A0 c).toArray from rfl]
  obtain ⟨vE, hvE⟩ : ∃ v, acV (onlyA ⟨5, id, n, r, b⟩) (onlyAt ⟨5, id, n, r, b⟩ A0) (onlyCap ⟨5, id, n, r, b⟩ c) = v := ⟨_, rfl⟩
  rw [hvE] at HE ⊢
  clear hvE
  generalize acL ⟨5, id, n, r, b⟩ A0 c = L at *
  have HM := hide (RowL.lit rfl rfl : RowL [Value.int .i64 5, .int .i64 id, .int .i64 0, .int .i64 0, .int .i64 0, .int .i64 0, .int .i64 0, .int .i64 0, .int .i64 0, .int .i64 0, .int .i64 0, .int .i64 0, .int .i64 0, .int .i64 0, .int .i64 0, .int .i64 0, .int .i64 0, .int .i64 0, .int .i64 0, .int .i64 0, .int .i64 0, .slice none 0 0] 22)
  have Hclw3 := hide ((⟨by show 21 < 22; decide, rfl⟩ : CellL [Value.int .i64 5, .int .i64 id, .int .i64 0, .int .i64 0, .int .i64 0, .int .i64 0, .int .i64 0, .int .i64 0, .int .i64 0, .int .i64 0, .int .i64 0, .int .i64 0, .int .i64 0, .int .i64 0, .int .i64 0, .int .i64 0, .int .i64 0, .int .i64 0, .int .i64 0, .int .i64 0, .int .i64 0, .slice none 0 0] 21 (Value.slice A0 bl c)))
  have HF := hide (RowL.lit rfl rfl : RowL ([Value.int .i64 5, .int .i64 id, .int .i64 0, .int .i64 0, .int .i64 0, .int .i64 0, .int .i64 0, .int .i64 0, .int .i64 0, .int .i64 0, .int .i64 0, .int .i64 0, .int .i64 0, .int .i64 0, .int .i64 0, .int .i64 0, .int .i64 0, .int .i64 0, .int .i64 0, .int .i64 0, .int .i64 0, .slice A0 bl c]) 22)
  go_enter Tryz.func15, Tryz.ntmps15
  go_wp2_with (first
    | ((with_reducible refine stNg 38 22 [Value.int .i64 5, .int .i64 id, .int .i64 0, .int .i64 0, .int .i64 0, .int .i64 0, .int .i64 0, .int .i64 0, .int .i64 0, .int .i64 0, .int .i64 0, .int .i64 0, .int .i64 0, .int .i64 0, .int .i64 0, .int .i64 0, .int .i64 0, .int .i64 0, .int .i64 0, .int .i64 0, .int .i64 0, .slice none 0 0] 38 _ rowAct HM.out.len ?_ HM.out.one ?_ ?_ ?_); rfl; (simp only [World.size_alloc]; rfl); rfl; intro w1 hs1 hz1 hb1; simp only [World.size_alloc] at hb1; have Hs1 := hide (Same.trans Hs.out hs1); have Hm1 := hide hb1; have Hb1 := hide (Hb.out.same hs1); have Hr1 := hide (Hr.out.same hs1); have c0 := Hb1.out.cell 0; have c1 := Hb1.out.cell 1; have c2 := Hb1.out.cell 2; have c21 := Hb1.out.cell 21; simp only [List.getElem?_toArray, l0, l1, l2, l21] at c0 c1 c2 c21; have Hra1 := hide (Hra.out _ hs1); clear hs1 hz1 hb1)
    | ((with_reducible refine stCg 36 (w.heap.size + 1 + 1) 21 (Value.slice A0 bl c) 38 [Value.int .i64 5, .int .i64 id, .int .i64 0, .int .i64 0, .int .i64 0, .int .i64 0, .int .i64 0, .int .i64 0, .int .i64 0, .int .i64 0, .int .i64 0, .int .i64 0, .int .i64 0, .int .i64 0, .int .i64 0, .int .i64 0, .int .i64 0, .int .i64 0, .int .i64 0, .int .i64 0, .int .i64 0, .slice none 0 0] slBSz Hclw3.out.one Hm1.out Hclw3.out.lt ?_ ?_ ?_); rfl; rfl; intro w3 hc hb; have Hc3 := hide hc; have Hm3 := hide (show Blk w3 (w.heap.size + 1 + 1) 38 ([Value.int .i64 5, .int .i64 id, .int .i64 0, .int .i64 0, .int .i64 0, .int .i64 0, .int .i64 0, .int .i64 0, .int .i64 0, .int .i64 0, .int .i64 0, .int .i64 0, .int .i64 0, .int .i64 0, .int .i64 0, .int .i64 0, .int .i64 0, .int .i64 0, .int .i64 0, .int .i64 0, .int .i64 0, .slice A0 bl c]).toArray from hb); have Hr3 := hide (Hr1.out.chg hc (by omega)); have HB := Hb1.out.chg (hc) (by omega); have d0 := HB.cell 0; have d2 := HB.cell 2; have d21 := HB.cell 21; simp only [List.getElem?_toArray, l0, l2, l21] at d0 d2 d21; clear HB; clear hc hb)
    | ((with_reducible refine ldR 38 (w.heap.size + 1 + 1) 0 22 ([Value.int .i64 5, .int .i64 id, .int .i64 0, .int .i64 0, .int .i64 0, .int .i64 0, .int .i64 0, .int .i64 0, .int .i64 0, .int .i64 0, .int .i64 0, .int .i64 0, .int .i64 0, .int .i64 0, .int .i64 0, .int .i64 0, .int .i64 0, .int .i64 0, .int .i64 0, .int .i64 0, .int .i64 0, .slice A0 bl c]) rowAct HF.out.len (blk_range Hm3.out) ?_ ?_ ?_); rfl; rfl)
    | ((with_reducible refine stRg 38 (w.heap.size + 1) 22 ([Value.int .i64 5, .int .i64 id, .int .i64 0, .int .i64 0, .int .i64 0, .int .i64 0, .int .i64 0, .int .i64 0, .int .i64 0, .int .i64 0, .int .i64 0, .int .i64 0, .int .i64 0, .int .i64 0, .int .i64 0, .int .i64 0, .int .i64 0, .int .i64 0, .int .i64 0, .int .i64 0, .int .i64 0, .slice A0 bl c]) 38 _ rowAct HF.out.len ?_ Hr3.out HF.out.one ?_ ?_ ?_); rfl; rfl; rfl; intro w9 hc9 hz9 hb9; have Hc9 := hide hc9; have Hb9 := hide hb9; clear hc9 hz9 hb9)
    | fail)
  refine bodyPost_ret (results_cell_row rfl _ _ _ _ _ _ _ rfl Hb9.out Tryz.underlying38 rfl (by rw [List.size_toArray, show ([Value.int .i64 5, .int .i64 id, .int .i64 0, .int .i64 0, .int .i64 0, .int .i64 0, .int .i64 0, .int .i64 0, .int .i64 0, .int .i64 0, .int .i64 0, .int .i64 0, .int .i64 0, .int .i64 0, .int .i64 0, .int .i64 0, .int .i64 0, .int .i64 0, .int .i64 0, .int .i64 0, .int .i64 0, .slice A0 bl c]).length = 22 from HF.out.len]; exact infoAct)) (by rfl) ?_
  have h1 : Chg (fun k => w.heap.size ≤ k) w w3 := Chg.trans (Same.to Hs1.out) Hc3.out (fun k _ e => (by have e' : k = w.heap.size + 1 + 1 := e; omega))
  have hF := Chg.fresh (S := fun k => w.heap.size ≤ k) (Chg.trans h1 Hc9.out (fun k _ e => (by have e' : k = w.heap.size + 1 := e; omega))) (fun _ h => h)
  exact HE.out _ hF
theorem ronlyA_any (a : Ac) {A0 : Option Addr} {c : Nat} (w : World) (hg : goodA a = true) :
    Calls Tryz.prog 15 #[acV a A0 c] w fun e w' => e = .returned (acV (onlyA a) (onlyAt a A0) (onlyCap a c)) ∧ Same w w' := by
  rcases goodA_cases hg with ⟨h, _⟩ | ⟨h, _⟩ | h | ⟨h, _⟩ | ⟨h, _⟩
  · exact ronlyA_1 a w hg h
  · exact ronlyA_2 a w hg h
  · exact ronlyA_3 a w hg h
  · exact ronlyA_4 a w hg h
  · exact ronlyA_5 a w hg h
end Go.Proofs.YtlodanjpkjfjiaaGreatDoor
