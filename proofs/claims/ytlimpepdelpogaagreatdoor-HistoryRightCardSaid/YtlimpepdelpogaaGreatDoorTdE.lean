/-
  maps.Values, slices.AppendSeq and slices.Collect at triples in a map from numbers: all come, each once, in some order, in a row of their own. Condition: the map's length is within the machine's bounds.
-/
import Derived.Test.YtlimpepdelpogaaGreatDoorTdC
import Derived.RangeFuncNested
import Derived.RangeFuncBound
import Derived.RangeFuncCalls
import Derived.RangeFuncFrom
import Derived.Shelf.RegionOpen
import Derived.WalkKit
import Derived.Maps.AppendAt
namespace Go.Proofs.YtlimpepdelpogaaGreatDoor
open Go.RowKit Go.Al Go.Maps Go.Shelf
set_option linter.unusedVariables false
set_option maxHeartbeats 4000000
set_option maxRecDepth 100000
attribute [local go_sem] Oper.semAt_some
theorem same_below {w w' : World} (h : Below w.heap.size w w') : Same w w' :=
  ⟨h.os, h.tape, h.output, h.size, fun k hk => ty_of_heap (h.block k hk), fun k hk _ => h.block k hk⟩
theorem itP_in {l0 : List P3} (F : Fence) (n : Nat) (h8 : F.fn 44) (hro : F.round = none) (hn : 1 ≤ n) (l Bm b : Nat) (J Jx : List P3 → World → Prop)
    (hY : ∀ pre x W, J pre W → pre.length < l0.length → YieldAt F (n - 1) Tryz.prog l #[val3 x] W fun e W' => (e = .returned (.bool true) ∧ J (pre ++ [x]) W' ∧ KeepsWalks W W') ∨ (e = .returned (.bool false) ∧ Jx (pre ++ [x]) W'))
    (W : World) (hJ : AbidesFrom W.heap.size J) (hm : W.cell? ⟨Bm, 0, none⟩ = some (.map (some b))) (hown : MapI W b l0) (h0 : J [] W) :
    CallsIn F n Tryz.prog 44 #[.func (.yield l) #[] #[], .pointer (some ⟨Bm, 0, none⟩)] W fun e W' => (∃ v, e = .returned v) ∧ ((∃ ps : List P3, ps.Perm l0 ∧ J ps W') ∨ (∃ pre, True ∧ Jx pre W')) := by
  have hsrt := hown.2
  have hsz := mapD_size l0
  refine callsIn_of_wp Tryz.func44 rfl h8 ?_ hro
  simp only [Tryz.ntmps44, List.size_toArray, List.length_cons, List.length_nil, Nat.reduceAdd, Nat.reduceSub, Array.replicate_succ, Array.replicate_zero, List.push_toArray, List.append_toArray, List.nil_append, List.cons_append]
  gi_wp2_with (first
    | (gi_at_range; refine wpListIn_range_own _ rfl _ 85 rfl 3 25 (int_keyed Tryz.underlying3) Tryz.underlying85 _ b l0.length _ rfl hown.1 ?_; intro w0 hrg0 hg0 hs0)
    | gi_in)
  go_frame
  gi_loopw [4] (fun _ wr => ∃ (left : Lit → Bool) (cnt : Nat) (ps : List P3), wr.ranges Tryz.prog 3 r3 b W.heap.size l0.length (mapD l0) left cnt ∧ ps.length + cnt ≤ l0.length ∧ Come l0 left ps ∧ J ps wr)
    (fun _ wr => wr.rangeLeft b W.heap.size)
  case atStart =>
    exact ⟨_, _, [], hrg0, by simp [hsz], come_start l0, hJ [] W w0 none h0 hg0 (fun r e => by cases e)⟩
  case round =>
    obtain ⟨left, cnt, ps, hrg, hcs, hC, hJs⟩ := hrel
    gi_wp2_with (first
      | (gi_at_next; refine wpListIn_next_ranges _ rfl _ rfl 3 (int_keyed Tryz.underlying3) r3 (Value.int .i64) val3 (fun key kl hk => by obtain ⟨x, hx, _⟩ := key_int Tryz.underlying3 hk; exact ⟨x, hx⟩) (fun v y hv => r3_shape hv) b W.heap.size l0.length _ _ _ rfl hrg ?_ ?_)
      | gi_in)
    · intro hc0 hl0
      gi_wp2
      go_end0
      exact ⟨⟨_, rfl⟩, .inl ⟨ps, come_end hsrt hC hl0, hJs⟩⟩
    · intro x c1 c2 c3 kl yd yp w2 cnt2 hkey hlk hv hat hrg2 hlt hg2 hs2 hen
      obtain ⟨x', ex, hkl⟩ := key_int Tryz.underlying3 hkey
      obtain rfl : x = x' := by simpa using ex
      subst hkl
      obtain rfl : yd = dat3 (c1, c2, c3) := by have e : r3 (val3 (c1, c2, c3)) = some (dat3 (c1, c2, c3), []) := rfl; rw [e] at hv; exact (congrArg Prod.fst (Option.some.inj hv)).symm
      obtain ⟨hcl, hcx⟩ := at_mem hat
      have hcx : c1 = x := hcx
      subst hcx
      have hJ2 : J ps w2 := hJ ps wr w2 (some W.heap.size) hJs hg2 (fun r e => by cases e; exact ⟨Nat.le_refl _, hrg.iter_walk⟩)
      have hC2 := come_step hsrt hC hcl hlk
      unfold val3 at hen
      have hJ3 : J ps (w2.alloc (.cells #[.int .i64 c1, .int .i64 c2, .int .i64 c3] 25)) := hJ ps w2 _ none hJ2 (World.grownBy_alloc _ _ none) (fun r e => by cases e)
      obtain ⟨fn, tmps, assign, body, hy, hR⟩ := hY ps (c1, c2, c3) _ hJ3 (by omega)
      unfold val3 at hy
      clear hs2 hv hat hkey
      gi_wp2
      refine hR.mono ?_
      rintro e W3 (⟨rfl, hJ4, hk4⟩ | ⟨rfl, hJx4⟩)
      · gi_wp2
        have hrg3 := (hrg2.alloc (.cells #[.int .i64 c1, .int .i64 c2, .int .i64 c3] 25)).of_walks hk4
        go_roundw
        case rel => exact ⟨_, cnt2, ps ++ [(c1, c2, c3)], hrg3, by simp; omega, hC2, hJ4⟩
        case measure => rw [hrg3.left_eq, hrg.left_eq]; exact hlt
      · gi_wp2
        refine bodyPost_ret (results_none rfl _ _ _) rfl ?_
        exact ⟨⟨_, rfl⟩, .inr ⟨_, trivial, hJx4⟩⟩
theorem valsP_stops {l0 : List P3} (F : Fence) (n : Nat) (h8 : F.fn 44) (hro : F.round = none) (hn : 1 ≤ n) (Bm b : Nat) (w : World) (hBm : Bm < w.heap.size)
    (hm : w.cell? ⟨Bm, 0, none⟩ = some (.map (some b))) (hown : MapI w b l0) :
    SeqStopsK F n Tryz.prog 44 #[.pointer (some ⟨Bm, 0, none⟩)] (fun x : P3 => #[val3 x]) KeepsWalks (fun ps => ps.Perm l0) (fun _ => True) l0.length w := fun l J Jx W hW hJ _ hY h0 => by
  have hown' : MapI W b l0 := by
    have hbl := hown.1.lt
    obtain ⟨⟨es, clock, hb, Ft, hs, hD⟩, h2⟩ := hown
    exact ⟨⟨es, clock, (hW.block b hbl).trans hb, Ft, hs, hD⟩, h2⟩
  exact itP_in F n h8 hro hn l Bm b J Jx hY W hJ ((hW.cell (p := ⟨Bm, 0, none⟩) hBm).trans hm) hown' h0
theorem valsP_in (F : Fence) (n : Nat) (hf : F.fn 23) (hro : F.round = none) (mb : Option Nat) (w : World) :
    CallsIn F n Tryz.prog 23 #[.map mb] w fun e w' => e = .returned (.func (.func 44) #[] #[.pointer (some ⟨w.heap.size, 0, none⟩)]) ∧ w' = w.alloc (.cells #[.map mb] 85) := by
  refine callsIn_of_wp Tryz.func23 rfl hf ?_ hro
  simp only [Tryz.ntmps23, List.size_toArray, List.length_cons, List.length_nil, Nat.reduceAdd, Nat.reduceSub, Array.replicate_succ, Array.replicate_zero, List.push_toArray, List.append_toArray, List.nil_append, List.cons_append]
  gi_wp2
  go_ret
  exact ⟨rfl, rfl⟩
theorem infoP : (Tryz.prog.info? 25).map (fun i => (i.zero, i.size, i.bytes)) = some (some (val3 (0, 0, 0)), 3, 24) := by kernel_rfl
theorem appP_in (F : Fence) (n : Nat) (h11 : F.fn 74) (hro : F.round = none) (hn : 4 ≤ n) (g : Nat) (lb : Array Value) (hFg : F.fn g) (eg : ∀ args w, (callFunc g args).run Tryz.prog w = .ok (.enter g args) w)
    (S Sp : List P3 → Prop) (N : Nat) (hN : N ≤ maxLen) (hNb : N * 24 ≤ 140737488355328) (w : World) (hseq : SeqStopsK F (n - 1) Tryz.prog g lb (fun x : P3 => #[val3 x]) KeepsWalks S Sp N w) :
    CallsIn F n Tryz.prog 74 #[.slice none 0 0, .func (.func g) #[] lb] w fun e w' => ∃ (v : Value) (ss : List P3), e = .returned v ∧ S ss ∧ w'.ownsRow w.heap.size 25 3 v ss.length (is3 ss) ∧ Below w.heap.size w w' := by
  have h1 : 1 ≤ n := by omega
  obtain ⟨i0, hi, hz0, hz1, hz2⟩ := info_parts infoP
  refine callsIn_of_wp_marks Tryz.func74 rfl h11 ?_ hro
  simp only [Tryz.ntmps74, List.size_toArray, List.length_cons, List.length_nil, Nat.reduceAdd, Nat.reduceSub, Array.replicate_succ, Array.replicate_zero, List.push_toArray, List.append_toArray, List.nil_append, List.cons_append]
  gi_wp2
  have bB := Boxed.new w 55 (.slice none 0 0)
  have hB0 : Below w.heap.size w (w.alloc (.cells #[.slice none 0 0] 55)) := (Below.refl _ w).alloc (Nat.le_refl _) _
  have hsz : (w.alloc (.cells #[.slice none 0 0] 55)).heap.size = w.heap.size + 1 := by simp
  obtain ⟨W0, hW0⟩ : ∃ W0, w.alloc (.cells #[.slice none 0 0] 55) = W0 := ⟨_, rfl⟩
  rw [hW0] at bB hB0 hsz ⊢
  clear hW0
  refine wpIn_rangeFunc_ownH hro h1 (gf := g) (lb := lb) rfl hFg eg
    hseq (fun h k => walksK_t h k) walksK_b hB0 (fun _ => rfl)
    (fun pre W => (∃ v, Boxed W w.heap.size 55 v ∧ W.ownsRow w.heap.size 25 3 v pre.length (is3 pre) ∧ True) ∧ Below w.heap.size w W)
    (fun _ _ _ => False) (OwnFrom.and (Own.from (holdsRow_own w.heap.size w.heap.size 55 25 3 (fun pre : List P3 => pre.length) (fun pre => is3 pre) (fun _ _ => True)) _) (ownFrom_below (Nat.le_refl _) (by omega)))
    (fun _ _ _ _ _ h _ _ => h) ⟨⟨_, bB, World.ownsRow_nil _ _ _ _, trivial⟩, hB0⟩
    (fun x a' W => ∃ Bx, w.heap.size < Bx ∧ W.heap[Bx]? = some (.cells #[.int .i64 x.1, .int .i64 x.2.1, .int .i64 x.2.2] 25 (0, 0)) ∧ a' = { tmps := #[.slice none 0 0, .func (.func g) #[] lb, .pointer (some ⟨w.heap.size, 0, none⟩), undef, .slice none 0 0, .pointer (some ⟨Bx, 0, none⟩), .func (.func g) #[] lb, val3 x, undef, undef, undef, undef, undef], defers := [] })
    ?_ ?assign ?body ?done ?stop
  · rintro x a' u X Y row ⟨Bx, h1, h2, h3⟩ hg hr
    refine ⟨Bx, h1, (hg.block Bx (Array.getElem?_eq_some_iff.1 h2).1 (fun e => ?_)).trans h2, h3⟩
    obtain ⟨_, o, ho, hc⟩ := hr Bx e.symm
    rw [h2] at ho; cases ho; cases hc
  case assign =>
    rintro l pre x W K ⟨⟨v, hv, hrow, _⟩, hB⟩ hK
    unfold val3 at hK ⊢
    gi_wp2
    refine hK _ _ ((KeepsOthers.alloc _ _).from _) (KeepsWalks.alloc _ _) ⟨⟨v, hv.alloc _, hrow.alloc _, trivial⟩, hB.alloc hB.size _⟩ ⟨W.heap.size, ?_, World.alloc_heap_new W _, rfl⟩
    exact hv.lt
  case body =>
    rintro l pre x a' W hl ⟨r, hr⟩ ⟨⟨v, hv, hrow, _⟩, hB⟩ ⟨Bx, hBx, bX, rfl⟩ hlt
    have hc := hv.cell
    have hBw := hB.size
    have hbl := hv.lt
    have g0 : W.cell? ⟨Bx, 0, none⟩ = some (.int .i64 x.1) := by simp [World.cell?, bX]
    have g1 : W.cell? ⟨Bx, 1, none⟩ = some (.int .i64 x.2.1) := by simp [World.cell?, bX]
    have g2 : W.cell? ⟨Bx, 2, none⟩ = some (.int .i64 x.2.2) := by simp [World.cell?, bX]
    unfold val3
    gi_wp2_with (first
      | (gi_at_builtin; refine wpListIn_append_own _ rfl _ _ 55 rfl w.heap.size 25 i0 (val3 (0, 0, 0)) 3 24 Tryz.underlying55 hi hz0 hz1 hz2 rfl (by decide) _ _ _ rfl (hrow.alloc _) ⟨W.heap.size, 0, none⟩ 1 1 [.int .i64 x.1, .int .i64 x.2.1, .int .i64 x.2.2] rfl rfl ?_ (by simp [Value.oneCell']) (by omega) (by omega) (by simp; omega) ?_)
      | gi_in)
    · intro j u hu
      have hj : j < 3 := (List.getElem?_eq_some_iff.1 hu).1
      have e1 := fun j => (Blk.new W 25 #[.int .i64 x.1, .int .i64 x.2.1, .int .i64 x.2.2]).cell j
      rw [add_lit, Nat.zero_add, e1]
      match j, hj with
      | 0, _ | 1, _ | 2, _ => simpa using hu
    · intro v' w1 hown' hgrow _
      obtain ⟨g', cap', rfl⟩ := ownsRow_succ hown'
      obtain ⟨hv1, hv2, hr2, hk2, hb2⟩ := hv.appended (by decide) hrow hB.size (Nat.le_refl _) hown' hgrow
      have hc1 := hv1.cell
      have hf1 := hv1.frozen
      gi_wp2
      refine ⟨hk2.from _, hk2.walks, ⟨_, hv2, ?_, trivial⟩, hB.trans hb2⟩
      rw [is3_append]
      simpa [is3_cons, is3_nil] using hr2
  case done =>
    rintro D xs W hD hS ⟨⟨v, hv, hrow, _⟩, hB⟩ hK
    have hc := hv.cell
    gi_wp2
    refine ⟨by simp, .inl ⟨_, _, rfl, run_takeDeferred hK, ?_⟩⟩
    refine ⟨_, results_tmp rfl _ _ _, v, xs, rfl, hS, ownsRow_putObj hrow _ hK rfl, ?_⟩
    exact hB.trans (belowK_b (w := w) (Nat.le_refl _) W D _ _ (by omega) hK rfl rfl)
  case stop =>
    rintro D c pre W _ _ h _
    exact h.elim
theorem colP_in (F : Fence) (n : Nat) (h8 : F.fn 42) (h11 : F.fn 74) (hro : F.round = none) (hn : 5 ≤ n) (g : Nat) (lb : Array Value) (hFg : F.fn g) (eg : ∀ args w, (callFunc g args).run Tryz.prog w = .ok (.enter g args) w)
    (S Sp : List P3 → Prop) (N : Nat) (hN : N ≤ maxLen) (hNb : N * 24 ≤ 140737488355328) (w : World) (hseq : SeqStopsK F (n - 1 - 1) Tryz.prog g lb (fun x : P3 => #[val3 x]) KeepsWalks S Sp N w) :
    CallsIn F n Tryz.prog 42 #[.func (.func g) #[] lb] w fun e w' => ∃ (v : Value) (ss : List P3), e = .returned v ∧ S ss ∧ w'.ownsRow w.heap.size 25 3 v ss.length (is3 ss) ∧ Below w.heap.size w w' := by
  have h1 : 1 ≤ n := by omega
  refine callsIn_of_wp Tryz.func42 rfl h8 ?_ hro
  simp only [Tryz.ntmps42, List.size_toArray, List.length_cons, List.length_nil, Nat.reduceAdd, Nat.reduceSub, Array.replicate_succ, Array.replicate_zero, List.push_toArray, List.append_toArray, List.nil_append, List.cons_append]
  gi_wp2_with (gi_at_call 74; refine (appP_in F (n - 1) h11 hro (by omega) g lb hFg eg S Sp N hN hNb _ hseq).mono ?_; rintro e w' ⟨v, ss, rfl, hS, hrow, hb⟩)
  go_ret
  exact ⟨v, ss, rfl, hS, hrow, hb⟩
theorem sfP_in (g : Nat) (lb : Array Value) (eg : ∀ args w, (callFunc g args).run Tryz.prog w = .ok (.enter g args) w)
    (Sp : List P3 → Prop) {l : List P3} (hst : Srt l) (N : Nat) (hN : N ≤ 1048576) (hl : l.length ≤ N) (w : World) (hseq : SeqStopsK Fence.wide 9 Tryz.prog g lb (fun x : P3 => #[val3 x]) KeepsWalks (fun ps => ps.Perm l) Sp N w) :
    Calls Tryz.prog 22 #[.func (.func g) #[] lb, .func (.func 24) #[] #[]] w fun e w' => ∃ A c, e = .returned (.slice A l.length c) ∧ Row3 w' A l.length c l ∧ Same w w' ∧ (∀ b, blkOf A = some b → w.heap.size ≤ b) := by
  have hcol := callsIn_wide.1 (colP_in Fence.wide 11 trivial trivial rfl (by omega) g lb trivial eg _ Sp N (by unfold maxLen; omega) (by omega) w hseq)
  clear hseq eg
  go_enter Tryz.func22, Tryz.ntmps22
  go_wp2_with (go_at_call 42; refine hcol.mono ?_; rintro e W ⟨v, ss, rfl, hS, hrow, hb⟩)
  have hss := same_below hb
  rcases hrow.2 with ⟨rfl, hz⟩ | ⟨gb, cap, cur, rfl, hbase, hgb, r1, r2, r3, r4⟩
  · have e0 : ss = [] := List.eq_nil_of_length_eq_zero hz
    subst e0
    obtain rfl : l = [] := by simpa using hS.symm
    go_wp2_with (go_at_call 43; refine (sortP_none none 0 W).mono ?_; rintro e w' ⟨rfl, rfl⟩)
    go_ret
    exact ⟨none, 0, rfl, ⟨Rd.nil _ _, rfl, by simp, by simp, fun b hb => by simp [blkOf] at hb⟩, hss, fun b hb => by simp [blkOf] at hb⟩
  · have hR := Row3.own hrow rfl
    have hlen : l.length = ss.length := hS.length_eq.symm
    have cS := sortP_any hR (fun i => by simp [World.frozen?, hgb]) hS hst (by omega)
    clear hcol
    go_wp2_with (go_at_call 43; refine cS.mono ?_; rintro e w' ⟨rfl, hR', hC⟩)
    go_ret
    exact ⟨_, _, by rw [hlen]; rfl, hR', (Chg.of_same hss hC).mono fun k hk e => by subst e; omega, fun b hb => by simp [blkOf] at hb; omega⟩
theorem allP_any {g pm sm : Nat} {most : Int} {p s : List P3} (w : World) (h : Tab w g pm sm most p s) (hl : p.length ≤ 1048576) :
    Calls Tryz.prog 10 #[.pointer (some ⟨g, 0, none⟩)] w fun e w' => ∃ A c, e = .returned (.slice A p.length c) ∧ Row3 w' A p.length c p ∧ Same w w' ∧ (∀ b, blkOf A = some b → w.heap.size ≤ b) := by
  have hc := h.blk.cell 0
  have hm := h.mp
  have hv := callsIn_wide.1 (valsP_in Fence.wide 9 trivial rfl (some pm) w)
  have hs0 : Same w (w.alloc (.cells #[.map (some pm)] 85)) := (Chg.refl _ w).alloc _
  have hm' : MapI (w.alloc (.cells #[.map (some pm)] 85)) pm p := hm.same hs0
  have hst := valsP_stops (l0 := p) Fence.wide 9 trivial rfl (by omega) w.heap.size pm (w.alloc (.cells #[.map (some pm)] 85)) (by simp) (by rw [(Blk.new w _ _).cell 0]; rfl) hm'
  have cS := sfP_in 44 _ (enters_of Tryz.func44 (by kernel_rfl) rfl) _ hm.2 p.length hl (Nat.le_refl _) _ hst
  clear h hst hm hm'
  go_enter Tryz.func10, Tryz.ntmps10
  go_wp2_with (first
    | (go_at_call 23; refine hv.mono ?_; rintro e w' ⟨rfl, rfl⟩)
    | (go_at_call 22; refine cS.mono ?_; rintro e w' ⟨A, c, rfl, h1, h2, h3⟩))
  go_ret
  exact ⟨A, c, rfl, h1, hs0.trans h2, fun b hb => by have := h3 b hb; simp at this; omega⟩
theorem itS_in {l0 : List P3} (F : Fence) (n : Nat) (h8 : F.fn 48) (hro : F.round = none) (hn : 1 ≤ n) (l Bm b : Nat) (J Jx : List P3 → World → Prop)
    (hY : ∀ pre x W, J pre W → pre.length < l0.length → YieldAt F (n - 1) Tryz.prog l #[val3 x] W fun e W' => (e = .returned (.bool true) ∧ J (pre ++ [x]) W' ∧ KeepsWalks W W') ∨ (e = .returned (.bool false) ∧ Jx (pre ++ [x]) W'))
    (W : World) (hJ : AbidesFrom W.heap.size J) (hm : W.cell? ⟨Bm, 0, none⟩ = some (.map (some b))) (hown : MapI W b l0) (h0 : J [] W) :
    CallsIn F n Tryz.prog 48 #[.func (.yield l) #[] #[], .pointer (some ⟨Bm, 0, none⟩)] W fun e W' => (∃ v, e = .returned v) ∧ ((∃ ps : List P3, ps.Perm l0 ∧ J ps W') ∨ (∃ pre, True ∧ Jx pre W')) := by
  have hsrt := hown.2
  have hsz := mapD_size l0
  refine callsIn_of_wp Tryz.func48 rfl h8 ?_ hro
  simp only [Tryz.ntmps48, List.size_toArray, List.length_cons, List.length_nil, Nat.reduceAdd, Nat.reduceSub, Array.replicate_succ, Array.replicate_zero, List.push_toArray, List.append_toArray, List.nil_append, List.cons_append]
  gi_wp2_with (first
    | (gi_at_range; refine wpListIn_range_own _ rfl _ 86 rfl 3 27 (int_keyed Tryz.underlying3) Tryz.underlying86 _ b l0.length _ rfl hown.1 ?_; intro w0 hrg0 hg0 hs0)
    | gi_in)
  go_frame
  gi_loopw [4] (fun _ wr => ∃ (left : Lit → Bool) (cnt : Nat) (ps : List P3), wr.ranges Tryz.prog 3 r3 b W.heap.size l0.length (mapD l0) left cnt ∧ ps.length + cnt ≤ l0.length ∧ Come l0 left ps ∧ J ps wr)
    (fun _ wr => wr.rangeLeft b W.heap.size)
  case atStart =>
    exact ⟨_, _, [], hrg0, by simp [hsz], come_start l0, hJ [] W w0 none h0 hg0 (fun r e => by cases e)⟩
  case round =>
    obtain ⟨left, cnt, ps, hrg, hcs, hC, hJs⟩ := hrel
    gi_wp2_with (first
      | (gi_at_next; refine wpListIn_next_ranges _ rfl _ rfl 3 (int_keyed Tryz.underlying3) r3 (Value.int .i64) val3 (fun key kl hk => by obtain ⟨x, hx, _⟩ := key_int Tryz.underlying3 hk; exact ⟨x, hx⟩) (fun v y hv => r3_shape hv) b W.heap.size l0.length _ _ _ rfl hrg ?_ ?_)
      | gi_in)
    · intro hc0 hl0
      gi_wp2
      go_end0
      exact ⟨⟨_, rfl⟩, .inl ⟨ps, come_end hsrt hC hl0, hJs⟩⟩
    · intro x c1 c2 c3 kl yd yp w2 cnt2 hkey hlk hv hat hrg2 hlt hg2 hs2 hen
      obtain ⟨x', ex, hkl⟩ := key_int Tryz.underlying3 hkey
      obtain rfl : x = x' := by simpa using ex
      subst hkl
      obtain rfl : yd = dat3 (c1, c2, c3) := by have e : r3 (val3 (c1, c2, c3)) = some (dat3 (c1, c2, c3), []) := rfl; rw [e] at hv; exact (congrArg Prod.fst (Option.some.inj hv)).symm
      obtain ⟨hcl, hcx⟩ := at_mem hat
      have hcx : c1 = x := hcx
      subst hcx
      have hJ2 : J ps w2 := hJ ps wr w2 (some W.heap.size) hJs hg2 (fun r e => by cases e; exact ⟨Nat.le_refl _, hrg.iter_walk⟩)
      have hC2 := come_step hsrt hC hcl hlk
      unfold val3 at hen
      have hJ3 : J ps (w2.alloc (.cells #[.int .i64 c1, .int .i64 c2, .int .i64 c3] 27)) := hJ ps w2 _ none hJ2 (World.grownBy_alloc _ _ none) (fun r e => by cases e)
      obtain ⟨fn, tmps, assign, body, hy, hR⟩ := hY ps (c1, c2, c3) _ hJ3 (by omega)
      unfold val3 at hy
      clear hs2 hv hat hkey
      gi_wp2
      refine hR.mono ?_
      rintro e W3 (⟨rfl, hJ4, hk4⟩ | ⟨rfl, hJx4⟩)
      · gi_wp2
        have hrg3 := (hrg2.alloc (.cells #[.int .i64 c1, .int .i64 c2, .int .i64 c3] 27)).of_walks hk4
        go_roundw
        case rel => exact ⟨_, cnt2, ps ++ [(c1, c2, c3)], hrg3, by simp; omega, hC2, hJ4⟩
        case measure => rw [hrg3.left_eq, hrg.left_eq]; exact hlt
      · gi_wp2
        refine bodyPost_ret (results_none rfl _ _ _) rfl ?_
        exact ⟨⟨_, rfl⟩, .inr ⟨_, trivial, hJx4⟩⟩
theorem valsS_stops {l0 : List P3} (F : Fence) (n : Nat) (h8 : F.fn 48) (hro : F.round = none) (hn : 1 ≤ n) (Bm b : Nat) (w : World) (hBm : Bm < w.heap.size)
    (hm : w.cell? ⟨Bm, 0, none⟩ = some (.map (some b))) (hown : MapI w b l0) :
    SeqStopsK F n Tryz.prog 48 #[.pointer (some ⟨Bm, 0, none⟩)] (fun x : P3 => #[val3 x]) KeepsWalks (fun ps => ps.Perm l0) (fun _ => True) l0.length w := fun l J Jx W hW hJ _ hY h0 => by
  have hown' : MapI W b l0 := by
    have hbl := hown.1.lt
    obtain ⟨⟨es, clock, hb, Ft, hs, hD⟩, h2⟩ := hown
    exact ⟨⟨es, clock, (hW.block b hbl).trans hb, Ft, hs, hD⟩, h2⟩
  exact itS_in F n h8 hro hn l Bm b J Jx hY W hJ ((hW.cell (p := ⟨Bm, 0, none⟩) hBm).trans hm) hown' h0
theorem valsS_in (F : Fence) (n : Nat) (hf : F.fn 27) (hro : F.round = none) (mb : Option Nat) (w : World) :
    CallsIn F n Tryz.prog 27 #[.map mb] w fun e w' => e = .returned (.func (.func 48) #[] #[.pointer (some ⟨w.heap.size, 0, none⟩)]) ∧ w' = w.alloc (.cells #[.map mb] 86) := by
  refine callsIn_of_wp Tryz.func27 rfl hf ?_ hro
  simp only [Tryz.ntmps27, List.size_toArray, List.length_cons, List.length_nil, Nat.reduceAdd, Nat.reduceSub, Array.replicate_succ, Array.replicate_zero, List.push_toArray, List.append_toArray, List.nil_append, List.cons_append]
  gi_wp2
  go_ret
  exact ⟨rfl, rfl⟩
theorem infoS : (Tryz.prog.info? 27).map (fun i => (i.zero, i.size, i.bytes)) = some (some (val3 (0, 0, 0)), 3, 24) := by kernel_rfl
theorem appS_in (F : Fence) (n : Nat) (h11 : F.fn 77) (hro : F.round = none) (hn : 4 ≤ n) (g : Nat) (lb : Array Value) (hFg : F.fn g) (eg : ∀ args w, (callFunc g args).run Tryz.prog w = .ok (.enter g args) w)
    (S Sp : List P3 → Prop) (N : Nat) (hN : N ≤ maxLen) (hNb : N * 24 ≤ 140737488355328) (w : World) (hseq : SeqStopsK F (n - 1) Tryz.prog g lb (fun x : P3 => #[val3 x]) KeepsWalks S Sp N w) :
    CallsIn F n Tryz.prog 77 #[.slice none 0 0, .func (.func g) #[] lb] w fun e w' => ∃ (v : Value) (ss : List P3), e = .returned v ∧ S ss ∧ w'.ownsRow w.heap.size 27 3 v ss.length (is3 ss) ∧ Below w.heap.size w w' := by
  have h1 : 1 ≤ n := by omega
  obtain ⟨i0, hi, hz0, hz1, hz2⟩ := info_parts infoS
  refine callsIn_of_wp_marks Tryz.func77 rfl h11 ?_ hro
  simp only [Tryz.ntmps77, List.size_toArray, List.length_cons, List.length_nil, Nat.reduceAdd, Nat.reduceSub, Array.replicate_succ, Array.replicate_zero, List.push_toArray, List.append_toArray, List.nil_append, List.cons_append]
  gi_wp2
  have bB := Boxed.new w 57 (.slice none 0 0)
  have hB0 : Below w.heap.size w (w.alloc (.cells #[.slice none 0 0] 57)) := (Below.refl _ w).alloc (Nat.le_refl _) _
  have hsz : (w.alloc (.cells #[.slice none 0 0] 57)).heap.size = w.heap.size + 1 := by simp
  obtain ⟨W0, hW0⟩ : ∃ W0, w.alloc (.cells #[.slice none 0 0] 57) = W0 := ⟨_, rfl⟩
  rw [hW0] at bB hB0 hsz ⊢
  clear hW0
  refine wpIn_rangeFunc_ownH hro h1 (gf := g) (lb := lb) rfl hFg eg
    hseq (fun h k => walksK_t h k) walksK_b hB0 (fun _ => rfl)
    (fun pre W => (∃ v, Boxed W w.heap.size 57 v ∧ W.ownsRow w.heap.size 27 3 v pre.length (is3 pre) ∧ True) ∧ Below w.heap.size w W)
    (fun _ _ _ => False) (OwnFrom.and (Own.from (holdsRow_own w.heap.size w.heap.size 57 27 3 (fun pre : List P3 => pre.length) (fun pre => is3 pre) (fun _ _ => True)) _) (ownFrom_below (Nat.le_refl _) (by omega)))
    (fun _ _ _ _ _ h _ _ => h) ⟨⟨_, bB, World.ownsRow_nil _ _ _ _, trivial⟩, hB0⟩
    (fun x a' W => ∃ Bx, w.heap.size < Bx ∧ W.heap[Bx]? = some (.cells #[.int .i64 x.1, .int .i64 x.2.1, .int .i64 x.2.2] 27 (0, 0)) ∧ a' = { tmps := #[.slice none 0 0, .func (.func g) #[] lb, .pointer (some ⟨w.heap.size, 0, none⟩), undef, .slice none 0 0, .pointer (some ⟨Bx, 0, none⟩), .func (.func g) #[] lb, val3 x, undef, undef, undef, undef, undef], defers := [] })
    ?_ ?assign ?body ?done ?stop
  · rintro x a' u X Y row ⟨Bx, h1, h2, h3⟩ hg hr
    refine ⟨Bx, h1, (hg.block Bx (Array.getElem?_eq_some_iff.1 h2).1 (fun e => ?_)).trans h2, h3⟩
    obtain ⟨_, o, ho, hc⟩ := hr Bx e.symm
    rw [h2] at ho; cases ho; cases hc
  case assign =>
    rintro l pre x W K ⟨⟨v, hv, hrow, _⟩, hB⟩ hK
    unfold val3 at hK ⊢
    gi_wp2
    refine hK _ _ ((KeepsOthers.alloc _ _).from _) (KeepsWalks.alloc _ _) ⟨⟨v, hv.alloc _, hrow.alloc _, trivial⟩, hB.alloc hB.size _⟩ ⟨W.heap.size, ?_, World.alloc_heap_new W _, rfl⟩
    exact hv.lt
  case body =>
    rintro l pre x a' W hl ⟨r, hr⟩ ⟨⟨v, hv, hrow, _⟩, hB⟩ ⟨Bx, hBx, bX, rfl⟩ hlt
    have hc := hv.cell
    have hBw := hB.size
    have hbl := hv.lt
    have g0 : W.cell? ⟨Bx, 0, none⟩ = some (.int .i64 x.1) := by simp [World.cell?, bX]
    have g1 : W.cell? ⟨Bx, 1, none⟩ = some (.int .i64 x.2.1) := by simp [World.cell?, bX]
    have g2 : W.cell? ⟨Bx, 2, none⟩ = some (.int .i64 x.2.2) := by simp [World.cell?, bX]
    unfold val3
    gi_wp2_with (first
      | (gi_at_builtin; refine wpListIn_append_own _ rfl _ _ 57 rfl w.heap.size 27 i0 (val3 (0, 0, 0)) 3 24 Tryz.underlying57 hi hz0 hz1 hz2 rfl (by decide) _ _ _ rfl (hrow.alloc _) ⟨W.heap.size, 0, none⟩ 1 1 [.int .i64 x.1, .int .i64 x.2.1, .int .i64 x.2.2] rfl rfl ?_ (by simp [Value.oneCell']) (by omega) (by omega) (by simp; omega) ?_)
      | gi_in)
    · intro j u hu
      have hj : j < 3 := (List.getElem?_eq_some_iff.1 hu).1
      have e1 := fun j => (Blk.new W 27 #[.int .i64 x.1, .int .i64 x.2.1, .int .i64 x.2.2]).cell j
      rw [add_lit, Nat.zero_add, e1]
      match j, hj with
      | 0, _ | 1, _ | 2, _ => simpa using hu
    · intro v' w1 hown' hgrow _
      obtain ⟨g', cap', rfl⟩ := ownsRow_succ hown'
      obtain ⟨hv1, hv2, hr2, hk2, hb2⟩ := hv.appended (by decide) hrow hB.size (Nat.le_refl _) hown' hgrow
      have hc1 := hv1.cell
      have hf1 := hv1.frozen
      gi_wp2
      refine ⟨hk2.from _, hk2.walks, ⟨_, hv2, ?_, trivial⟩, hB.trans hb2⟩
      rw [is3_append]
      simpa [is3_cons, is3_nil] using hr2
  case done =>
    rintro D xs W hD hS ⟨⟨v, hv, hrow, _⟩, hB⟩ hK
    have hc := hv.cell
    gi_wp2
    refine ⟨by simp, .inl ⟨_, _, rfl, run_takeDeferred hK, ?_⟩⟩
    refine ⟨_, results_tmp rfl _ _ _, v, xs, rfl, hS, ownsRow_putObj hrow _ hK rfl, ?_⟩
    exact hB.trans (belowK_b (w := w) (Nat.le_refl _) W D _ _ (by omega) hK rfl rfl)
  case stop =>
    rintro D c pre W _ _ h _
    exact h.elim
theorem colS_in (F : Fence) (n : Nat) (h8 : F.fn 46) (h11 : F.fn 77) (hro : F.round = none) (hn : 5 ≤ n) (g : Nat) (lb : Array Value) (hFg : F.fn g) (eg : ∀ args w, (callFunc g args).run Tryz.prog w = .ok (.enter g args) w)
    (S Sp : List P3 → Prop) (N : Nat) (hN : N ≤ maxLen) (hNb : N * 24 ≤ 140737488355328) (w : World) (hseq : SeqStopsK F (n - 1 - 1) Tryz.prog g lb (fun x : P3 => #[val3 x]) KeepsWalks S Sp N w) :
    CallsIn F n Tryz.prog 46 #[.func (.func g) #[] lb] w fun e w' => ∃ (v : Value) (ss : List P3), e = .returned v ∧ S ss ∧ w'.ownsRow w.heap.size 27 3 v ss.length (is3 ss) ∧ Below w.heap.size w w' := by
  have h1 : 1 ≤ n := by omega
  refine callsIn_of_wp Tryz.func46 rfl h8 ?_ hro
  simp only [Tryz.ntmps46, List.size_toArray, List.length_cons, List.length_nil, Nat.reduceAdd, Nat.reduceSub, Array.replicate_succ, Array.replicate_zero, List.push_toArray, List.append_toArray, List.nil_append, List.cons_append]
  gi_wp2_with (gi_at_call 77; refine (appS_in F (n - 1) h11 hro (by omega) g lb hFg eg S Sp N hN hNb _ hseq).mono ?_; rintro e w' ⟨v, ss, rfl, hS, hrow, hb⟩)
  go_ret
  exact ⟨v, ss, rfl, hS, hrow, hb⟩
theorem sfS_in (g : Nat) (lb : Array Value) (eg : ∀ args w, (callFunc g args).run Tryz.prog w = .ok (.enter g args) w)
    (Sp : List P3 → Prop) {l : List P3} (hst : Srt l) (N : Nat) (hN : N ≤ 1048576) (hl : l.length ≤ N) (w : World) (hseq : SeqStopsK Fence.wide 9 Tryz.prog g lb (fun x : P3 => #[val3 x]) KeepsWalks (fun ps => ps.Perm l) Sp N w) :
    Calls Tryz.prog 26 #[.func (.func g) #[] lb, .func (.func 28) #[] #[]] w fun e w' => ∃ A c, e = .returned (.slice A l.length c) ∧ Row3 w' A l.length c l ∧ Same w w' ∧ (∀ b, blkOf A = some b → w.heap.size ≤ b) := by
  have hcol := callsIn_wide.1 (colS_in Fence.wide 11 trivial trivial rfl (by omega) g lb trivial eg _ Sp N (by unfold maxLen; omega) (by omega) w hseq)
  clear hseq eg
  go_enter Tryz.func26, Tryz.ntmps26
  go_wp2_with (go_at_call 46; refine hcol.mono ?_; rintro e W ⟨v, ss, rfl, hS, hrow, hb⟩)
  have hss := same_below hb
  rcases hrow.2 with ⟨rfl, hz⟩ | ⟨gb, cap, cur, rfl, hbase, hgb, r1, r2, r3, r4⟩
  · have e0 : ss = [] := List.eq_nil_of_length_eq_zero hz
    subst e0
    obtain rfl : l = [] := by simpa using hS.symm
    go_wp2_with (go_at_call 47; refine (sortS_none none 0 W).mono ?_; rintro e w' ⟨rfl, rfl⟩)
    go_ret
    exact ⟨none, 0, rfl, ⟨Rd.nil _ _, rfl, by simp, by simp, fun b hb => by simp [blkOf] at hb⟩, hss, fun b hb => by simp [blkOf] at hb⟩
  · have hR := Row3.own hrow rfl
    have hlen : l.length = ss.length := hS.length_eq.symm
    have cS := sortS_any hR (fun i => by simp [World.frozen?, hgb]) hS hst (by omega)
    clear hcol
    go_wp2_with (go_at_call 47; refine cS.mono ?_; rintro e w' ⟨rfl, hR', hC⟩)
    go_ret
    exact ⟨_, _, by rw [hlen]; rfl, hR', (Chg.of_same hss hC).mono fun k hk e => by subst e; omega, fun b hb => by simp [blkOf] at hb; omega⟩
theorem allS_any {g pm sm : Nat} {most : Int} {p s : List P3} (w : World) (h : Tab w g pm sm most p s) (hl : s.length ≤ 1048576) :
    Calls Tryz.prog 11 #[.pointer (some ⟨g, 0, none⟩)] w fun e w' => ∃ A c, e = .returned (.slice A s.length c) ∧ Row3 w' A s.length c s ∧ Same w w' ∧ (∀ b, blkOf A = some b → w.heap.size ≤ b) := by
  have hc := h.blk.cell 1
  have hm := h.ms
  have hv := callsIn_wide.1 (valsS_in Fence.wide 9 trivial rfl (some sm) w)
  have hs0 : Same w (w.alloc (.cells #[.map (some sm)] 86)) := (Chg.refl _ w).alloc _
  have hm' : MapI (w.alloc (.cells #[.map (some sm)] 86)) sm s := hm.same hs0
  have hst := valsS_stops (l0 := s) Fence.wide 9 trivial rfl (by omega) w.heap.size sm (w.alloc (.cells #[.map (some sm)] 86)) (by simp) (by rw [(Blk.new w _ _).cell 0]; rfl) hm'
  have cS := sfS_in 48 _ (enters_of Tryz.func48 (by kernel_rfl) rfl) _ hm.2 s.length hl (Nat.le_refl _) _ hst
  clear h hst hm hm'
  go_enter Tryz.func11, Tryz.ntmps11
  go_wp2_with (first
    | (go_at_call 27; refine hv.mono ?_; rintro e w' ⟨rfl, rfl⟩)
    | (go_at_call 26; refine cS.mono ?_; rintro e w' ⟨A, c, rfl, h1, h2, h3⟩))
  go_ret
  exact ⟨A, c, rfl, h1, hs0.trans h2, fun b hb => by have := h3 b hb; simp at this; omega⟩
end Go.Proofs.YtlimpepdelpogaaGreatDoor
