/-
  A slice of operations that came in; the law's own lives. No conditions.
-/
import Derived.Test.YtenkdjfikppkdaaGreatLnJ
import Derived.Test.YtenkdjfikppkdaaGreatDdIn
import Derived.Great.BuildSlice
namespace Go.Proofs.YtenkdjfikppkdaaGreat
open Go.RowKit Go.Al Go.ChangeShapes Go.WideShapes
set_option linter.unusedVariables false

def IsDeeds (w : World) (a : Option Addr) (len cap : Nat) (l : List Dd) : Prop := l.length = len ∧ Dds w a l ∧ (∀ d ∈ l, WfC d.r.c) ∧ len ≤ cap ∧ cap ≤ maxLen
theorem open_deeds {H : Type} {enc : TypeId × Value → H} {w : World} {base fuel : Nat} {spare : Nat → Bool} {held : Bool} {a : Option Addr} {len cap : Nat} {x : DataW H × List MemPlace}
    (h : DataW.trod enc Tryz.prog w base spare held fuel 22 [.slice a len cap] = some x) : ∃ l, IsDeeds w a len cap l := by
  rcases Deep.open_slice Tryz.underlying22 h with ⟨h0, _⟩ | ⟨A, l, c, m, n, D, Pl, hcs, _, hl, hm, hmm, _, hx⟩
  · simp at h0
    obtain ⟨rfl, rfl, rfl⟩ := h0
    exact ⟨[], rfl, ⟨fun h => absurd rfl h, by simp⟩, by simp, Nat.le_refl _, Nat.zero_le _⟩
  · simp at hcs
    obtain ⟨rfl, rfl, rfl⟩ := hcs
    have hlm : len ≤ m := by rw [hmm]; split <;> omega
    have each : ∀ i, ∃ d : Dd, i < len → WfCg d.r.c ∧ RpAt w d.t ∧ ∀ j v, (ddL d)[j]? = some v → w.cell? (A.add (i * 29 + j)) = some v := fun i => by
      by_cases hi : i < len
      · obtain ⟨cs', h1, h2⟩ := hx i (Nat.lt_of_lt_of_le hi hlm)
        rw [show Tryz.prog.cellsOf 45 = 29 by kernel_rfl] at h1
        obtain ⟨_, hlen, hcell⟩ := World.cells?_some h1
        obtain ⟨d, rfl, hw, hr⟩ := trod_deed h2
        refine ⟨d, fun _ => ⟨hw, hr, fun j v hv => ?_⟩⟩
        have hj := (List.getElem?_eq_some_iff.1 hv).1
        have := hcell j (by rw [ddL_length] at hj; exact hj)
        rw [Deep.add_add] at this
        rw [this]
        first | exact hv | (rw [← hv, List.getElem?_eq_getElem hj])
      · exact ⟨addD, fun h => absurd h hi⟩
    obtain ⟨f, hf⟩ := Classical.skolem.1 each
    refine ⟨(List.range len).map f, by simp, ⟨fun hne => ?_, ?_⟩, ?_, hl, hm⟩
    · have h0 : 0 < len := by
        rcases Nat.eq_zero_or_pos len with e | e
        · subst e; simp at hne
        · exact e
      have hz := (hf 0 h0).2.2 0 _ (show (ddL (f 0))[0]? = some (.int .i64 (f 0).iv) from rfl)
      have hlt := World.block_lt_of_cell? w _ hz
      obtain ⟨xb, xo, xs⟩ := A
      have hs : xs = none := by simpa [Addr.add] using World.cell?_spot hz
      subst hs
      rw [add_lit] at hlt
      refine ⟨xb, xo, rfl, hlt, fun i hi j v hv => ?_⟩
      have hi' : i < len := by simpa using hi
      have hv' : (ddL (f i))[j]? = some v := by simpa using hv
      have := (hf i hi').2.2 j v hv'
      rw [add_lit] at this
      rw [← this, ← Nat.add_assoc]
    · intro d hd
      obtain ⟨i, hi, rfl⟩ := List.mem_map.1 hd
      exact (hf i (List.mem_range.1 hi)).2.1
    · intro d hd
      obtain ⟨i, hi, rfl⟩ := List.mem_map.1 hd
      have := (hf i (List.mem_range.1 hi)).1
      exact ⟨this.2.1.1, this.2.2.1⟩

theorem wpList_bs2 {P : Program} {ops : Array Oper} {rest : List Oper} {o : Oper} {a : Act} {w : World} {Q : Exit → Act → World → Prop} (hg : o.guard = none) (t e : TypeId) (x y : Operand) (ho : o.op = .buildSlice t 2 #[(0, x), (1, y)])
    (cs ds : List Value) (hx : a.eval x = .agg cs.toArray) (hy : a.eval y = .agg ds.toArray) (z : Value) (n bytes : Nat) (hu : P.underlying t = some (.slice e)) (hi : (P.info? e).map (fun i => (i.zero, i.size, i.bytes)) = some (some z, n, bytes)) (hn : cs.length = n) (hn2 : ds.length = n) (h0 : 0 < n) (hs : n ≤ 1000)
    (h : wpList P ops Q rest (a.put o.dst (.slice (some ⟨w.heap.size, 0, none⟩) 2 2)) (w.alloc (.cells (cs ++ ds).toArray e))) : wpList P ops Q (o :: rest) a w := by
  obtain ⟨ie, hie, hz, hsz, _⟩ := info_parts hi
  subst hsz
  refine wpList_buildSlice hg t e 2 _ ho (cs ++ ds).toArray ie z hu hie hz (by omega) (by omega) ?_ h
  have h2 := Go.Great.fill_whole h0 [.agg cs.toArray, .agg ds.toArray] ((Array.range (2 * ie.size)).map (z.cells[· % z.cells.size]!)) (by intro v hv; simp at hv; rcases hv with rfl | rfl; simpa [Value.cells] using hn; simpa [Value.cells] using hn2) (by simp)
  have h3 : (((#[(0, x), (1, y)] : Array (Nat × Operand)).map fun (i, x) => (i, a.eval x)).toList) = (([Value.agg cs.toArray, Value.agg ds.toArray].zipIdx 0).map fun x => (x.2, x.1)) := by simp [hx, hy]
  have h4 : ([Value.agg cs.toArray, Value.agg ds.toArray].flatMap fun v => v.cells.toList).toArray = (cs ++ ds).toArray := by simp [Value.cells]
  rw [h3, h2, h4]

set_option maxHeartbeats 1000000 in
theorem Must_is (d : Dd) (w : World) (v : Bool) (h : mustD d = v) :
    Calls Tryz.prog 14 #[ddV d] w fun e w' => e = .returned (.bool v) ∧ Same w w' := by
  have hb := blk_deed w 45 d
  have HM := hide (fun w' => must_is d w' v h)
  have Hs := hide ((Chg.refl (fun _ => False) w).alloc (.cells (ddL d).toArray 45))
  have Hlen := hide (ddL_length d)
  unfold ddV at HM ⊢
  generalize ddL d = L at *
  have Hb := hide hb
  clear hb
  go_enter Tryz.func14, Tryz.ntmps14
  go_wp2_with (first
    | (refine wpList_ld (by rfl) 45 _ rfl w.heap.size 0 rfl L _ Hb.out Tryz.underlying45 rfl (by rw [Hlen.out]; exact infoDeed) ?_)
    | (go_at_call 29; have hF := HM.out (w.alloc (.cells L.toArray 45)); refine hF.mono ?_; rintro e w2 ⟨rfl, hw2⟩; have Hw2 := hide hw2; clear hF hw2))
  go_ret
  exact ⟨rfl, Same.trans Hs.out Hw2.out⟩

theorem built_add : Tryz.prog.built 45 [(1, .int .i64 (-1)), (2, .int .i64 3), (3, .int .i64 (-1)), (4, .int .i64 (-1)), (6, (.agg #[.int .i64 1, .int .i64 1, .int .i64 1, .int .i64 0, .int .i64 0, .int .i64 0, .int .i64 0, .int .i64 0, .int .i64 0, .int .i64 0, .int .i64 0, .int .i64 0, .int .i64 0, .int .i64 0, .int .i64 0, .int .i64 0, .int .i64 0, .int .i64 0]))] = some (ddL addD).toArray := by kernel_rfl
theorem built_ask : Tryz.prog.built 45 [(1, .int .i64 (-1)), (2, .int .i64 2), (3, .int .i64 (-1)), (4, .int .i64 (-1)), (6, (.agg #[.int .i64 2, .int .i64 0, .int .i64 0, .int .i64 0, .int .i64 0, .int .i64 0, .int .i64 0, .int .i64 0, .int .i64 2, .int .i64 0, .int .i64 0, .int .i64 0, .int .i64 0, .int .i64 0, .int .i64 0, .int .i64 0, .int .i64 0, .int .i64 0])), (7, (.agg #[.int .i64 0, .bool true, .bool false, .int .i64 1, .slice none 0 0]))] = some (ddL askD).toArray := by kernel_rfl
theorem rpAt_nil (w : World) {t : Rp} (h : t.ids = []) (hc : t.cp ≤ maxLen) : RpAt w t := ⟨by rw [h]; exact Rd.nil _ _, by rw [h]; exact Nat.zero_le _, hc⟩
/-- two operations, laid one behind the other -/
theorem two_dds {w : World} {g : Nat} (a b : Dd) (h : Blk w g 45 (ddL a ++ ddL b).toArray) (ha : RpAt w a.t) (hb : RpAt w b.t) : Dds w (some ⟨g, 0, none⟩) [a, b] := by
  refine ⟨fun _ => ⟨g, 0, rfl, h.lt, fun i hi => ?_⟩, fun d hd => ?_⟩
  · have hi2 : i = 0 ∨ i = 1 := by simp at hi; omega
    rcases hi2 with rfl | rfl
    · have := rangeAt_blk [] (ddL a) (ddL b) (by simpa using h)
      simpa using this
    · have := rangeAt_blk (ddL a) (ddL b) [] (by simpa using h)
      rw [ddL_length] at this
      simpa using this
  · simp at hd
    rcases hd with rfl | rfl
    · exact ha
    · exact hb
theorem search_two (w : World) : Calls Tryz.prog 6 #[.slice (some ⟨w.heap.size, 0, none⟩) 2 2, .int .i64 5] (w.alloc (.cells (ddL askD ++ ddL addD).toArray 45)) fun e w' => ∃ A' c', e = .returned (.tuple #[.slice A' 2 c', .int .i64 0]) ∧ Rd w' A' (is [1, 0]) ∧ Same (w.alloc (.cells (ddL askD ++ ddL addD).toArray 45)) w' := by
  have h := Search_any (c := 2) (l := [askD, addD]) (A := some ⟨w.heap.size, 0, none⟩) 5 (w.alloc (.cells (ddL askD ++ ddL addD).toArray 45)) (by decide) (by decide) (two_dds askD addD (Blk.new _ _ _) (rpAt_nil _ rfl (Nat.zero_le _)) (rpAt_nil _ rfl (Nat.zero_le _))) (by decide) (by decide) ⟨fun b hb => by simp [blkOf] at hb; subst hb; simp, fun d hd b hb => by simp at hd; rcases hd with rfl | rfl <;> simp [blkOf, askD, addD] at hb⟩ (fun d hd => by simp at hd; rcases hd with rfl | rfl <;> exact ⟨by decide, by decide⟩)
  have hf : found [askD, addD] 5 = some [1, 0] := lives_found
  rw [hf] at h
  exact h

set_option maxRecDepth 100000 in
set_option maxHeartbeats 16000000 in
theorem lives_any (w : World) :
    Calls Tryz.prog 7 #[] w fun e w' => e = .returned (.bool true) ∧ Same w w' := by
  have hb1 : (w.alloc (.cells (ddL addD).toArray 45)).rangeAt w.heap.size 0 (ddL addD) := blk_deed w _ addD
  have hb2 := blk_deed (w.alloc (.cells (ddL addD).toArray 45)) 45 askD
  simp only [World.size_alloc] at hb2
  have hs1 : Same w (w.alloc (.cells (ddL addD).toArray 45)) := (Chg.refl _ _).alloc _
  have hs2 : Same (w.alloc (.cells (ddL addD).toArray 45)) ((w.alloc (.cells (ddL addD).toArray 45)).alloc (.cells (ddL askD).toArray 45)) := (Chg.refl _ _).alloc _
  have hb3 := rangeAt_same hb1 hs2
  have hS := search_two ((w.alloc (.cells (ddL addD).toArray 45)).alloc (.cells (ddL askD).toArray 45))
  simp only [World.size_alloc] at hS
  have HS := hide hS
  have hs3 : Same w (((w.alloc (.cells (ddL addD).toArray 45)).alloc (.cells (ddL askD).toArray 45)).alloc (.cells (ddL askD ++ ddL addD).toArray 45)) := (Same.trans hs1 hs2).alloc _
  have Hb4 := hide (rangeAt_same hb3 ((Chg.refl (fun _ => False) _).alloc (.cells (ddL askD ++ ddL addD).toArray 45)))
  have Hs3 := hide hs3
  have Hb2 := hide hb2
  have Hb3 := hide hb3
  clear hb1 hb2 hs1 hs2 hb3 hS hs3
  have HM := hide (fun w' => Must_is addD w' true rfl)
  unfold ddV at HM
  have HB1 := hide built_add
  have HB2 := hide built_ask
  have Hl1 := hide (ddL_length addD)
  have Hl2 := hide (ddL_length askD)
  have Ho1 := hide (one_ddL addD)
  have Ho2 := hide (one_ddL askD)
  generalize ddL addD = L1 at *
  generalize ddL askD = L2 at *
  go_enter Tryz.func7, Tryz.ntmps7
  go_upto_region 2 with (first
    | (refine wpList_buildTo (by rfl) 45 _ (by rfl) (some 8) rfl L1.toArray (by rw [Array.toList_map]; exact HB1.out) ?_)
    | (refine wpList_st (by rfl) 45 _ _ rfl (by rfl) L1 rfl _ _ (by rw [Hl1.out]; exact infoDeed) (by rw [Hl1.out]; rfl) Ho1.out ?_))
  go_upto_region 3 with (first
    | (refine wpList_buildTo (by rfl) 45 _ (by rfl) (some 13) rfl L2.toArray (by rw [Array.toList_map]; exact HB2.out) ?_)
    | (refine wpList_st (by rfl) 45 _ _ rfl (by show Value.pointer (some ⟨w.heap.size + 1, 0, none⟩) = _; rw [World.size_alloc]) L2 rfl _ _ (by rw [Hl2.out]; exact infoDeed) (by rw [Hl2.out]; rfl) Ho2.out ?_))
  go_wp2_with (first
    | (refine wpList_ld (by rfl) 45 _ rfl (w.heap.size + 1) 0 rfl L2 _ Hb2.out Tryz.underlying45 rfl (by rw [Hl2.out]; exact infoDeed) ?_)
    | (refine wpList_ld (by rfl) 45 _ rfl w.heap.size 0 rfl L1 _ Hb3.out Tryz.underlying45 rfl (by rw [Hl1.out]; exact infoDeed) ?_)
    | (refine wpList_bs2 (by rfl) 22 45 _ _ rfl L2 L1 rfl rfl _ 29 240 Tryz.underlying22 infoD3 Hl2.out Hl1.out (by decide) (by decide) ?_)
    | (go_at_call 6; have hF := HS.out; refine hF.mono ?_; rintro e w2 ⟨A', c', rfl, hr, hs⟩; obtain ⟨b, off, rfl, hcell⟩ := hr.at_ (i := 0) (by decide); have hc0 : w2.cell? ⟨b, off, none⟩ = some (.int .i64 1) := (by simpa [is] using hcell); have Hb5 := hide (rangeAt_same Hb4.out hs); have Hs5 := hide (Same.trans Hs3.out hs); clear hF hr hs hcell)
    | (refine wpList_ld (by rfl) 45 _ rfl w.heap.size 0 rfl L1 _ Hb5.out Tryz.underlying45 rfl (by rw [Hl1.out]; exact infoDeed) ?_)
    | (go_at_call 14; have hF := HM.out; refine (hF _).mono ?_; rintro e w3 ⟨rfl, hs⟩; have Hs6 := hide hs; clear hF hs))
  go_ret
  exact ⟨rfl, Same.trans Hs5.out Hs6.out⟩
end Go.Proofs.YtenkdjfikppkdaaGreat
