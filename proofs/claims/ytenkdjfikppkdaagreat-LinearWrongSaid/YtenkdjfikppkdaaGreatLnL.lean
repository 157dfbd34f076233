/-
  LinearWrong's walk. No conditions.
-/
import Derived.Test.YtenkdjfikppkdaaGreatLnK
import Derived.Test.YtenkdjfikppkdaaGreatHz
namespace Go.Proofs.YtenkdjfikppkdaaGreat
open Go.RowKit Go.Al
set_option linter.unusedVariables false

def badD (m : Int) : Dd := ⟨0, -1, 1099511627776, -1, -1, 0, ⟨2, ⟨0, (0, 0, 0), (0, 0, 0)⟩, ⟨2, 0, 9, 0, 9, 0, 0, 0, 0, 0⟩⟩, ⟨0, true, false, m, none, 0, []⟩⟩
theorem built_bad (m : Int) : Tryz.prog.built 45 [(1, .int .i64 (-1)), (2, .int .i64 1099511627776), (3, .int .i64 (-1)), (4, .int .i64 (-1)), (6, (.agg #[.int .i64 2, .int .i64 0, .int .i64 0, .int .i64 0, .int .i64 0, .int .i64 0, .int .i64 0, .int .i64 0, .int .i64 2, .int .i64 0, .int .i64 9, .int .i64 0, .int .i64 9, .int .i64 0, .int .i64 0, .int .i64 0, .int .i64 0, .int .i64 0])), (7, (.agg #[.int .i64 0, .bool true, .bool false, .int .i64 m, .slice none 0 0]))] = some (ddL (badD m)).toArray := by kernel_rfl

theorem step_bs1 {P : Program} {ops : Array Oper} {o : Oper} {a : Act} {w : World} {K : Act → World → Prop} {Q : Exit → Act → World → Prop} {E : Prop} (hg : o.guard = none) (t e : TypeId) (x : Operand) (ho : o.op = .buildSlice t 1 #[(0, x)])
    (cs : List Value) (hx : a.eval x = .agg cs.toArray) (z : Value) (n bytes : Nat) (hu : P.underlying t = some (.slice e)) (hi : (P.info? e).map (fun i => (i.zero, i.size, i.bytes)) = some (some z, n, bytes)) (hn : cs.length = n) (h0 : 0 < n) (hs : n ≤ 1000)
    (h : K (a.put o.dst (.slice (some ⟨w.heap.size, 0, none⟩) 1 1)) (w.alloc (.cells cs.toArray e))) : if Region.wanted o (yielded ops a.tmps) = true then Oper.wp P o a w K Q else E := by
  have hw : Region.wanted o (yielded ops a.tmps) = true := by simp [Region.wanted, hg]
  rw [if_pos hw]
  obtain ⟨ie, hie, hz, hsz, _⟩ := info_parts hi
  subst hsz
  refine wp_buildSlice t e 1 _ ho cs.toArray ie z hu hie hz (by omega) (by omega) ?_ h
  have h2 := Go.Great.fill_whole h0 [.agg cs.toArray] ((Array.range (1 * ie.size)).map (z.cells[· % z.cells.size]!)) (by intro v hv; simp at hv; subst hv; simpa [Value.cells] using hn) (by simp)
  have h3 : (((#[(0, x)] : Array (Nat × Operand)).map fun (i, x) => (i, a.eval x)).toList) = (([Value.agg cs.toArray].zipIdx 0).map fun x => (x.2, x.1)) := by simp [hx]
  have h4 : ([Value.agg cs.toArray].flatMap fun v => v.cells.toList).toArray = cs.toArray := by simp [Value.cells]
  rw [h3, h2, h4]

theorem ld_yields {P : Program} {op : Oper} {a : Act} {w : World} (ty : TypeId) (x : Operand) (ho : op.op = .load ty x) (b o : Nat) (hx : a.eval x = .pointer (some ⟨b, o, none⟩)) (cs : List Value) (d : TypeDesc) (hc : w.rangeAt b o cs)
    (hu : P.underlying ty = some d) (hd : d.isRow = true) (hi : (P.info? ty).map (·.size) = some cs.length) : (execOp a.eval op).run P w = .ok (.value (.agg cs.toArray)) w := by
  unfold execOp
  simp only [ho, hx, Instr.loadAt, Instr.sureAddr, Sem.run_bind, Sem.run_pure, Result.andThen_ok, run_loadVar_mid w b o ty cs d hc hu hd hi]
theorem strip_r {l m : List Dd} (h : l.map strip = m.map cutD) {P : Rq → Prop} (hm : ∀ d ∈ m, P d.r) : ∀ d ∈ l, P d.r := by
  intro d hd
  have h1 : strip d ∈ m.map cutD := by rw [← h]; exact List.mem_map.2 ⟨d, hd, rfl⟩
  obtain ⟨x, hx, he⟩ := List.mem_map.1 h1
  have h2 : d.r = x.r := by
    have := congrArg Dd.r he
    exact this.symm
  rw [h2]
  exact hm x hx
theorem strip_len {l m : List Dd} (h : l.map strip = m.map cutD) : l.length = m.length := by
  have := congrArg List.length h
  simpa using this

/-- what the search tells, over what the law has laid -/
theorem search_wrong {w : World} {base c n : Nat} {A : Option Addr} {l : List Dd} {bd : Dd} (hn : l.length + 1 = n) (h5 : l.length ≤ 5) (hw : Wrong bd) (hb : WfC bd.r.c) (hwf : ∀ d ∈ l, WfC d.r.c)
    (hown : w.ownsRow base 45 29 (.slice A n c) n (flatD l ++ ddL bd)) (hr : ∀ d ∈ l, RpAt w d.t) (hbl : ∀ d ∈ l, ∀ b, blkOf d.t.A = some b → b < w.heap.size) (hrb : RpAt w bd.t) (hAb : bd.t.A = none) :
    Calls Tryz.prog 6 #[.slice A n c, .int .i64 50] w fun e w' => e = .returned (.tuple #[.slice none 0 0, .int .i64 6]) ∧ Same w w' := by
  subst hn
  have hl : (l ++ [bd]).length = l.length + 1 := by simp
  have hown' : w.ownsRow base 45 29 (.slice A (l ++ [bd]).length c) (l ++ [bd]).length (flatD (l ++ [bd])) := by rw [hl, flatD_snoc]; exact hown
  have hr' : ∀ d ∈ l ++ [bd], RpAt w d.t := fun d hd => by
    rcases List.mem_append.1 hd with h | h
    · exact hr d h
    · simp at h; subst h; exact hrb
  have hf : found (l ++ [bd]) 50 = none := wrong_none (i := l.length) (by simp) (by simpa using hw) _ [] [] [] (by decide) rfl
  obtain ⟨A', c', hv, h1, _, _, _, _, _⟩ := own_form hown'
  cases hv
  rw [← hl]
  refine Search_bad 50 0 6 w fun w1 hs => ?_
  have h := find_any (c := c) (l := l ++ [bd]) 50 w1 (by decide) (by decide) ((dds_own hown' hr').same hs) (by rw [hl]; omega) h1 ⟨fun b hb => Nat.lt_of_lt_of_le (hown'.lt b (by rw [ownBlock_slice]; exact hb)).2 hs.size, fun d hd b hb' => ?_⟩ (fun d hd => ?_)
  · rw [hf] at h
    exact h
  · rcases List.mem_append.1 hd with h | h
    · exact Nat.lt_of_lt_of_le (hbl d h b hb') hs.size
    · simp at h; subst h; rw [hAb] at hb'; simp [blkOf] at hb'
  · rcases List.mem_append.1 hd with h | h
    · exact hwf d h
    · simp at h; subst h; exact hb

set_option maxRecDepth 100000 in
set_option maxHeartbeats 16000000 in
theorem linearWrong_any (a0 : Option Addr) (len0 cap0 : Nat) (l0 : List Dd) (n : Int) (w : World) (w0 : IsDeeds w a0 len0 cap0 l0) :
    Calls Tryz.prog 3 #[.slice a0 len0 cap0, .int .i64 n] w fun e w' => e = .returned (.bool true) ∧ Same w w' := by
  obtain ⟨hl, hd, hwf, hlc, hcm⟩ := w0
  subst hl
  have hF1 : Calls Tryz.prog 5 #[.slice a0 l0.length cap0, .int .i64 5] w (FewEnd w (l0.take 5)) := few_any 5 w hd (Nat.le_trans hlc hcm) (by decide)
  have HF1 := hide hF1
  have Hwf := hide hwf
  clear hF1 hd hwf
  have hB : ∃ bd : Dd, Wrong bd ∧ WfC bd.r.c ∧ bd.t.ids = [] ∧ bd.t.cp = 0 ∧ bd.t.A = none ∧ Tryz.prog.built 45 [(1, .int .i64 (-1)), (2, .int .i64 1099511627776), (3, .int .i64 (-1)), (4, .int .i64 (-1)), (6, (.agg #[.int .i64 2, .int .i64 0, .int .i64 0, .int .i64 0, .int .i64 0, .int .i64 0, .int .i64 0, .int .i64 0, .int .i64 2, .int .i64 0, .int .i64 9, .int .i64 0, .int .i64 9, .int .i64 0, .int .i64 0, .int .i64 0, .int .i64 0, .int .i64 0])), (7, (.agg #[.int .i64 0, .bool true, .bool false, .int .i64 (if n < 1 ∨ 1000000 < n then 177 else 100 + n), .slice none 0 0]))] = some (ddL bd).toArray :=
    ⟨badD _, ⟨by show (0 : Int) ≤ 1099511627776; decide, rfl, rfl, by show (50 : Int) < (if n < 1 ∨ 1000000 < n then 177 else 100 + n); split <;> omega⟩, ⟨by show (Lit.int .i64 (0 : Int)).wf = true; decide, by show (Lit.int .i64 (0 : Int)).wf = true; decide⟩, rfl, rfl, rfl, built_bad _⟩
  obtain ⟨bd, hw, hb, hbi, hbc, hbA, hbu⟩ := hB
  have Hw := hide hw
  have Hb := hide hb
  have HbA := hide hbA
  have Hrb := hide (fun w' => rpAt_nil w' (t := bd.t) hbi (by rw [hbc]; exact Nat.zero_le _))
  have HLl := hide (ddL_length bd)
  have HLo := hide (one_ddL bd)
  obtain ⟨Lb, hLb⟩ : ∃ L, ddL bd = L := ⟨_, rfl⟩
  rw [hLb] at HLl HLo hbu
  have HL := hide hLb
  clear hw hb hbi hbc hbA hLb
  have hcase : (n < 1 ∧ (if n < 1 ∨ 1000000 < n then 177 else 100 + n) = 177) ∨ (1 ≤ n ∧ 1000000 < n ∧ (if n < 1 ∨ 1000000 < n then 177 else 100 + n) = 177) ∨ (1 ≤ n ∧ n ≤ 1000000 ∧ (if n < 1 ∨ 1000000 < n then 177 else 100 + n) = 100 + n) := by
    by_cases h1 : n < 1
    · exact .inl ⟨h1, by rw [if_pos (.inl h1)]⟩
    · by_cases h2 : 1000000 < n
      · exact .inr (.inl ⟨by omega, h2, by rw [if_pos (.inr h2)]⟩)
      · exact .inr (.inr ⟨by omega, by omega, by rw [if_neg (by omega)]⟩)
  rcases hcase with ⟨h1, h2⟩ | ⟨h1, h3, h2⟩ | ⟨h1, h3, h2⟩
  all_goals
    rw [h2] at hbu
    have Hbu := hide hbu
    clear hbu h2
    go_enter Tryz.func3, Tryz.ntmps3
    go_wp2_with (first
      | (go_at_call 5; have hF := HF1.out; refine hF.mono ?_; rintro e w1 hE; obtain ⟨A1, c1, l1, rfl, hown1, hrp1, hbl1, hmap1, hs1⟩ := hE; have Hs1 := hide hs1; have Hm1 := hide hmap1; have hl5 : l1.length ≤ 5 := (by rw [strip_len hmap1, List.length_take]; omega); have Hl5 := hide hl5; have HD1 := hide (dds_own hown1 hrp1); have HF2 : Hid (∀ w', Same w1 w' → Calls Tryz.prog 5 #[.slice A1 l1.length c1, .int .i64 5] w' (FewEnd w' (l1.take 5))) := hide (fun w' hs => few_any 5 w' ((dds_own hown1 hrp1).same hs) (Nat.le_trans hl5 (by decide)) (by decide)); clear hF hs1 hmap1 hown1 hrp1 hbl1 hl5; generalize l1.length = n1 at *)
      | (refine wpList_buildTo (by rfl) 45 _ (by rfl) (some 23) rfl Lb.toArray (by rw [Array.toList_map]; exact Hbu.out) ?_)
      | (refine wpList_st (by rfl) 45 _ _ rfl rfl Lb rfl _ _ (by rw [HLl.out]; exact infoDeed) (by rw [HLl.out]; rfl) HLo.out ?_))
    have hr0 : (w1.alloc (.cells Lb.toArray 45)).rangeAt w1.heap.size 0 Lb := fun j v hv => by rw [Nat.zero_add, (Blk.new w1 45 Lb.toArray).cell]; simpa using hv
    have hs0 : Same w1 (w1.alloc (.cells Lb.toArray 45)) := (Chg.refl _ w1).alloc _
    obtain ⟨g, hg⟩ : ∃ g, w1.heap.size = g := ⟨_, rfl⟩
    obtain ⟨W, hW⟩ : ∃ W, W = w1.alloc (.cells Lb.toArray 45) := ⟨_, rfl⟩
    rw [hg, ← hW] at hr0
    rw [← hW] at hs0
    rw [hg, ← hW]
    have Hs0 := hide hs0
    have Hr0 := hide hr0
    clear hW hr0 hs0 hg
    refine wp_region_heldZ (fun w' => w'.rangeAt g 0 Lb) 10 (by kernel_rfl) ?_
    have hS0 : W.drew.rangeAt g 0 Lb := Hr0.out
    have Hd := hide ((Chg.refl (fun _ => False) W).drew)
    refine wpAnyZ_take (i := 0) (v := ?_) (List.getElem?_toArray.trans rfl) (by kernel_rfl) (by kernel_rfl) (by kernel_rfl) (by kernel_rfl) (fun _ _ _ h => h) (Or.inl ⟨by rfl, ?_⟩) hS0 ?_
    rotate_left
    · intro w hSw
      try dsimp only at hSw
      go_simp
      try with_reducible rfl
    try simp only [Act.put, List.setIfInBounds_toArray, List.set_cons_zero, List.set_cons_succ]
    refine wpAnyZ_take (i := 2) (v := .agg Lb.toArray) (List.getElem?_toArray.trans rfl) (by kernel_rfl) (by kernel_rfl) (by kernel_rfl) (by kernel_rfl) (fun _ _ _ h => h) (Or.inl ⟨by rfl, ?_⟩) hS0 ?_

    · intro w hSw
      try dsimp only at hSw
      exact ld_yields 45 _ (by rfl) g 0 (by rfl) Lb _ hSw Tryz.underlying45 rfl (by rw [HLl.out]; exact infoDeed)
      try with_reducible rfl
    try simp only [Act.put, List.setIfInBounds_toArray, List.set_cons_zero, List.set_cons_succ]
    refine wpAnyZ_two (i := 1) (j := 3) (by kernel_rfl) (List.getElem?_toArray.trans rfl) (List.getElem?_toArray.trans rfl) (fun K' hK => ?_) (fun K' hK => ?_)
    · go_simp
      go_wp2_with (go_at_call 5; have hF := HF2.out W.drew (Same.trans Hs0.out Hd.out); refine hF.mono ?_; rintro e w3 hE; obtain ⟨A2, c2, l2, rfl, hown2, hrp2, hbl2, hmap2, hs2⟩ := hE; clear hF)
      have hsw : Same W w3 := Same.trans Hd.out hs2
      refine hK _ _ (fun _ => rangeAt_same Hr0.out hsw) ?_
      try simp only [Act.put, List.setIfInBounds_toArray, List.set_cons_zero, List.set_cons_succ]
      clear hK
      refine wpAnyZ_one (i := 3) (by kernel_rfl) (List.getElem?_toArray.trans rfl) (fun K' hK => ?_)
      refine step_bs1 (by rfl) 22 45 _ rfl Lb rfl _ 29 240 Tryz.underlying22 infoD3 HLl.out (by decide) (by decide) ?_
      have Hsc := hide (hsw.alloc (.cells Lb.toArray 45))
      refine hK _ _ (fun _ => rangeAt_same Hr0.out Hsc.out) ?_
      try simp only [Act.put, List.setIfInBounds_toArray, List.set_cons_zero, List.set_cons_succ]
      clear hK
      have Hrp2 := hide (fun d hd => (hrp2 d hd).same ((Chg.refl (fun _ => False) w3).alloc (.cells Lb.toArray 45)))
      have Hl2 := hide (show l2.length ≤ 5 by rw [strip_len hmap2, List.length_take]; omega)
      have Hwf2 := hide (fun d hd => strip_r (P := fun r => WfC r.c) hmap2 (fun d hd => strip_r (P := fun r => WfC r.c) Hm1.out (fun d hd => Hwf.out d (List.mem_of_mem_take hd)) d (List.mem_of_mem_take hd)) d hd)
      have Hown2 := hide (hown2.alloc (.cells Lb.toArray 45))
      have Hxr := hide (rd_lit w3 Lb.toArray 45 (0, 0) Lb (by simp))
      have Hfr := hide (fun k e => (hown2.lt k (by rw [ownBlock_slice]; exact e)).1)
      have Hbs := hide (show W.drew.heap.size ≤ (w3.alloc (.cells Lb.toArray 45)).heap.size by have := hs2.size; simp; simp at this; omega)
      have Hbl2 := hide (fun d hd b hb => And.intro (show b < (w3.alloc (.cells Lb.toArray 45)).heap.size by have := (hbl2 d hd b hb).2.1; simp; omega) (hbl2 d hd b hb).2.2)
      clear hown2 hrp2 hbl2 hmap2 hs2 hsw
      refine wpAnyZ_one (i := 4) (by kernel_rfl) (List.getElem?_toArray.trans rfl) (fun K' hK => ?_)
      refine step_appS (by rfl) (.tmp 26) (.tmp 28) _ (by rfl) slD (by rfl) (by exact Hown2.out) (by rfl) (show Lb.length = 1 * 29 from by rw [HLl.out]) (by exact Hxr.out) HLo.out (by have := Hl2.out; omega) (by have := Hl2.out; omega) (by exact Hbs.out) ?_
      intro A4 c4 w4 hown4 hchg4 hat4
      have Hown4 := hide hown4
      have hf4 : Chg (fun k => W.heap.size ≤ k) W w4 := (Same.to Hsc.out).trans hchg4 (fun k _ e => Hfr.out k e)
      have hs4 : Same W w4 := Chg.fresh hf4 (fun _ h => h)
      have Hs4 := hide hs4
      have Hrp4 := hide (fun d hd => (Hrp2.out d hd).keep ((Hrp2.out d hd).rd.chg hchg4 (fun b hb _ e => (Hbl2.out d hd b hb).2 e)))
      have Hbl4 := hide (fun d hd b hb => Nat.lt_of_lt_of_le (Hbl2.out d hd b hb).1 hchg4.size)
      clear hown4 hchg4 hat4 hf4
      refine hK _ _ (fun _ => rangeAt_same Hr0.out Hs4.out) ?_
      try simp only [Act.put, List.setIfInBounds_toArray, List.set_cons_zero, List.set_cons_succ]
      clear hK hs4
      refine wpAnyZ_one (i := 5) (by kernel_rfl) (List.getElem?_toArray.trans rfl) (fun K' hK => ?_)
      go_simp
      go_wp2_with (go_at_call 6; have hF := search_wrong (w := w4) (A := A4) (c := c4) (n := l2.length + 1) rfl Hl2.out Hw.out Hb.out Hwf2.out (by rw [HL.out]; exact Hown4.out) Hrp4.out Hbl4.out (Hrb.out w4) HbA.out; refine hF.mono ?_; rintro e w5 ⟨rfl, hs5⟩; have Hs5 := hide (Same.trans Hs4.out hs5); clear hF hs5)
      refine hK _ _ (fun _ => rangeAt_same Hr0.out Hs5.out) ?_
      try simp only [Act.put, List.setIfInBounds_toArray, List.set_cons_zero, List.set_cons_succ]
      clear hK hS0
      have hS0 := rangeAt_same Hr0.out Hs5.out
      refine wpAnyZ_take (i := 6) (v := ?_) (List.getElem?_toArray.trans rfl) (by kernel_rfl) (by kernel_rfl) (by kernel_rfl) (by kernel_rfl) (fun _ _ _ h => h) (Or.inl ⟨by rfl, ?_⟩) hS0 ?_
      rotate_left
      · intro w hSw
        try dsimp only at hSw
        go_simp
        try with_reducible rfl
      try simp only [Act.put, List.setIfInBounds_toArray, List.set_cons_zero, List.set_cons_succ]
      refine wpAnyZ_take (i := 7) (v := ?_) (List.getElem?_toArray.trans rfl) (by kernel_rfl) (by kernel_rfl) (by kernel_rfl) (by kernel_rfl) (fun _ _ _ h => h) (Or.inl ⟨by rfl, ?_⟩) hS0 ?_
      rotate_left
      · intro w hSw
        try dsimp only at hSw
        go_simp
        try with_reducible rfl
      try simp only [Act.put, List.setIfInBounds_toArray, List.set_cons_zero, List.set_cons_succ]
      refine wpAnyZ_take (i := 8) (v := ?_) (List.getElem?_toArray.trans rfl) (by kernel_rfl) (by kernel_rfl) (by kernel_rfl) (by kernel_rfl) (fun _ _ _ h => h) (Or.inl ⟨by rfl, ?_⟩) hS0 ?_
      rotate_left
      · intro w hSw
        try dsimp only at hSw
        go_simp
        try with_reducible rfl
      try simp only [Act.put, List.setIfInBounds_toArray, List.set_cons_zero, List.set_cons_succ]
      refine wpAnyZ_one (i := 9) (by kernel_rfl) (List.getElem?_toArray.trans rfl) (fun K' hK => ?_)
      go_simp
      refine hK _ _ (fun _ => hS0) ?_
      try simp only [Act.put, List.setIfInBounds_toArray, List.set_cons_zero, List.set_cons_succ]
      clear hK
      refine wpAnyZ_one (i := 10) (by kernel_rfl) (List.getElem?_toArray.trans rfl) (fun K' hK => ?_)
      go_simp
      refine hK _ _ (fun h => absurd rfl h) ?_
      try simp only [Act.put, List.setIfInBounds_toArray, List.set_cons_zero, List.set_cons_succ]
      clear hK hS0
      refine wpAnyZ_done (by kernel_rfl) (NoPanic.normal ?_) _
      go_wp2_with (go_at_call 7; refine (lives_any _).mono ?_; rintro e w6 ⟨rfl, hs6⟩; have Hs6 := hide hs6; clear hs6)
      go_ret
      exact ⟨rfl, Same.trans Hs1.out (Same.trans Hs0.out (Same.trans Hs5.out Hs6.out))⟩
    · refine step_bs1 (by rfl) 22 45 _ rfl Lb rfl _ 29 240 Tryz.underlying22 infoD3 HLl.out (by decide) (by decide) ?_
      have hs9 : Same W (W.drew.alloc (.cells Lb.toArray 45)) := Hd.out.alloc (.cells Lb.toArray 45)
      refine hK _ _ (fun _ => rangeAt_same Hr0.out hs9) ?_
      try simp only [Act.put, List.setIfInBounds_toArray, List.set_cons_zero, List.set_cons_succ]
      clear hK
      refine wpAnyZ_one (i := 1) (by kernel_rfl) (List.getElem?_toArray.trans rfl) (fun K' hK => ?_)
      go_simp
      go_wp2_with (go_at_call 5; have hF := HF2.out (W.drew.alloc (.cells Lb.toArray 45)) (Same.trans Hs0.out hs9); refine hF.mono ?_; rintro e w3 hE; obtain ⟨A2, c2, l2, rfl, hown2, hrp2, hbl2, hmap2, hs2⟩ := hE; clear hF)
      have Hsc := hide (Same.trans hs9 hs2)
      refine hK _ _ (fun _ => rangeAt_same Hr0.out Hsc.out) ?_
      try simp only [Act.put, List.setIfInBounds_toArray, List.set_cons_zero, List.set_cons_succ]
      clear hK
      have Hrp2 := hide hrp2
      have Hl2 := hide (show l2.length ≤ 5 by rw [strip_len hmap2, List.length_take]; omega)
      have Hwf2 := hide (fun d hd => strip_r (P := fun r => WfC r.c) hmap2 (fun d hd => strip_r (P := fun r => WfC r.c) Hm1.out (fun d hd => Hwf.out d (List.mem_of_mem_take hd)) d (List.mem_of_mem_take hd)) d hd)
      have Hown2 := hide hown2
      have Hxr := hide ((rd_lit W.drew Lb.toArray 45 (0, 0) Lb (by simp)).same hs2)
      have Hfr := hide (fun k e => Nat.le_trans hs9.size (hown2.lt k (by rw [ownBlock_slice]; exact e)).1)
      have Hbs := hide hs2.size
      have Hbl2 := hide (fun d hd b hb => And.intro (hbl2 d hd b hb).2.1 (hbl2 d hd b hb).2.2)
      clear hown2 hrp2 hbl2 hmap2 hs2 hs9
      refine wpAnyZ_one (i := 4) (by kernel_rfl) (List.getElem?_toArray.trans rfl) (fun K' hK => ?_)
      refine step_appS (by rfl) (.tmp 26) (.tmp 28) _ (by rfl) slD (by rfl) (by exact Hown2.out) (by rfl) (show Lb.length = 1 * 29 from by rw [HLl.out]) (by exact Hxr.out) HLo.out (by have := Hl2.out; omega) (by have := Hl2.out; omega) (by exact Hbs.out) ?_
      intro A4 c4 w4 hown4 hchg4 hat4
      have Hown4 := hide hown4
      have hf4 : Chg (fun k => W.heap.size ≤ k) W w4 := (Same.to Hsc.out).trans hchg4 (fun k _ e => Hfr.out k e)
      have hs4 : Same W w4 := Chg.fresh hf4 (fun _ h => h)
      have Hs4 := hide hs4
      have Hrp4 := hide (fun d hd => (Hrp2.out d hd).keep ((Hrp2.out d hd).rd.chg hchg4 (fun b hb _ e => (Hbl2.out d hd b hb).2 e)))
      have Hbl4 := hide (fun d hd b hb => Nat.lt_of_lt_of_le (Hbl2.out d hd b hb).1 hchg4.size)
      clear hown4 hchg4 hat4 hf4
      refine hK _ _ (fun _ => rangeAt_same Hr0.out Hs4.out) ?_
      try simp only [Act.put, List.setIfInBounds_toArray, List.set_cons_zero, List.set_cons_succ]
      clear hK hs4
      refine wpAnyZ_one (i := 5) (by kernel_rfl) (List.getElem?_toArray.trans rfl) (fun K' hK => ?_)
      go_simp
      go_wp2_with (go_at_call 6; have hF := search_wrong (w := w4) (A := A4) (c := c4) (n := l2.length + 1) rfl Hl2.out Hw.out Hb.out Hwf2.out (by rw [HL.out]; exact Hown4.out) Hrp4.out Hbl4.out (Hrb.out w4) HbA.out; refine hF.mono ?_; rintro e w5 ⟨rfl, hs5⟩; have Hs5 := hide (Same.trans Hs4.out hs5); clear hF hs5)
      refine hK _ _ (fun _ => rangeAt_same Hr0.out Hs5.out) ?_
      try simp only [Act.put, List.setIfInBounds_toArray, List.set_cons_zero, List.set_cons_succ]
      clear hK hS0
      have hS0 := rangeAt_same Hr0.out Hs5.out
      refine wpAnyZ_take (i := 6) (v := ?_) (List.getElem?_toArray.trans rfl) (by kernel_rfl) (by kernel_rfl) (by kernel_rfl) (by kernel_rfl) (fun _ _ _ h => h) (Or.inl ⟨by rfl, ?_⟩) hS0 ?_
      rotate_left
      · intro w hSw
        try dsimp only at hSw
        go_simp
        try with_reducible rfl
      try simp only [Act.put, List.setIfInBounds_toArray, List.set_cons_zero, List.set_cons_succ]
      refine wpAnyZ_take (i := 7) (v := ?_) (List.getElem?_toArray.trans rfl) (by kernel_rfl) (by kernel_rfl) (by kernel_rfl) (by kernel_rfl) (fun _ _ _ h => h) (Or.inl ⟨by rfl, ?_⟩) hS0 ?_
      rotate_left
      · intro w hSw
        try dsimp only at hSw
        go_simp
        try with_reducible rfl
      try simp only [Act.put, List.setIfInBounds_toArray, List.set_cons_zero, List.set_cons_succ]
      refine wpAnyZ_take (i := 8) (v := ?_) (List.getElem?_toArray.trans rfl) (by kernel_rfl) (by kernel_rfl) (by kernel_rfl) (by kernel_rfl) (fun _ _ _ h => h) (Or.inl ⟨by rfl, ?_⟩) hS0 ?_
      rotate_left
      · intro w hSw
        try dsimp only at hSw
        go_simp
        try with_reducible rfl
      try simp only [Act.put, List.setIfInBounds_toArray, List.set_cons_zero, List.set_cons_succ]
      refine wpAnyZ_one (i := 9) (by kernel_rfl) (List.getElem?_toArray.trans rfl) (fun K' hK => ?_)
      go_simp
      refine hK _ _ (fun _ => hS0) ?_
      try simp only [Act.put, List.setIfInBounds_toArray, List.set_cons_zero, List.set_cons_succ]
      clear hK
      refine wpAnyZ_one (i := 10) (by kernel_rfl) (List.getElem?_toArray.trans rfl) (fun K' hK => ?_)
      go_simp
      refine hK _ _ (fun h => absurd rfl h) ?_
      try simp only [Act.put, List.setIfInBounds_toArray, List.set_cons_zero, List.set_cons_succ]
      clear hK hS0
      refine wpAnyZ_done (by kernel_rfl) (NoPanic.normal ?_) _
      go_wp2_with (go_at_call 7; refine (lives_any _).mono ?_; rintro e w6 ⟨rfl, hs6⟩; have Hs6 := hide hs6; clear hs6)
      go_ret
      exact ⟨rfl, Same.trans Hs1.out (Same.trans Hs0.out (Same.trans Hs5.out Hs6.out))⟩
end Go.Proofs.YtenkdjfikppkdaaGreat
