/-
  script.reader: words one by one; numbers among them. No conditions.
  script.writer: a word, a number. Condition: not too many words.
  script.reader.int: a word taken for a number. Conditions: the two errors of Go's library are laid; a word of a sound length.
  script.words, script.requests; reader.int at no word. Condition: the table of white space is laid.
-/
import Derived.Test.YtlodanjpkjfjiaaGreatDoorStA

import Derived.Test.YtlodanjpkjfjiaaGreatDoorScP

import Derived.Test.YtlodanjpkjfjiaaGreatDoorStr
import Derived.Lib.AtoiErrMem
/-! ScW -/
namespace Go.Proofs.YtlodanjpkjfjiaaGreatDoor
open Go.RowKit Go.Al
set_option linter.unusedVariables false

theorem slWd : SlTy Tryz.prog 60 9 1 16 := SlTy.of (z := .string ⟨#[]⟩) Tryz.underlying60 (by kernel_rfl) rfl (by decide)
/-- words, as cells -/
def wds (l : List (List UInt8)) : List Value := l.map strV
theorem wds_len (l : List (List UInt8)) : (wds l).length = l.length := List.length_map _
theorem wds_drop (x : List UInt8) (l : List (List UInt8)) : (wds (x :: l)).drop 1 = wds l := rfl
/-- a reader in memory, with the words that are left -/
def RdrAt (w : World) (g : Nat) (ws : List (List UInt8)) : Prop :=
  ∃ A c, Blk w g 80 #[.slice A ws.length c] ∧ ws.length ≤ c ∧ Rd w A (wds ws) ∧ (∀ b, blkOf A = some b → b ≠ g)
theorem RdrAt.same {w w' : World} {g : Nat} {ws : List (List UInt8)} (h : RdrAt w g ws) (hs : Same w w') : RdrAt w' g ws := by
  obtain ⟨A, c, h1, h2, h3, h4⟩ := h
  exact ⟨A, c, h1.same hs, h2, h3.same hs, h4⟩
set_option maxRecDepth 100000 in
set_option maxHeartbeats 4000000 in
theorem rword_some {g : Nat} (x : List UInt8) (ws : List (List UInt8)) (w : World) (h : RdrAt w g (x :: ws)) :
    Calls Tryz.prog 56 #[.pointer (some ⟨g, 0, none⟩)] w fun e w' => e = .returned (strV x) ∧ Chg (fun k => k = g) w w' ∧ RdrAt w' g ws := by
  obtain ⟨A, c, hb, hc, hr, hne⟩ := h
  obtain ⟨A2, hcut, hrd2, hbk2⟩ := cut_lo slWd hr (by rw [wds_len, Nat.mul_one]) hc .i64 1 1 rfl (by simp)
  obtain ⟨b, off, rfl, hcell⟩ := hr (by simp [wds])
  have hc0 := hcell 0 (strV x) rfl
  have HI := hide (tindexS_ok (n := (x :: ws).length) (c := c) 0 w (by simp) hc0 rfl)
  have Hrd2 := hide (show Rd w A2 (wds ws) from hrd2)
  have Hne := hide (show ∀ b', blkOf A2 = some b' → b' ≠ g from fun b' hb' => hne b' (hbk2 ▸ hb'))
  have Hb := hide hb
  have hkb := hb.cell 0
  simp only [List.getElem?_toArray, List.getElem?_cons_zero] at hkb
  have Hc := hide (show ws.length ≤ c - 1 by simp at hc; omega)
  have HE : Hid (∀ w', Blk w' g 80 #[.slice A2 ((x :: ws).length - 1) (c - 1)] → Rd w' A2 (wds ws) → RdrAt w' g ws) := hide fun w' h1 h2 => ⟨A2, c - 1, by simpa using h1, Hc.out, h2, Hne.out⟩
  clear hr hrd2 hbk2 hcell hc0 hne hb hc
  generalize (x :: ws).length = n at *
  generalize n - 1 = n1 at *
  generalize c - 1 = c1 at *
  go_enter Tryz.func56, Tryz.ntmps56
  go_wp2_with (first
    | (go_at_call 72; (refine HI.out.mono ?_); rintro e w1 ⟨rfl, hs1⟩; have Hs1 := hide hs1; have hkb1 := (Hb.out.same hs1).cell 0; simp only [List.getElem?_toArray, List.getElem?_cons_zero] at hkb1; have hfb1 := (Hb.out.same hs1).frozen 0; clear hs1 hkb)
    | fail)
  (first | go_ret | go_ret2)
  refine ⟨rfl, Chg.setCell (S := fun k => k = g) (p := ⟨g, 0, none⟩) (Same.to Hs1.out) (.inl rfl) _, HE.out _ ((Hb.out.same Hs1.out).set_ 0 _) ?_⟩
  exact (Hrd2.out.same Hs1.out).setCell (p := ⟨g, 0, none⟩) (fun e => Hne.out _ e rfl) _
set_option maxRecDepth 100000 in
set_option maxHeartbeats 4000000 in
theorem rword_none {g : Nat} (w : World) (h : RdrAt w g []) :
    Calls Tryz.prog 56 #[.pointer (some ⟨g, 0, none⟩)] w fun e w' => e = .panicked (fault 0 1) ∧ Same w w' := by
  obtain ⟨A, c, hb, hc, hr, hne⟩ := h
  have HI := hide (tindexS_bad (A := A) (n := 0) (c := c) 0 w (.inr (by simp)))
  have hkb := hb.cell 0
  simp only [List.getElem?_toArray, List.getElem?_cons_zero, List.length_nil] at hkb
  clear hb hc hr hne
  go_enter Tryz.func56, Tryz.ntmps56
  go_wp2_with (first
    | (go_at_call 72; (refine HI.out.mono ?_); rintro e w1 ⟨rfl, hs1⟩; have Hs1 := hide hs1; clear hs1)
    | fail)
  exact ⟨rfl, rfl, Hs1.out⟩
end Go.Proofs.YtlodanjpkjfjiaaGreatDoor
/-! ScY -/
namespace Go.Proofs.YtlodanjpkjfjiaaGreatDoor
open Go.RowKit Go.Al
set_option linter.unusedVariables false

theorem one_wds (l : List (List UInt8)) : ∀ u ∈ wds l, u.oneCell' = true := by
  intro u hu
  obtain ⟨x, _, rfl⟩ := List.mem_map.1 hu
  rfl
/-- a writer in memory, with the words that it has -/
def WrtAt (w : World) (g : Nat) (ws : List (List UInt8)) : Prop :=
  ∃ A c, Blk w g 103 #[.slice A ws.length c] ∧ w.ownsRow (g + 1) 9 1 (.slice A ws.length c) ws.length (wds ws)
/-- what a writer changes: itself, and rows of words -/
def WS (g : Nat) (w : World) (k : Nat) : Prop := k = g ∨ (g ≤ k ∧ ty w k = some 9)
theorem WS.tr {g : Nat} {S : Nat → Prop} {a w : World} (hc : Chg S a w) {k : Nat} (hk : k < a.heap.size) (h : WS g w k) : WS g a k :=
  h.imp id fun h => ⟨h.1, (hc.tys k hk).symm.trans h.2⟩
set_option maxRecDepth 100000 in
set_option maxHeartbeats 4000000 in
theorem wword_any {g : Nat} (x : List UInt8) (ws : List (List UInt8)) (w : World) (h : WrtAt w g ws) (hn : ws.length ≤ 100000) :
    Calls Tryz.prog 61 #[.pointer (some ⟨g, 0, none⟩), strV x] w fun e w' => e = .returned (.tuple #[]) ∧ Chg (WS g w) w w' ∧ WrtAt w' g (ws ++ [x]) := by
  obtain ⟨A, c, hb, ho⟩ := h
  have hkb := hb.cell 0
  simp only [List.getElem?_toArray, List.getElem?_cons_zero] at hkb
  have hgl := hb.lt
  have Hgl := hide hb.lt
  have Hb := hide hb
  have Ho := hide ho
  obtain ⟨n, hnl⟩ : ∃ n, ws.length = n := ⟨_, rfl⟩
  rw [hnl] at hkb Hb Ho hn
  have HE : Hid (∀ A' c' w', Blk w' g 103 #[.slice A' (n + 1) c'] → w'.ownsRow (g + 1) 9 1 (.slice A' (n + 1) c') (n + 1) (wds ws ++ [strV x]) → WrtAt w' g (ws ++ [x])) := hide fun A' c' w' h1 h2 => by
    have e : (ws ++ [x]).length = n + 1 := by rw [List.length_append, hnl]; rfl
    refine ⟨A', c', by rw [e]; exact h1, ?_⟩
    rw [e]
    simpa [wds] using h2
  clear hb ho hnl
  have h1x := one_wds [x]
  simp only [wds, List.map_cons, List.map_nil] at h1x
  have H1x := hide h1x
  clear h1x
  generalize wds ws = L at *
  unfold strV at HE H1x ⊢
  generalize (⟨x.toArray⟩ : ByteArray) = sx at *
  go_enter Tryz.func61, Tryz.ntmps61
  go_wp2_with (first
    | (at_builtin; refine wpList_appS (by rfl) (.tmp 8) (.tmp 10) _ (by rfl) slWd (by rfl) (base := g + 1) (by exact own_chg Ho.out ((Chg.refl (fun _ => False) w).alloc _) (fun _ _ h => h)) (by rfl) (show ([Value.string sx]).length = 1 * 1 from rfl) (by exact rd_lit _ _ _ _ _ rfl) H1x.out (by omega) (by omega) (by have := Hgl.out; simp; omega) ?_; intro A3 c3 w5 hown hc hb5; have Hown := hide hown; have Hc := hide hc; have hne : ¬ blkOf A = some g := (fun e => by have h7 := (Ho.out.lt g (by rw [ownBlock_slice]; exact e)).1; omega); have Hb5 := hide ((Hb.out.alloc (.cells #[Value.string sx] 9)).chg hc hne); have hkb5 := Hb5.out.cell 0; simp only [List.getElem?_toArray, List.getElem?_cons_zero] at hkb5; have hfb5 := Hb5.out.frozen 0; clear hown hc hb5 hne hkb)
    | fail)
  go_end0
  refine ⟨rfl, Chg.setCell (S := WS g w) (p := ⟨g, 0, none⟩) (Chg.trans (((Chg.refl (WS g w) w).alloc _)) Hc.out fun k hk e => ?_) (.inl (.inl rfl)) _, HE.out A3 c3 _ (Hb5.out.set_ 0 _) (own_chg Hown.out (Chg.setCell (S := fun k => k = g) (p := ⟨g, 0, none⟩) (Chg.refl _ _) (.inl rfl) _) fun k hk e => ?_)⟩
  · have h7 := (Ho.out.lt k (by rw [ownBlock_slice]; exact e)).1
    exact .inr ⟨by omega, own_ty Ho.out (by rw [ownBlock_slice]; exact e)⟩
  · have h7 := (Hown.out.lt k hk).1
    have e' : k = g := e
    omega
end Go.Proofs.YtlodanjpkjfjiaaGreatDoor
/-! ScV -/
namespace Go.Proofs.YtlodanjpkjfjiaaGreatDoor
open Go.RowKit Go.Al
set_option linter.unusedVariables false

theorem below_same {w w' : World} (h : Below w.heap.size w w') : Same w w' :=
  ⟨h.os, h.tape, h.output, h.size, fun k hk => ty_of_heap (h.block k hk), fun k hk _ => h.block k hk⟩
theorem var_chg {P : Program} {S : Nat → Prop} {w w' : World} {name : String} {cs : Array Value} (h : w.var? P name = some cs) (hc : Chg S w w') (hS : ∀ k, P.globalNamed name = some k → ¬ S k) : w'.var? P name = some cs := by
  unfold World.var? at h ⊢
  cases hg : P.globalNamed name with
  | none => rw [hg] at h; cases h
  | some g =>
    rw [hg] at h
    simp only [Option.bind_some] at h ⊢
    have hlt : g < w.heap.size := by
      rcases Nat.lt_or_ge g w.heap.size with h' | h'
      · exact h'
      · rw [Array.getElem?_eq_none h'] at h; cases h
    rw [hc.block g hlt (hS g hg)]
    exact h
/-- the errors of Go's library that Atoi hands out -/
structure Errs (w : World) : Prop where
  sy : ∃ tp p, w.var? Tryz.prog "strconv.ErrSyntax" = some #[.iface tp p]
  ra : ∃ tp p, w.var? Tryz.prog "strconv.ErrRange" = some #[.iface tp p]
theorem Errs.chg {S : Nat → Prop} {w w' : World} (h : Errs w) (hc : Chg S w w') (h1 : ∀ k, Tryz.prog.globalNamed "strconv.ErrSyntax" = some k → ¬ S k) (h2 : ∀ k, Tryz.prog.globalNamed "strconv.ErrRange" = some k → ¬ S k) : Errs w' := by
  obtain ⟨⟨tp, p, h3⟩, tp', p', h4⟩ := h
  exact ⟨⟨tp, p, var_chg h3 hc h1⟩, tp', p', var_chg h4 hc h2⟩
theorem Errs.same {w w' : World} (h : Errs w) (hs : Same w w') : Errs w' := h.chg hs (fun _ _ h => h) fun _ _ h => h
/-- a block that is none of theirs -/
def FarE (g : Nat) : Prop := (∀ k, Tryz.prog.globalNamed "strconv.ErrSyntax" = some k → k ≠ g) ∧ (∀ k, Tryz.prog.globalNamed "strconv.ErrRange" = some k → k ≠ g)
/-- Atoi in one contract -/
theorem atoi_any (x : List UInt8) (w : World) (he : Errs w) (hx : x.length ≤ 1000000) :
    Calls Tryz.prog 73 #[strV x] w fun e w' => ((∃ v, intW x = .ok v ∧ e = .returned (.tuple #[.int .i64 v, .nilIface])) ∨ (intW x = .error 8 ∧ ∃ v t u, e = .returned (.tuple #[.int .i64 v, .iface t (.pointer (some u))]))) ∧ Same w w' := by
  have hsz : (⟨x.toArray⟩ : ByteArray).size = x.length := by simp [ByteArray.size]
  have hls : (⟨x.toArray⟩ : ByteArray).data.toList = x := by simp
  unfold intW strV
  cases h : Lib.atoiAll x
  · rename_i v
    refine (strconv_Atoi_ok ⟨x.toArray⟩ (by rw [hsz]; omega) v (by rw [hls]; exact h) w).mono ?_
    rintro e w' ⟨rfl, hw⟩
    refine ⟨.inl ⟨v, rfl, rfl⟩, ?_⟩
    rcases hw with rfl | ⟨t, rfl⟩
    · exact Chg.refl _ _
    · exact below_same (Lib.bytesWorld_below _ _ _)
  · obtain ⟨tp, p, hv⟩ := he.sy
    refine (Any.strconv_Atoi_syntax_var laysC172 ⟨x.toArray⟩ (by rw [hsz]; omega) (by rw [hls]; exact h) tp p w hv).mono ?_
    rintro e w' ⟨N, rfl, _, _, hw⟩
    exact ⟨.inr ⟨rfl, _, _, _, rfl⟩, below_same hw⟩
  · obtain ⟨tp, p, hv⟩ := he.ra
    refine (strconv_Atoi_range_var ⟨x.toArray⟩ (by rw [hsz]; omega) (by rw [hls]; exact h) tp p w hv).mono ?_
    rintro e w' ⟨N, rfl, _, _, hw⟩
    exact ⟨.inr ⟨rfl, _, _, _, rfl⟩, below_same hw⟩
set_option maxRecDepth 100000 in
set_option maxHeartbeats 4000000 in
theorem rint_some {g : Nat} (x : List UInt8) (ws : List (List UInt8)) (w : World) (h : RdrAt w g (x :: ws)) (he : Errs w) (hg : FarE g) (hx : x.length ≤ 1000000) :
    Calls Tryz.prog 57 #[.pointer (some ⟨g, 0, none⟩)] w fun e w' => ((∃ v, intW x = .ok v ∧ e = .returned (.int .i64 v)) ∨ (intW x = .error 8 ∧ e = .panicked (fault 0 8))) ∧ Chg (fun k => k = g) w w' ∧ RdrAt w' g ws := by
  have HW := hide (rword_some x ws w h)
  have HA := hide (fun w1 (hc : Chg (fun k => k = g) w w1) => atoi_any x w1 (he.chg hc (fun k hk e => hg.1 k hk e) (fun k hk e => hg.2 k hk e)) hx)
  clear h he hg hx
  obtain ⟨iw, hiw⟩ : ∃ r, intW x = r := ⟨_, rfl⟩
  rw [hiw] at HA ⊢
  clear hiw
  cases iw with
  | ok v =>
    have HB := hide (fun w1 (hc : Chg (fun k => k = g) w w1) => (HA.out w1 hc).mono (R' := fun e w' => e = .returned (.tuple #[.int .i64 v, .nilIface]) ∧ Same w1 w') (by
      rintro e w2 ⟨h, hs⟩
      rcases h with ⟨v', h1, rfl⟩ | ⟨h1, _⟩
      · cases h1
        exact ⟨rfl, hs⟩
      · cases h1))
    clear HA
    go_enter Tryz.func57, Tryz.ntmps57
    go_wp2_with (first
      | (go_at_call 56; (refine HW.out.mono ?_); rintro e w1 ⟨rfl, hc1, hr1⟩; have Hc1 := hide hc1; have Hr1 := hide hr1; clear hc1 hr1)
      | (go_at_call 73; (refine (HB.out _ Hc1.out).mono ?_); rintro e w2 ⟨rfl, hs2⟩; have Hs2 := hide hs2; clear hs2)
      | fail)
    (first | go_ret | go_ret2)
    exact ⟨.inl ⟨v, rfl, rfl⟩, Chg.trans Hc1.out (Same.to Hs2.out) (fun _ _ h => h), Hr1.out.same Hs2.out⟩
  | error c =>
    have HB := hide (fun w1 (hc : Chg (fun k => k = g) w w1) => (HA.out w1 hc).mono (R' := fun e w' => c = 8 ∧ (∃ v t u, e = .returned (.tuple #[.int .i64 v, .iface t (.pointer (some u))])) ∧ Same w1 w') (by
      rintro e w2 ⟨h, hs⟩
      rcases h with ⟨v', h1, _⟩ | ⟨h1, h2⟩
      · cases h1
      · cases h1
        exact ⟨rfl, h2, hs⟩))
    clear HA
    go_enter Tryz.func57, Tryz.ntmps57
    go_wp2_with (first
      | (go_at_call 56; (refine HW.out.mono ?_); rintro e w1 ⟨rfl, hc1, hr1⟩; have Hc1 := hide hc1; have Hr1 := hide hr1; clear hc1 hr1)
      | (go_at_call 73; (refine (HB.out _ Hc1.out).mono ?_); rintro e w2 ⟨rfl, ⟨v, t, u, rfl⟩, hs2⟩; have Hs2 := hide hs2; clear hs2)
      | (go_at_call 74; refine (Throw_bad 0 8 _ (by omega)).mono ?_; rintro e w6 ⟨rfl, rfl⟩)
      | fail)
    exact ⟨rfl, rfl, Chg.trans Hc1.out (Same.to Hs2.out) (fun _ _ h => h), Hr1.out.same Hs2.out⟩
end Go.Proofs.YtlodanjpkjfjiaaGreatDoor
/-! ScU -/
namespace Go.Proofs.YtlodanjpkjfjiaaGreatDoor
open Go.RowKit Go.Al
set_option linter.unusedVariables false

set_option maxRecDepth 100000 in
set_option maxHeartbeats 4000000 in
theorem rint_none {g : Nat} (w : World) (h : RdrAt w g []) :
    Calls Tryz.prog 57 #[.pointer (some ⟨g, 0, none⟩)] w fun e w' => e = .panicked (fault 0 1) ∧ Same w w' := by
  have HW := hide (rword_none w h)
  clear h
  go_enter Tryz.func57, Tryz.ntmps57
  go_wp2_with (first
    | (go_at_call 56; (refine HW.out.mono ?_); rintro e w1 ⟨rfl, hs1⟩; have Hs1 := hide hs1; clear hs1)
    | fail)
  exact ⟨rfl, rfl, Hs1.out⟩
/-- words that a call hands back, in memory of their own -/
def WdsEnd (w : World) (ws : List (List UInt8)) (e : Ending) (w' : World) : Prop :=
  e = .returned (.slice (some ⟨w.heap.size, 0, none⟩) ws.length ws.length) ∧ w' = w.alloc (.cells (wds ws).toArray 9)
def wordsT : List UInt8 := [119, 97, 110, 116, 32, 115, 116, 101, 112, 32, 97, 98, 111, 114, 116, 32, 99, 108, 101, 97, 110, 32, 115, 101, 110, 100]
theorem wordsT_is : Lib.fields wordsT = wordsA := by decide +kernel
def reqsT : List UInt8 := [97, 100, 100, 45, 112, 111, 105, 110, 116, 32, 100, 114, 111, 112, 45, 112, 111, 105, 110, 116, 32, 97, 100, 100, 45, 115, 112, 97, 110, 32, 100, 114, 111, 112, 45, 115, 112, 97, 110, 32, 98, 111, 120, 32, 99, 111, 117, 110, 116, 32, 119, 105, 110, 32, 119, 105, 110, 45, 99, 111, 117, 110, 116, 32, 115, 116, 97, 98, 32, 111, 118, 101, 114, 108, 97, 112, 32, 111, 118, 101, 114, 108, 97, 112, 45, 99, 111, 117, 110, 116]
theorem reqsT_is : Lib.fields reqsT = wordsR := by decide +kernel
set_option maxRecDepth 100000 in
set_option maxHeartbeats 4000000 in
theorem words_any (w : World) (h : Lib.TabIs Tryz.prog w "strings.asciiSpace" .u8 Lib.asciiSpaceTab) :
    Calls Tryz.prog 55 #[] w (WdsEnd w wordsA) := by
  have hF := strings_Fields ⟨wordsT.toArray⟩ w (by decide) (fun j b hb => by
    have hm : b ∈ wordsT := List.mem_of_getElem? hb
    have : ∀ x ∈ wordsT, x.toNat < 128 := by decide
    exact this b hm) h
  rw [show (⟨wordsT.toArray⟩ : ByteArray).data.toList = wordsT from rfl, wordsT_is] at hF
  have HF := hide hF
  clear hF h
  have HE : Hid (∀ w', w' = w.alloc (.cells (wordsA.map fun l => Value.string ⟨l.toArray⟩).toArray 9) → WdsEnd w wordsA (.returned (.slice (some ⟨w.heap.size, 0, none⟩) wordsA.length wordsA.length)) w') := hide fun w' h => ⟨rfl, h⟩
  unfold wordsT at HF
  generalize WdsEnd w wordsA = Q at *
  go_enter Tryz.func55, Tryz.ntmps55
  go_wp2_with (first
    | (go_at_call 71; refine HF.out.mono ?_; rintro e w' ⟨rfl, hw⟩; have Hw := hide hw; clear hw)
    | fail)
  exact HE.out _ Hw.out
set_option maxRecDepth 100000 in
set_option maxHeartbeats 4000000 in
theorem requests_any (w : World) (h : Lib.TabIs Tryz.prog w "strings.asciiSpace" .u8 Lib.asciiSpaceTab) :
    Calls Tryz.prog 75 #[] w (WdsEnd w wordsR) := by
  have hF := strings_Fields ⟨reqsT.toArray⟩ w (by decide) (fun j b hb => by
    have hm : b ∈ reqsT := List.mem_of_getElem? hb
    have : ∀ x ∈ reqsT, x.toNat < 128 := by decide
    exact this b hm) h
  rw [show (⟨reqsT.toArray⟩ : ByteArray).data.toList = reqsT from rfl, reqsT_is] at hF
  have HF := hide hF
  clear hF h
  have HE : Hid (∀ w', w' = w.alloc (.cells (wordsR.map fun l => Value.string ⟨l.toArray⟩).toArray 9) → WdsEnd w wordsR (.returned (.slice (some ⟨w.heap.size, 0, none⟩) wordsR.length wordsR.length)) w') := hide fun w' h => ⟨rfl, h⟩
  unfold reqsT at HF
  generalize WdsEnd w wordsR = Q at *
  go_enter Tryz.func75, Tryz.ntmps75
  go_wp2_with (first
    | (go_at_call 71; refine HF.out.mono ?_; rintro e w' ⟨rfl, hw⟩; have Hw := hide hw; clear hw)
    | fail)
  exact HE.out _ Hw.out
end Go.Proofs.YtlodanjpkjfjiaaGreatDoor
