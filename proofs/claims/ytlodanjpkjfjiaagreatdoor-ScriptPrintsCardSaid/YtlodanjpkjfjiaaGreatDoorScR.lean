/-
  script.reader.request. Conditions: Go's errors and the table of white space are laid; words of a sound length, not too many.
  script.reader.request at some words. Conditions: Go's errors and the table of white space are laid; words of a sound length, not too many.
-/
import Derived.Test.YtlodanjpkjfjiaaGreatDoorAcW
/-! ScS -/
namespace Go.Proofs.YtlodanjpkjfjiaaGreatDoor
open Go.RowKit Go.Al
set_option linter.unusedVariables false

theorem tab_sm {P : Program} {w w' : World} {name : String} {k : IntKind} {zs : List Int} (h : Lib.TabIs P w name k zs) (hs : Same w w') : Lib.TabIs P w' name k zs := by
  unfold Lib.TabIs at h ⊢
  exact var_chg h hs fun _ _ h => h
/-- how reader.request ends -/
def ReqEnd (g : Nat) (ws : List (List UInt8)) (w : World) (e : Ending) (w' : World) : Prop :=
  ((∃ r, reqW ws = .ok r ∧ e = .returned (rqV r)) ∨ (∃ c, reqW ws = .error c ∧ e = .panicked (fault 0 c))) ∧ Chg (fun k => k = g) w w'
theorem place_in (x : List UInt8) : 0 ≤ placeOf wordsR x ∧ placeOf wordsR x ≤ 11 := by
  unfold placeOf
  split
  · rename_i h
    have h1 := List.idxOf_lt_length_of_mem h
    have h2 : wordsR.length = 11 := rfl
    omega
  · omega
set_option maxRecDepth 100000 in
set_option maxHeartbeats 8000000 in
theorem rreq_none {g : Nat} (w : World) (h : RdrAt w g []) (ht : Lib.TabIs Tryz.prog w "strings.asciiSpace" .u8 Lib.asciiSpaceTab) :
    Calls Tryz.prog 58 #[.pointer (some ⟨g, 0, none⟩)] w fun e w' => e = .panicked (fault 0 1) ∧ Same w w' := by
  have Hs0 := hide ((Chg.refl (fun _ => False) w).alloc (.cells (rqL rqz).toArray 35))
  have HQ := hide (requests_any _ (tab_sm ht Hs0.out))
  have HW := hide (fun w' (hs : Same w w') => rword_none w' (h.same hs))
  clear h ht
  simp only [rqL, cgL, qL, z3', qy0, cg0, rqz, List.cons_append, List.nil_append] at Hs0 HQ
  unfold WdsEnd at HQ
  go_enter Tryz.func58, Tryz.ntmps58
  go_wp2_with (first
    | (go_at_call 75; (refine HQ.out.mono ?_); rintro e w1 ⟨rfl, hw1⟩; have Hs1 := hide (show Same w w1 from hw1 ▸ Chg.alloc Hs0.out _); clear hw1)
    | (go_at_call 56; (refine (HW.out _ Hs1.out).mono ?_); rintro e w2 ⟨rfl, hs2⟩; have Hs2 := hide (Same.trans Hs1.out hs2); clear hs2)
    | fail)
  exact ⟨rfl, rfl, Hs2.out⟩
end Go.Proofs.YtlodanjpkjfjiaaGreatDoor
/-! ScR -/
namespace Go.Proofs.YtlodanjpkjfjiaaGreatDoor
open Go.RowKit Go.Al
set_option linter.unusedVariables false

theorem encL_le : ∀ {l : List Int}, (∀ n ∈ l, inI' n) → (encL l).length ≤ 10 * l.length := encL_len
set_option maxRecDepth 100000 in
set_option maxHeartbeats 16000000 in
theorem rreq_some {g : Nat} (x : List UInt8) (l : List (List UInt8)) (w : World) (h : RdrAt w g (x :: l)) (he : Errs w) (hf : FarE g) (ht : Lib.TabIs Tryz.prog w "strings.asciiSpace" .u8 Lib.asciiSpaceTab) (hl : l.length ≤ 1000) (hx : ∀ y ∈ l, y.length ≤ 1000000) :
    Calls Tryz.prog 58 #[.pointer (some ⟨g, 0, none⟩)] w (ReqEnd g (x :: l) w) := by
  have hgw : g < w.heap.size := by obtain ⟨A, c, hb, _⟩ := h; exact hb.lt
  have Hs0 := hide ((Chg.refl (fun _ => False) w).alloc (.cells (rqL rqz).toArray 35))
  have Hbz0 := hide (Blk.new w 35 (rqL rqz).toArray)
  have HQ := hide (requests_any _ (tab_sm ht Hs0.out))
  have HW := hide (fun w' (hs : Same w w') => rword_some x l w' (h.same hs))
  have HErr := hide (fun w' (hc : Chg (fun k => k = g) w w') => he.chg hc (fun k hk e => hf.1 k hk e) (fun k hk e => hf.2 k hk e))
  have Hf := hide hf
  have Hgw := hide hgw
  have hp := place_in x
  have HE1 : Hid (∀ c w', intsW l = .error c → Chg (fun k => k = g) w w' → ReqEnd g (x :: l) w (.panicked (fault 0 c)) w') := hide fun c w' h1 h2 => ⟨.inr ⟨c, by simp [reqW, popW, h1], rfl⟩, h2⟩
  have HE2 : Hid (∀ vs w', intsW l = .ok vs → ofNums (placeOf wordsR x) vs = none → Chg (fun k => k = g) w w' → ReqEnd g (x :: l) w (.panicked (fault 0 8)) w') := hide fun vs w' h1 h2 h3 => ⟨.inr ⟨8, by simp [reqW, popW, h1, h2], rfl⟩, h3⟩
  have HE3 : Hid (∀ vs r w', intsW l = .ok vs → ofNums (placeOf wordsR x) vs = some r → Chg (fun k => k = g) w w' → ReqEnd g (x :: l) w (.returned (.agg (rqL r).toArray)) w') := hide fun vs r w' h1 h2 h3 => ⟨.inl ⟨r, by simp [reqW, popW, h1, h2], rfl⟩, h3⟩
  have HIx := hide (fun (w' : World) (gw : Nat) (hb : Blk w' gw 9 (wds wordsR).toArray) => index_any wordsR x gw w' hb (by decide))
  have Hl := hide hl
  have Hx := hide hx
  obtain ⟨cb, hcb⟩ : ∃ cb : Nat, (placeOf wordsR x ≤ 4 ∧ (cb : Int) = placeOf wordsR x) ∨ (4 < placeOf wordsR x ∧ (cb : Int) = placeOf wordsR x + 12) := by
    by_cases h4 : placeOf wordsR x ≤ 4
    · exact ⟨(placeOf wordsR x).toNat, .inl ⟨h4, by omega⟩⟩
    · exact ⟨(placeOf wordsR x + 12).toNat, .inr ⟨by omega, by omega⟩⟩
  have hwk : wordK cb = placeOf wordsR x := by
    unfold wordK
    rcases hcb with ⟨h1, h2⟩ | ⟨h1, h2⟩
    · rw [if_pos (by omega)]; exact h2
    · rw [if_neg (by omega), if_neg (by omega)]; omega
  have Hwk := hide hwk
  have hcb256 : cb < 256 := by omega
  have Hone := hide (bs_one cb hcb256)
  clear h he hf ht hgw hl hx hwk
  generalize ReqEnd g (x :: l) w = Q at *
  generalize placeOf wordsR x = p at *
  simp only [rqL, cgL, qL, z3', qy0, cg0, rqz, List.cons_append, List.nil_append] at Hs0 Hbz0 HQ
  unfold WdsEnd at HQ
  simp only [World.size_alloc] at HQ
  have Hcb := hide hcb
  rcases hcb with ⟨h4, hc⟩ | ⟨h4, hc⟩
  · obtain rfl : p = (cb : Int) := hc.symm
    have hm : (cb : Int) % 256 = (cb : Int) := by omega
    go_enter Tryz.func58, Tryz.ntmps58
    go_wp2_with (first
      | (go_at_call 75; (refine HQ.out.mono ?_); rintro e w1 ⟨rfl, hw1⟩; have Hs1 := hide (show Same w w1 from hw1 ▸ Chg.alloc Hs0.out _); have Hbz1 := hide (show Blk w1 w.heap.size 35 #[Value.int .i64 0, Value.int .i64 0, Value.int .i64 0, Value.int .i64 0, Value.int .i64 0, Value.int .i64 0, Value.int .i64 0, Value.int .i64 0, Value.int .i64 0, Value.int .i64 0, Value.int .i64 0, Value.int .i64 0, Value.int .i64 0, Value.int .i64 0, Value.int .i64 0, Value.int .i64 0, Value.int .i64 0, Value.int .i64 0] from hw1 ▸ Blk.alloc Hbz0.out _); have Hbw1 := hide (show Blk w1 (w.heap.size + 1) 9 (wds wordsR).toArray by rw [hw1]; have h := Blk.new (w.alloc (.cells #[Value.int .i64 0, Value.int .i64 0, Value.int .i64 0, Value.int .i64 0, Value.int .i64 0, Value.int .i64 0, Value.int .i64 0, Value.int .i64 0, Value.int .i64 0, Value.int .i64 0, Value.int .i64 0, Value.int .i64 0, Value.int .i64 0, Value.int .i64 0, Value.int .i64 0, Value.int .i64 0, Value.int .i64 0, Value.int .i64 0] 35)) 9 (wds wordsR).toArray; rw [World.size_alloc] at h; exact h); clear hw1)
      | (go_at_call 56; (refine (HW.out _ Hs1.out).mono ?_); rintro e w2 ⟨rfl, hc2, hr2⟩; have Hr2 := hide hr2; have Hc2 := hide (Chg.trans (Same.to (S := fun k => k = g) Hs1.out) hc2 (fun _ _ h => h)); have Hbz2 := hide (Hbz1.out.chg hc2 (by have := Hgw.out; show ¬ w.heap.size = g; omega)); have Hbw2 := hide (Hbw1.out.chg hc2 (by have := Hgw.out; show ¬ w.heap.size + 1 = g; omega)); clear hr2 hc2)
      | (go_at_call 54; (refine (HIx.out _ _ Hbw2.out).mono ?_); rintro e w3 ⟨rfl, hw3⟩; subst hw3)
      | fail)
    have Hl2 := hide (show l.length = l.length from rfl)
    go_loopg [4, 17, 18, 19, 20, 21, 22, 23, 24, 25, 26] l.length (fun k vb v17 v18 v19 v20 v21 v22 v23 v24 v25 v26 wr => ∃ (vs : List Int) (l' : List (List UInt8)) (a : Addr) (n0 c0 : Nat), k = l'.length ∧ vb = .slice (some a) n0 c0 ∧ intsW l = addW vs (intsW l') ∧ (∀ y ∈ l', y.length ≤ 1000000) ∧ (∀ v ∈ vs, inI' v) ∧ vs.length + l'.length ≤ 1000 ∧ (cb.toUInt8 :: encL vs).length = n0 ∧ n0 ≤ c0 ∧ c0 ≤ maxLen ∧ Rd wr (some a) (bs (cb.toUInt8 :: encL vs)) ∧ a.block ≠ g ∧ RdrAt wr g l' ∧ Chg (fun k => k = g) w wr ∧ Blk wr w.heap.size 35 #[Value.int .i64 0, Value.int .i64 0, Value.int .i64 0, Value.int .i64 0, Value.int .i64 0, Value.int .i64 0, Value.int .i64 0, Value.int .i64 0, Value.int .i64 0, Value.int .i64 0, Value.int .i64 0, Value.int .i64 0, Value.int .i64 0, Value.int .i64 0, Value.int .i64 0, Value.int .i64 0, Value.int .i64 0, Value.int .i64 0])
    case atStart =>
      refine ⟨[], l, _, 1, 1, rfl, rfl, (addW_nil _).symm, Hx.out, by simp, by have := Hl.out; simp; omega, by simp [encL], Nat.le_refl _, by decide, ?_, ?_, Hr2.out.same ((Chg.refl _ _).alloc _), Chg.alloc Hc2.out _, Hbz2.out.alloc _⟩
      · have hb := Blk.new w2 5 #[.int .u8 (cb : Int)]
        rw [show bs (cb.toUInt8 :: encL []) = [.int .u8 (cb : Int)] from Hone.out]
        exact fun _ => ⟨_, 0, rfl, fun i y hy => by rw [Nat.zero_add, hb.cell]; simpa using hy⟩
      · have h1 := Hgw.out
        have h2 := Hc2.out.size
        show ¬ w2.heap.size = g
        omega
    case round =>
      obtain ⟨vs, l', a, n0, c0, hk, rfl, hi, hy, hin, hlen, hn0, hnc, hcm, hrd, hag, hrr, hcg, hbz⟩ := hrel
      have Hk := hide hk
      have Hi := hide hi
      have Hy := hide hy
      have Hin := hide hin
      have Hlen := hide hlen
      have Hn0 := hide hn0
      have Hnc := hide hnc
      have Hcm := hide hcm
      have Hrd := hide hrd
      have Hag := hide hag
      have Hcg := hide hcg
      have Hbz := hide hbz
      clear hk hi hy hin hlen hn0 hnc hcm hrd hag hcg hbz
      cases l' with
      | nil =>
        obtain ⟨A, c, hb, _⟩ := hrr
        have hkb := hb.cell 0
        simp only [List.getElem?_toArray, List.getElem?_cons_zero, List.length_nil] at hkb
        have hiv : intsW l = .ok vs := by rw [Hi.out]; simp [intsW, addW]
        have Hiv := hide hiv
        have hD := Decode_any (c := cb) (cc := c0) vs wr hcb256 Hn0.out Hnc.out Hcm.out Hrd.out Hin.out
        unfold DecodeEnd at hD
        rw [Hwk.out] at hD
        clear hb hiv
        cases ho : ofNums (cb : Int) vs with
        | none =>
          have HD := hide (hD.mono (R' := fun e w' => e = .returned (.tuple #[rqV rqz, .int .i64 8]) ∧ Same wr w') (by
            rintro e w2 ⟨h, hs⟩
            rcases h with ⟨r', h1, _⟩ | ⟨_, h2⟩
            · rw [ho] at h1; cases h1
            · exact ⟨h2, hs⟩))
          have HE := hide (fun w' (hs : Same wr w') => HE2.out vs w' Hiv.out ho (Chg.trans Hcg.out (Same.to hs) (fun _ _ h => h)))
          have HM := hide (fun w' => mustR_bad rqz 8 w' (by decide))
          clear hD ho
          generalize rqV rqz = rz at *
          go_wp2_with (first
            | (go_at_call 78; (refine HD.out.mono ?_); rintro e w4 ⟨rfl, hs4⟩; have Hs4 := hide hs4; clear hs4)
            | (go_at_call 77; (refine (HM.out _).mono ?_); rintro e w5 ⟨rfl, hs5⟩; have Hs5 := hide (Same.trans Hs4.out hs5); clear hs5)
            | fail)
          exact ⟨rfl, HE.out _ Hs5.out⟩
        | some r =>
          have HD := hide (hD.mono (R' := fun e w' => e = .returned (.tuple #[rqV r, .int .i64 0]) ∧ Same wr w') (by
            rintro e w2 ⟨h, hs⟩
            rcases h with ⟨r', h1, h2⟩ | ⟨h1, _⟩
            · rw [ho] at h1; cases h1; exact ⟨h2, hs⟩
            · rw [ho] at h1; cases h1))
          have HE := hide (fun w' (hc : Chg (fun k => k = g) w w') => HE3.out vs r w' Hiv.out ho hc)
          have HM := hide (fun w' => mustR_ok r w')
          have Hr1 := hide (one_rqL r)
          have Hrl := hide (rqL_len r)
          clear hD ho
          unfold rqV at HD HM
          generalize rqL r = R at *
          go_wp2_with (first
            | (go_at_call 78; (refine HD.out.mono ?_); rintro e w4 ⟨rfl, hs4⟩; have Hs4 := hide hs4; clear hs4)
            | (go_at_call 77; (refine (HM.out _).mono ?_); rintro e w5 ⟨rfl, hs5⟩; have Hs5 := hide (Same.trans Hs4.out hs5); have Hbz5 := hide (Hbz.out.same (Same.trans Hs4.out hs5)); clear hs5)
            | (refine wpList_store_row (by rfl) 35 _ _ rfl w.heap.size R.toArray rfl rfl 35 _ Hbz5.out (by rw [List.size_toArray, Hrl.out]; exact infoRqE) (show (18 : Nat) = R.toArray.size by rw [List.size_toArray, Hrl.out]) (all_oneCell_toArray Hr1.out) ?_)
            | fail)
          refine bodyPost_ret (results_cell_row rfl _ _ _ _ _ _ _ rfl (Blk.setRow_ Hbz5.out _) Tryz.underlying35 rfl (by rw [List.size_toArray, Hrl.out]; exact infoRqE)) (by rfl) ?_
          exact HE.out _ (Chg.setRow (Chg.trans Hcg.out (Same.to Hs5.out) (fun _ _ h => h)) (.inr (Nat.le_refl _)) _)
      | cons y l2 =>
        have hRI := rint_some y l2 wr hrr (HErr.out wr Hcg.out) Hf.out (Hy.out y List.mem_cons_self)
        obtain ⟨A, c, hb, _⟩ := hrr
        have hkb := hb.cell 0
        simp only [List.getElem?_toArray, List.getElem?_cons_zero] at hkb
        have hpos : 0 < (y :: l2).length := by simp
        generalize (y :: l2).length = nn at hkb hpos
        clear hb
        cases hiy : intW y with
        | error c' =>
          obtain rfl := intW_8 hiy
          have HR := hide (hRI.mono (R' := fun e w' => e = .panicked (fault 0 8) ∧ Chg (fun k => k = g) wr w') (by
            rintro e w2 ⟨h, hc, _⟩
            rcases h with ⟨v', h1, _⟩ | ⟨_, h2⟩
            · rw [hiy] at h1; cases h1
            · exact ⟨h2, hc⟩))
          have HE := hide (fun w' (hc : Chg (fun k => k = g) wr w') => HE1.out 8 w' (by rw [Hi.out, intsW_bad vs hiy]) (Chg.trans Hcg.out hc (fun _ _ h => h)))
          clear hRI hiy
          go_wp2_with (first
            | (go_at_call 57; (refine HR.out.mono ?_); rintro e w4 ⟨rfl, hc4⟩; have Hc4 := hide hc4; clear hc4)
            | fail)
          exact ⟨rfl, HE.out _ Hc4.out⟩
        | ok v =>
          have HR := hide (hRI.mono (R' := fun e w' => e = .returned (.int .i64 v) ∧ Chg (fun k => k = g) wr w' ∧ RdrAt w' g l2) (by
            rintro e w2 ⟨h, hc, hr⟩
            rcases h with ⟨v', h1, h2⟩ | ⟨h1, _⟩
            · rw [hiy] at h1; cases h1; exact ⟨h2, hc, hr⟩
            · rw [hiy] at h1; cases h1))
          have hv := intW_in hiy
          have Hv := hide hv
          have Hi2 := hide (show intsW l = addW (vs ++ [v]) (intsW l2) by rw [Hi.out, intsW_ok vs hiy])
          have hC := fun w' (hc : Chg (fun k => k = g) wr w') => codecInt_any (a := a) (c := c0) (cb.toUInt8 :: encL vs) v w' hv.1 hv.2 (Hrd.out.chg hc (fun b hb _ e => Hag.out (by have e' : b = g := e; have h9 : a.block = b := (by simpa [blkOf] using hb); exact h9.trans e'))) (by have h8 := encL_len Hin.out; have := Hlen.out; simp at this ⊢; omega)
          rw [Hn0.out] at hC
          have HC := hide hC
          clear hRI hiy hv hC
          go_wp2_with (first
            | (go_at_call 57; (refine HR.out.mono ?_); rintro e w4 ⟨rfl, hc4, hr4⟩; have Hc4 := hide hc4; have Hr4 := hide hr4; clear hc4 hr4)
            | (go_at_call 76; (refine (HC.out _ Hc4.out).mono ?_); rintro e w5 ⟨A5, c5, rfl, ho5, hs5⟩; have Ho5 := hide ho5; have Hs5 := hide hs5; clear ho5 hs5)
            | fail)
          go_roundg l2.length
          case measure => have h7 := Hk.out; simp at h7; omega
          case rel =>
            have ho2 := Ho5.out
            obtain ⟨A6, c6, hv6, h51, h52, _, _, h55, _⟩ := own_form ho2
            cases hv6
            obtain ⟨b5, o5, rfl, _⟩ := h52 (by simp [bs])
            have hblk := (ho2.lt b5 (by rw [ownBlock_slice]; rfl)).1
            refine ⟨vs ++ [v], l2, ⟨b5, o5, none⟩, _, c5, rfl, rfl, Hi2.out, fun z hz => Hy.out z (List.mem_cons_of_mem _ hz), ?_, ?_, ?_, (by have h8 := h51; simp at h8 ⊢; omega), h55, ?_, ?_, Hr4.out.same Hs5.out, Chg.trans (Chg.trans Hcg.out Hc4.out (fun _ _ h => h)) (Same.to Hs5.out) (fun _ _ h => h), (Hbz.out.chg Hc4.out (by have := Hgw.out; show ¬ w.heap.size = g; omega)).same Hs5.out⟩
            · intro z hz
              rcases List.mem_append.1 hz with h | h
              · exact Hin.out z h
              · rw [List.mem_singleton.1 h]; exact Hv.out
            · have := Hlen.out; simp at this ⊢; omega
            · rw [encL_snoc]; simp
            · rw [encL_snoc]; exact h52
            · have h1 := Hgw.out
              have h2 := (Chg.trans Hcg.out Hc4.out (fun _ _ h => h)).size
              show ¬ b5 = g
              omega
  · obtain rfl : p = (cb : Int) - 12 := by omega
    have hm : (cb : Int) % 256 = (cb : Int) := by omega
    clear hc
    go_enter Tryz.func58, Tryz.ntmps58
    go_wp2_with (first
      | (go_at_call 75; (refine HQ.out.mono ?_); rintro e w1 ⟨rfl, hw1⟩; have Hs1 := hide (show Same w w1 from hw1 ▸ Chg.alloc Hs0.out _); have Hbz1 := hide (show Blk w1 w.heap.size 35 #[Value.int .i64 0, Value.int .i64 0, Value.int .i64 0, Value.int .i64 0, Value.int .i64 0, Value.int .i64 0, Value.int .i64 0, Value.int .i64 0, Value.int .i64 0, Value.int .i64 0, Value.int .i64 0, Value.int .i64 0, Value.int .i64 0, Value.int .i64 0, Value.int .i64 0, Value.int .i64 0, Value.int .i64 0, Value.int .i64 0] from hw1 ▸ Blk.alloc Hbz0.out _); have Hbw1 := hide (show Blk w1 (w.heap.size + 1) 9 (wds wordsR).toArray by rw [hw1]; have h := Blk.new (w.alloc (.cells #[Value.int .i64 0, Value.int .i64 0, Value.int .i64 0, Value.int .i64 0, Value.int .i64 0, Value.int .i64 0, Value.int .i64 0, Value.int .i64 0, Value.int .i64 0, Value.int .i64 0, Value.int .i64 0, Value.int .i64 0, Value.int .i64 0, Value.int .i64 0, Value.int .i64 0, Value.int .i64 0, Value.int .i64 0, Value.int .i64 0] 35)) 9 (wds wordsR).toArray; rw [World.size_alloc] at h; exact h); clear hw1)
      | (go_at_call 56; (refine (HW.out _ Hs1.out).mono ?_); rintro e w2 ⟨rfl, hc2, hr2⟩; have Hr2 := hide hr2; have Hc2 := hide (Chg.trans (Same.to (S := fun k => k = g) Hs1.out) hc2 (fun _ _ h => h)); have Hbz2 := hide (Hbz1.out.chg hc2 (by have := Hgw.out; show ¬ w.heap.size = g; omega)); have Hbw2 := hide (Hbw1.out.chg hc2 (by have := Hgw.out; show ¬ w.heap.size + 1 = g; omega)); clear hr2 hc2)
      | (go_at_call 54; (refine (HIx.out _ _ Hbw2.out).mono ?_); rintro e w3 ⟨rfl, hw3⟩; subst hw3)
      | fail)
    have Hl2 := hide (show l.length = l.length from rfl)
    go_loopg [4, 17, 18, 19, 20, 21, 22, 23, 24, 25, 26] l.length (fun k vb v17 v18 v19 v20 v21 v22 v23 v24 v25 v26 wr => ∃ (vs : List Int) (l' : List (List UInt8)) (a : Addr) (n0 c0 : Nat), k = l'.length ∧ vb = .slice (some a) n0 c0 ∧ intsW l = addW vs (intsW l') ∧ (∀ y ∈ l', y.length ≤ 1000000) ∧ (∀ v ∈ vs, inI' v) ∧ vs.length + l'.length ≤ 1000 ∧ (cb.toUInt8 :: encL vs).length = n0 ∧ n0 ≤ c0 ∧ c0 ≤ maxLen ∧ Rd wr (some a) (bs (cb.toUInt8 :: encL vs)) ∧ a.block ≠ g ∧ RdrAt wr g l' ∧ Chg (fun k => k = g) w wr ∧ Blk wr w.heap.size 35 #[Value.int .i64 0, Value.int .i64 0, Value.int .i64 0, Value.int .i64 0, Value.int .i64 0, Value.int .i64 0, Value.int .i64 0, Value.int .i64 0, Value.int .i64 0, Value.int .i64 0, Value.int .i64 0, Value.int .i64 0, Value.int .i64 0, Value.int .i64 0, Value.int .i64 0, Value.int .i64 0, Value.int .i64 0, Value.int .i64 0])
    case atStart =>
      refine ⟨[], l, _, 1, 1, rfl, rfl, (addW_nil _).symm, Hx.out, by simp, by have := Hl.out; simp; omega, by simp [encL], Nat.le_refl _, by decide, ?_, ?_, Hr2.out.same ((Chg.refl _ _).alloc _), Chg.alloc Hc2.out _, Hbz2.out.alloc _⟩
      · have hb := Blk.new w2 5 #[.int .u8 (cb : Int)]
        rw [show bs (cb.toUInt8 :: encL []) = [.int .u8 (cb : Int)] from Hone.out]
        exact fun _ => ⟨_, 0, rfl, fun i y hy => by rw [Nat.zero_add, hb.cell]; simpa using hy⟩
      · have h1 := Hgw.out
        have h2 := Hc2.out.size
        show ¬ w2.heap.size = g
        omega
    case round =>
      obtain ⟨vs, l', a, n0, c0, hk, rfl, hi, hy, hin, hlen, hn0, hnc, hcm, hrd, hag, hrr, hcg, hbz⟩ := hrel
      have Hk := hide hk
      have Hi := hide hi
      have Hy := hide hy
      have Hin := hide hin
      have Hlen := hide hlen
      have Hn0 := hide hn0
      have Hnc := hide hnc
      have Hcm := hide hcm
      have Hrd := hide hrd
      have Hag := hide hag
      have Hcg := hide hcg
      have Hbz := hide hbz
      clear hk hi hy hin hlen hn0 hnc hcm hrd hag hcg hbz
      cases l' with
      | nil =>
        obtain ⟨A, c, hb, _⟩ := hrr
        have hkb := hb.cell 0
        simp only [List.getElem?_toArray, List.getElem?_cons_zero, List.length_nil] at hkb
        have hiv : intsW l = .ok vs := by rw [Hi.out]; simp [intsW, addW]
        have Hiv := hide hiv
        have hD := Decode_any (c := cb) (cc := c0) vs wr hcb256 Hn0.out Hnc.out Hcm.out Hrd.out Hin.out
        unfold DecodeEnd at hD
        rw [Hwk.out] at hD
        clear hb hiv
        cases ho : ofNums ((cb : Int) - 12) vs with
        | none =>
          have HD := hide (hD.mono (R' := fun e w' => e = .returned (.tuple #[rqV rqz, .int .i64 8]) ∧ Same wr w') (by
            rintro e w2 ⟨h, hs⟩
            rcases h with ⟨r', h1, _⟩ | ⟨_, h2⟩
            · rw [ho] at h1; cases h1
            · exact ⟨h2, hs⟩))
          have HE := hide (fun w' (hs : Same wr w') => HE2.out vs w' Hiv.out ho (Chg.trans Hcg.out (Same.to hs) (fun _ _ h => h)))
          have HM := hide (fun w' => mustR_bad rqz 8 w' (by decide))
          clear hD ho
          generalize rqV rqz = rz at *
          go_wp2_with (first
            | (go_at_call 78; (refine HD.out.mono ?_); rintro e w4 ⟨rfl, hs4⟩; have Hs4 := hide hs4; clear hs4)
            | (go_at_call 77; (refine (HM.out _).mono ?_); rintro e w5 ⟨rfl, hs5⟩; have Hs5 := hide (Same.trans Hs4.out hs5); clear hs5)
            | fail)
          exact ⟨rfl, HE.out _ Hs5.out⟩
        | some r =>
          have HD := hide (hD.mono (R' := fun e w' => e = .returned (.tuple #[rqV r, .int .i64 0]) ∧ Same wr w') (by
            rintro e w2 ⟨h, hs⟩
            rcases h with ⟨r', h1, h2⟩ | ⟨h1, _⟩
            · rw [ho] at h1; cases h1; exact ⟨h2, hs⟩
            · rw [ho] at h1; cases h1))
          have HE := hide (fun w' (hc : Chg (fun k => k = g) w w') => HE3.out vs r w' Hiv.out ho hc)
          have HM := hide (fun w' => mustR_ok r w')
          have Hr1 := hide (one_rqL r)
          have Hrl := hide (rqL_len r)
          clear hD ho
          unfold rqV at HD HM
          generalize rqL r = R at *
          go_wp2_with (first
            | (go_at_call 78; (refine HD.out.mono ?_); rintro e w4 ⟨rfl, hs4⟩; have Hs4 := hide hs4; clear hs4)
            | (go_at_call 77; (refine (HM.out _).mono ?_); rintro e w5 ⟨rfl, hs5⟩; have Hs5 := hide (Same.trans Hs4.out hs5); have Hbz5 := hide (Hbz.out.same (Same.trans Hs4.out hs5)); clear hs5)
            | (refine wpList_store_row (by rfl) 35 _ _ rfl w.heap.size R.toArray rfl rfl 35 _ Hbz5.out (by rw [List.size_toArray, Hrl.out]; exact infoRqE) (show (18 : Nat) = R.toArray.size by rw [List.size_toArray, Hrl.out]) (all_oneCell_toArray Hr1.out) ?_)
            | fail)
          refine bodyPost_ret (results_cell_row rfl _ _ _ _ _ _ _ rfl (Blk.setRow_ Hbz5.out _) Tryz.underlying35 rfl (by rw [List.size_toArray, Hrl.out]; exact infoRqE)) (by rfl) ?_
          exact HE.out _ (Chg.setRow (Chg.trans Hcg.out (Same.to Hs5.out) (fun _ _ h => h)) (.inr (Nat.le_refl _)) _)
      | cons y l2 =>
        have hRI := rint_some y l2 wr hrr (HErr.out wr Hcg.out) Hf.out (Hy.out y List.mem_cons_self)
        obtain ⟨A, c, hb, _⟩ := hrr
        have hkb := hb.cell 0
        simp only [List.getElem?_toArray, List.getElem?_cons_zero] at hkb
        have hpos : 0 < (y :: l2).length := by simp
        generalize (y :: l2).length = nn at hkb hpos
        clear hb
        cases hiy : intW y with
        | error c' =>
          obtain rfl := intW_8 hiy
          have HR := hide (hRI.mono (R' := fun e w' => e = .panicked (fault 0 8) ∧ Chg (fun k => k = g) wr w') (by
            rintro e w2 ⟨h, hc, _⟩
            rcases h with ⟨v', h1, _⟩ | ⟨_, h2⟩
            · rw [hiy] at h1; cases h1
            · exact ⟨h2, hc⟩))
          have HE := hide (fun w' (hc : Chg (fun k => k = g) wr w') => HE1.out 8 w' (by rw [Hi.out, intsW_bad vs hiy]) (Chg.trans Hcg.out hc (fun _ _ h => h)))
          clear hRI hiy
          go_wp2_with (first
            | (go_at_call 57; (refine HR.out.mono ?_); rintro e w4 ⟨rfl, hc4⟩; have Hc4 := hide hc4; clear hc4)
            | fail)
          exact ⟨rfl, HE.out _ Hc4.out⟩
        | ok v =>
          have HR := hide (hRI.mono (R' := fun e w' => e = .returned (.int .i64 v) ∧ Chg (fun k => k = g) wr w' ∧ RdrAt w' g l2) (by
            rintro e w2 ⟨h, hc, hr⟩
            rcases h with ⟨v', h1, h2⟩ | ⟨h1, _⟩
            · rw [hiy] at h1; cases h1; exact ⟨h2, hc, hr⟩
            · rw [hiy] at h1; cases h1))
          have hv := intW_in hiy
          have Hv := hide hv
          have Hi2 := hide (show intsW l = addW (vs ++ [v]) (intsW l2) by rw [Hi.out, intsW_ok vs hiy])
          have hC := fun w' (hc : Chg (fun k => k = g) wr w') => codecInt_any (a := a) (c := c0) (cb.toUInt8 :: encL vs) v w' hv.1 hv.2 (Hrd.out.chg hc (fun b hb _ e => Hag.out (by have e' : b = g := e; have h9 : a.block = b := (by simpa [blkOf] using hb); exact h9.trans e'))) (by have h8 := encL_len Hin.out; have := Hlen.out; simp at this ⊢; omega)
          rw [Hn0.out] at hC
          have HC := hide hC
          clear hRI hiy hv hC
          go_wp2_with (first
            | (go_at_call 57; (refine HR.out.mono ?_); rintro e w4 ⟨rfl, hc4, hr4⟩; have Hc4 := hide hc4; have Hr4 := hide hr4; clear hc4 hr4)
            | (go_at_call 76; (refine (HC.out _ Hc4.out).mono ?_); rintro e w5 ⟨A5, c5, rfl, ho5, hs5⟩; have Ho5 := hide ho5; have Hs5 := hide hs5; clear ho5 hs5)
            | fail)
          go_roundg l2.length
          case measure => have h7 := Hk.out; simp at h7; omega
          case rel =>
            have ho2 := Ho5.out
            obtain ⟨A6, c6, hv6, h51, h52, _, _, h55, _⟩ := own_form ho2
            cases hv6
            obtain ⟨b5, o5, rfl, _⟩ := h52 (by simp [bs])
            have hblk := (ho2.lt b5 (by rw [ownBlock_slice]; rfl)).1
            refine ⟨vs ++ [v], l2, ⟨b5, o5, none⟩, _, c5, rfl, rfl, Hi2.out, fun z hz => Hy.out z (List.mem_cons_of_mem _ hz), ?_, ?_, ?_, (by have h8 := h51; simp at h8 ⊢; omega), h55, ?_, ?_, Hr4.out.same Hs5.out, Chg.trans (Chg.trans Hcg.out Hc4.out (fun _ _ h => h)) (Same.to Hs5.out) (fun _ _ h => h), (Hbz.out.chg Hc4.out (by have := Hgw.out; show ¬ w.heap.size = g; omega)).same Hs5.out⟩
            · intro z hz
              rcases List.mem_append.1 hz with h | h
              · exact Hin.out z h
              · rw [List.mem_singleton.1 h]; exact Hv.out
            · have := Hlen.out; simp at this ⊢; omega
            · rw [encL_snoc]; simp
            · rw [encL_snoc]; exact h52
            · have h1 := Hgw.out
              have h2 := (Chg.trans Hcg.out Hc4.out (fun _ _ h => h)).size
              show ¬ b5 = g
              omega
end Go.Proofs.YtlodanjpkjfjiaaGreatDoor
