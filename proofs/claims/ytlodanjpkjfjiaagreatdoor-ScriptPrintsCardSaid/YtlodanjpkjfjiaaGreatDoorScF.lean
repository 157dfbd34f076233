/-
  script.writer.request: a request's word and its numbers. Conditions: a good request, numbers that an int holds; Go's tables are laid; not too many words.
-/
import Derived.Test.YtlodanjpkjfjiaaGreatDoorStA
import Derived.Test.YtlodanjpkjfjiaaGreatDoorAcW

namespace Go.Proofs.YtlodanjpkjfjiaaGreatDoor
open Go.RowKit Go.Al
set_option linter.unusedVariables false

theorem WS.not {w : World} {g k : Nat} {t : TypeId} (ht : ty w k = some t) (hn : t ≠ 9) (hk : k ≠ g) : ¬ WS g w k := fun h => by
  rcases h with h | h
  · exact hk h
  · rw [ht] at h; exact hn (Option.some.inj h.2)
theorem WrtAt.lt {w : World} {g : Nat} {ws : List (List UInt8)} (h : WrtAt w g ws) : g < w.heap.size ∧ ty w g = some 103 := by
  obtain ⟨A, c, hb, _⟩ := h
  exact ⟨hb.lt, hb.ty⟩
theorem tab_chg0 {P : Program} {S : Nat → Prop} {w w' : World} {name : String} {k : IntKind} {zs : List Int} (h : Lib.TabIs P w name k zs) (hc : Chg S w w') (hS : ∀ k, P.globalNamed name = some k → ¬ S k) : Lib.TabIs P w' name k zs := by
  unfold Lib.TabIs at h ⊢
  exact var_chg h hc hS
theorem tab_ws {w w' : World} {g : Nat} {name : String} {k : IntKind} {zs : List Int} (h : Lib.TabIs Tryz.prog w name k zs) (hc : Chg (WS g w) w w') (hS : ∀ k, Tryz.prog.globalNamed name = some k → ¬ WS g w k) : Lib.TabIs Tryz.prog w' name k zs := tab_chg0 h hc hS
/-- what the writer's walks lean on: Go's tables, and that they lie below the writer -/
structure WTab (g : Nat) (w : World) : Prop where
  sp : Lib.TabIs Tryz.prog w "strings.asciiSpace" .u8 Lib.asciiSpaceTab
  pw : Lib.TabIs Tryz.prog w "internal/strconv.uint64pow10" .u64 Lib.pow10Tab
  low : ∀ k, Tryz.prog.globalNamed "strings.asciiSpace" = some k ∨ Tryz.prog.globalNamed "internal/strconv.uint64pow10" = some k → k < g
theorem WTab.chg {g : Nat} {w w' : World} {S : Nat → Prop} (h : WTab g w) (hc : Chg S w w') (hS : ∀ k, S k → g ≤ k) : WTab g w' :=
  ⟨tab_chg0 h.sp hc (fun k hk e => by have := hS k e; have := h.low k (.inl hk); omega), tab_chg0 h.pw hc (fun k hk e => by have := hS k e; have := h.low k (.inr hk); omega), h.low⟩
theorem WTab.same {g : Nat} {w w' : World} (h : WTab g w) (hc : Same w w') : WTab g w' := h.chg hc fun k e => e.elim
theorem WS.ge {g k : Nat} {w : World} (h : WS g w k) : g ≤ k := by
  rcases h with h | h
  · omega
  · exact h.1
theorem WTab.ws {g : Nat} {w w' : World} (h : WTab g w) (hc : Chg (WS g w) w w') : WTab g w' := h.chg hc fun _ h => h.ge
theorem word_get (k : Nat) (h : k < 11) : (wds wordsR)[k]? = some (strV (wordAt wordsR ((k : Int) + 1))) := by
  have : ∀ m : Fin 11, wordsR[m.val]? = some (wordAt wordsR ((m.val : Int) + 1)) := by decide +kernel
  unfold wds
  rw [List.getElem?_map, this ⟨k, h⟩]
  rfl
/-- what is to come of the numbers -/
structure Lft (w wr : World) (g : Nat) (ns : List Int) (A : Option Addr) (n c : Nat) (ws : List (List UInt8)) (l : List Int) : Prop where
  spl : ∃ d, ns = d ++ l ∧ WrtAt wr g (ws ++ d.map Lib.itoa)
  len : (encL l).length = n
  rd : Rd wr A (bs (encL l))
  ty : TyA wr 5 A
  le : n ≤ c
  cp : c ≤ maxLen
  chg : Chg (WS g w) w wr
set_option maxRecDepth 100000 in
set_option maxHeartbeats 8000000 in
theorem wreq_c {g : Nat} (r : Rq) (ws : List (List UInt8)) (w : World) (h : WrtAt w g ws) (hn : ws.length ≤ 1000) (hg : goodR r = true) (hw : WfR r) (ht : WTab g w) (hk : r.k = 1) :
    Calls Tryz.prog 63 #[.pointer (some ⟨g, 0, none⟩), rqV r] w fun e w' => e = .returned (.tuple #[]) ∧ Chg (WS g w) w w' ∧ WrtAt w' g (ws ++ (wordAt wordsR (kindR r) :: (numsR r).map Lib.itoa)) := by
  have hkc := good_cases hg
  obtain ⟨j, hj, hjl⟩ : ∃ j : Nat, r.c.k = (j : Int) + 1 ∧ j < 4 := ⟨(kindR r - 1).toNat, by unfold kindR; rw [hk]; simp; omega, by unfold kindR; rw [hk]; simp; omega⟩
  have hkr : kindR r = (j : Int) + 1 := by unfold kindR; rw [hk]; simp; omega
  rw [hkr]
  have hwg := word_get j (by omega)
  have hgt := h.lt
  have hb0 := Blk.new w 35 (rqL r).toArray
  have hra := blk_range hb0
  have h0 : (rqL r)[0]? = some (.int .i64 r.k) := rfl
  have h1 : (rqL r)[1]? = some (.int .i64 r.c.k) := rfl
  have h8 : (rqL r)[8]? = some (.int .i64 r.q.k) := rfl
  have hk0 := hb0.cell 0
  have hk1 := hb0.cell 1
  have hk8 := hb0.cell 8
  simp only [List.getElem?_toArray, h0, h1, h8] at hk0 hk1 hk8
  rw [hk] at hk0
  have Hs0 := hide ((Chg.refl (fun _ => False) w).alloc (.cells (rqL r).toArray 35))
  have HQ := hide (requests_any _ (ht.same Hs0.out).sp)
  have HW := hide (fun w' (hs : Same w w') => wword_any (wordAt wordsR ((j : Int) + 1)) ws w' (h.same hs) (by omega))
  have HE := hide (fun w' => encode2_any r w' hg hw)
  have Hnums := hide (hw.nums)
  have Hnl := hide (numsR_len hg).2
  have Htab := hide ht
  have HI := hide (fun (n : Int) (us : List (List UInt8)) (w' : World) (hc : Chg (WS g w) w w') (hr : WrtAt w' g us) (hu : us.length ≤ 2000) (i0 : -9223372036854775808 ≤ n ∧ n ≤ 9223372036854775807) => wint_any n us w' hr (by omega) i0.1 i0.2 (ht.ws hc).pw)
  have Hl18 := hide (rqL_len r)
  have Hra := hide hra
  have Hb0 := hide hb0
  have Hgt := hide hgt
  have Hhn := hide hn
  have hgl := hgt.1
  rw [hj] at hk1
  have Hek := hide (show encR r = (kindB r).toUInt8 :: encL (numsR r) from rfl)
  clear h hn hg hw ht hb0 hra h0 h1 h8 hkc hkr hgt hk
  unfold rqV at HE ⊢
  unfold EncEnd2 at HE
  unfold WdsEnd at HQ
  simp only [World.size_alloc] at HQ
  rw [Hek.out] at HE
  generalize (kindB r).toUInt8 = kb at *
  generalize numsR r = Ns at *
  generalize rqL r = R at *
  obtain ⟨N, hN⟩ : ∃ N, (kb :: encL Ns).length = N := ⟨_, rfl⟩
  rw [hN] at HE
  have HN := hide hN
  clear hN
  generalize wordAt wordsR ((j : Int) + 1) = W at *
  have Hwg := hide hwg
  unfold strV at HW hwg
  clear Hek
  go_enter Tryz.func63, Tryz.ntmps63
  go_wp2_with (first
    | (go_at_call 75; (refine HQ.out.mono ?_); rintro e w1 ⟨rfl, hw1⟩; have Hs1 := hide (show Same w w1 from hw1 ▸ Chg.alloc Hs0.out _); have Hb1 := hide (show Blk w1 w.heap.size 35 R.toArray from hw1 ▸ Blk.alloc Hb0.out _); have Hbw1 := hide (show Blk w1 (w.heap.size + 1) 9 (wds wordsR).toArray by rw [hw1]; have h := Blk.new (w.alloc (.cells R.toArray 35)) 9 (wds wordsR).toArray; rw [World.size_alloc] at h; exact h); have hkw := Hbw1.out.cell j; simp only [List.getElem?_toArray, Hwg.out] at hkw; unfold strV at hkw; have hwl : wordsR.length = 11 := rfl; clear hw1)
    | (go_at_call 61; (refine (HW.out _ Hs1.out).mono ?_); rintro e w2 ⟨rfl, hc2, hr2⟩; have Hr2 := hide hr2; have Hc2 := hide (Chg.trans (Same.to (S := WS g w) Hs1.out) hc2 (fun _ hk h => h.tr Hs1.out hk)); have Hb2 := hide (Hb1.out.chg hc2 (WS.not Hb1.out.ty (by decide) (by have := Hgt.out.1; omega))); have Hra2 := hide (blk_range Hb2.out); clear hr2 hc2)
    | (refine wpList_ld (by rfl) 35 _ rfl w.heap.size 0 rfl R _ Hra2.out Tryz.underlying35 rfl (by rw [Hl18.out]; exact infoRqE) ?_)
    | (go_at_call 85; (refine (HE.out _).mono ?_); rintro e w3 ⟨a3, c3, rfl, hr3, ht3, hl3, hm3, hs3⟩; obtain ⟨A4, hcut, hrd4, hbk4⟩ := cut_lo slB hr3 (by unfold bs; rw [List.length_map, Nat.mul_one]; exact HN.out) hl3 .i64 1 1 rfl (by have := HN.out; simp at this; omega); have Hc3 := hide (Chg.same Hc2.out hs3); have Hr3 := hide (Hr2.out.same hs3); have Hrd4 := hide (show Rd w3 A4 (bs (encL Ns)) from hrd4); have Hty4 := hide (ht3.of_blk hbk4); have Hm4 := hide (show N - 1 = (encL Ns).length ∧ N - 1 ≤ c3 - 1 ∧ c3 - 1 ≤ maxLen from ⟨by have := HN.out; simp at this; omega, by omega, by omega⟩); clear hr3 ht3 hl3 hm3 hs3 hrd4 hbk4)
    | fail)
  go_loopg [5, 7, 8] Ns.length (fun k v5 v7 v8 wr => ∃ (l : List Int) (A : Option Addr) (n c : Nat), k = l.length ∧ v5 = .slice A n c ∧ Lft w wr g Ns A n c (ws ++ [W]) l)
  case atStart => exact ⟨Ns, _, _, _, rfl, rfl, ⟨⟨[], rfl, by rw [List.map_nil, List.append_nil]; exact Hr3.out⟩, Hm4.out.1.symm, Hrd4.out, Hty4.out, Hm4.out.2.1, Hm4.out.2.2, Hc3.out⟩⟩
  case round =>
    obtain ⟨l, A, n, c, hk, rfl, hL⟩ := hrel
    have HL := hide hL
    have Hk := hide hk
    clear hL hk hcut
    cases l with
    | nil =>
      have hn0 : n = 0 := HL.out.len.symm
      subst hn0
      have HF := hide HL.out
      go_wp2_with fail
      go_end0
      obtain ⟨d, hd, hr⟩ := HF.out.spl
      rw [List.append_nil] at hd
      subst hd
      exact ⟨rfl, HF.out.chg, by rw [← List.append_cons] at hr; first | exact hr | (rw [List.append_assoc] at hr; exact hr)⟩
    | cons x l =>
      have hn0 := HL.out.len
      have hx := Hnums.out x (by obtain ⟨d, hd, _⟩ := HL.out.spl; rw [hd]; simp)
      have he1 := encI_pos x
      have hen : (encL (x :: l)).length = (encI x).length + (encL l).length := by unfold encL; rw [List.flatMap_cons, List.length_append]
      have hec : encL (x :: l) = encI x ++ encL l := by unfold encL; rw [List.flatMap_cons]
      have hnpos : 0 < n := by omega
      have hmx := HL.out.cp
      have hle := HL.out.le
      unfold maxLen at hmx
      have HR := hide (Read_some (A := A) (n := n) (c := c) x (encL l) wr hx.1 hx.2 (by rw [← hec]; exact HL.out.rd) (by rw [← hec]; exact hn0) hle HL.out.cp)
      obtain ⟨A5, hcut5, hrd5, hbk5⟩ := cut_lo slB HL.out.rd (by unfold bs; rw [List.length_map, Nat.mul_one]; exact hn0) hle .i64 (((encI x).length : Nat) : Int) (encI x).length rfl (by omega)
      have Hrd5 := hide (show Rd wr A5 (bs (encL l)) by rw [hec] at hrd5; unfold bs at hrd5 ⊢; rw [Nat.mul_one, ← List.map_drop, List.drop_left] at hrd5; exact hrd5)
      have Hbk5 := hide hbk5
      have Hn5 := hide (show (encL l).length = n - (encI x).length by omega)
      have Hc5 := hide (show n - (encI x).length ≤ c - (encI x).length ∧ c - (encI x).length ≤ maxLen from ⟨by omega, Nat.le_trans (Nat.sub_le _ _) HL.out.cp⟩)
      obtain ⟨d, hd, hrd⟩ := HL.out.spl
      have Hd := hide hd
      have Hrd := hide hrd
      have Hdl := hide (show (ws ++ [W] ++ d.map Lib.itoa).length ≤ 2000 by
        have h9 := Hnl.out
        have h8 := Hhn.out
        rw [hd] at h9
        simp at h9 ⊢
        omega)
      have HIn := hide (fun w' (hs : Same wr w') => HI.out x _ w' (Chg.same HL.out.chg hs) (hrd.same hs) Hdl.out hx)
      clear hn0 hx hen hec hrd5 hbk5 hd hrd hle
      generalize (encI x).length = sz at *
      generalize n - sz = n5 at *
      generalize c - sz = c5 at *
      go_wp2_with (first
        | (go_at_call 86; (with_reducible refine HR.out.mono ?_); rintro e w6 ⟨rfl, hs6⟩; have Hs6 := hide hs6; clear hs6)
        | (go_at_call 62; (with_reducible refine (HIn.out _ Hs6.out).mono ?_); rintro e w7 ⟨rfl, hc7, hr7⟩; have Hc7 := hide (Chg.trans (Same.to (S := WS g wr) Hs6.out) hc7 (fun _ hk h => h.tr Hs6.out hk)); have Hr7 := hide hr7; clear hc7 hr7)
        | fail)
      go_roundg l.length
      case measure => have h7 := Hk.out; simp at h7; omega
      case rel =>
        have hty5 := HL.out.ty.of_blk Hbk5.out
        refine ⟨l, A5, n5, c5, rfl, rfl, ⟨⟨d ++ [x], by rw [Hd.out]; simp, by rw [List.map_append, ← List.append_assoc]; exact Hr7.out⟩, Hn5.out, ?_, hty5.chg Hc7.out, Hc5.out.1, Hc5.out.2, Chg.trans HL.out.chg Hc7.out (fun _ hk h => h.tr HL.out.chg hk)⟩⟩
        exact Hrd5.out.chg Hc7.out fun b hb hlt => WS.not (hty5 b hb) (by decide) (fun e => by
          have h1 := hty5 b hb
          rw [e, Hrd.out.lt.2] at h1
          exact absurd (Option.some.inj h1) (by decide))
set_option maxRecDepth 100000 in
set_option maxHeartbeats 8000000 in
theorem wreq_q {g : Nat} (r : Rq) (ws : List (List UInt8)) (w : World) (h : WrtAt w g ws) (hn : ws.length ≤ 1000) (hg : goodR r = true) (hw : WfR r) (ht : WTab g w) (hk : r.k = 2) :
    Calls Tryz.prog 63 #[.pointer (some ⟨g, 0, none⟩), rqV r] w fun e w' => e = .returned (.tuple #[]) ∧ Chg (WS g w) w w' ∧ WrtAt w' g (ws ++ (wordAt wordsR (kindR r) :: (numsR r).map Lib.itoa)) := by
  have hkc := good_cases hg
  obtain ⟨j, hj, hjl⟩ : ∃ j : Nat, 4 + r.q.k = (j : Int) + 1 ∧ j < 11 := ⟨(kindR r - 1).toNat, by unfold kindR; rw [hk]; simp; omega, by unfold kindR; rw [hk]; simp; omega⟩
  have hkr : kindR r = (j : Int) + 1 := by unfold kindR; rw [hk]; simp; omega
  rw [hkr]
  have hwg := word_get j (by omega)
  have hgt := h.lt
  have hb0 := Blk.new w 35 (rqL r).toArray
  have hra := blk_range hb0
  have h0 : (rqL r)[0]? = some (.int .i64 r.k) := rfl
  have h1 : (rqL r)[1]? = some (.int .i64 r.c.k) := rfl
  have h8 : (rqL r)[8]? = some (.int .i64 r.q.k) := rfl
  have hk0 := hb0.cell 0
  have hk1 := hb0.cell 1
  have hk8 := hb0.cell 8
  simp only [List.getElem?_toArray, h0, h1, h8] at hk0 hk1 hk8
  rw [hk] at hk0
  have Hs0 := hide ((Chg.refl (fun _ => False) w).alloc (.cells (rqL r).toArray 35))
  have HQ := hide (requests_any _ (ht.same Hs0.out).sp)
  have HW := hide (fun w' (hs : Same w w') => wword_any (wordAt wordsR ((j : Int) + 1)) ws w' (h.same hs) (by omega))
  have HE := hide (fun w' => encode2_any r w' hg hw)
  have Hnums := hide (hw.nums)
  have Hnl := hide (numsR_len hg).2
  have Htab := hide ht
  have HI := hide (fun (n : Int) (us : List (List UInt8)) (w' : World) (hc : Chg (WS g w) w w') (hr : WrtAt w' g us) (hu : us.length ≤ 2000) (i0 : -9223372036854775808 ≤ n ∧ n ≤ 9223372036854775807) => wint_any n us w' hr (by omega) i0.1 i0.2 (ht.ws hc).pw)
  have Hl18 := hide (rqL_len r)
  have Hra := hide hra
  have Hb0 := hide hb0
  have Hgt := hide hgt
  have Hhn := hide hn
  have hgl := hgt.1
  obtain ⟨qk, hqk⟩ : ∃ q, r.q.k = q := ⟨_, rfl⟩
  rw [hqk] at hj hk8
  have hq1 : 1 ≤ qk ∧ qk ≤ 7 := by omega
  clear hqk
  have Hek := hide (show encR r = (kindB r).toUInt8 :: encL (numsR r) from rfl)
  clear h hn hg hw ht hb0 hra h0 h1 h8 hkc hkr hgt hk
  unfold rqV at HE ⊢
  unfold EncEnd2 at HE
  unfold WdsEnd at HQ
  simp only [World.size_alloc] at HQ
  rw [Hek.out] at HE
  generalize (kindB r).toUInt8 = kb at *
  generalize numsR r = Ns at *
  generalize rqL r = R at *
  obtain ⟨N, hN⟩ : ∃ N, (kb :: encL Ns).length = N := ⟨_, rfl⟩
  rw [hN] at HE
  have HN := hide hN
  clear hN
  generalize wordAt wordsR ((j : Int) + 1) = W at *
  have Hwg := hide hwg
  unfold strV at HW hwg
  clear Hek
  have hj11 : j < 11 := hjl
  go_enter Tryz.func63, Tryz.ntmps63
  go_wp2_with (first
    | (go_at_call 75; (refine HQ.out.mono ?_); rintro e w1 ⟨rfl, hw1⟩; have Hs1 := hide (show Same w w1 from hw1 ▸ Chg.alloc Hs0.out _); have Hb1 := hide (show Blk w1 w.heap.size 35 R.toArray from hw1 ▸ Blk.alloc Hb0.out _); have Hbw1 := hide (show Blk w1 (w.heap.size + 1) 9 (wds wordsR).toArray by rw [hw1]; have h := Blk.new (w.alloc (.cells R.toArray 35)) 9 (wds wordsR).toArray; rw [World.size_alloc] at h; exact h); have hkw := Hbw1.out.cell j; simp only [List.getElem?_toArray, Hwg.out] at hkw; unfold strV at hkw; have hwl : wordsR.length = 11 := rfl; clear hw1)
    | (go_at_call 61; (refine (HW.out _ Hs1.out).mono ?_); rintro e w2 ⟨rfl, hc2, hr2⟩; have Hr2 := hide hr2; have Hc2 := hide (Chg.trans (Same.to (S := WS g w) Hs1.out) hc2 (fun _ hk h => h.tr Hs1.out hk)); have Hb2 := hide (Hb1.out.chg hc2 (WS.not Hb1.out.ty (by decide) (by have := Hgt.out.1; omega))); have Hra2 := hide (blk_range Hb2.out); clear hr2 hc2)
    | (refine wpList_ld (by rfl) 35 _ rfl w.heap.size 0 rfl R _ Hra2.out Tryz.underlying35 rfl (by rw [Hl18.out]; exact infoRqE) ?_)
    | (go_at_call 85; (refine (HE.out _).mono ?_); rintro e w3 ⟨a3, c3, rfl, hr3, ht3, hl3, hm3, hs3⟩; obtain ⟨A4, hcut, hrd4, hbk4⟩ := cut_lo slB hr3 (by unfold bs; rw [List.length_map, Nat.mul_one]; exact HN.out) hl3 .i64 1 1 rfl (by have := HN.out; simp at this; omega); have Hc3 := hide (Chg.same Hc2.out hs3); have Hr3 := hide (Hr2.out.same hs3); have Hrd4 := hide (show Rd w3 A4 (bs (encL Ns)) from hrd4); have Hty4 := hide (ht3.of_blk hbk4); have Hm4 := hide (show N - 1 = (encL Ns).length ∧ N - 1 ≤ c3 - 1 ∧ c3 - 1 ≤ maxLen from ⟨by have := HN.out; simp at this; omega, by omega, by omega⟩); clear hr3 ht3 hl3 hm3 hs3 hrd4 hbk4)
    | fail)
  go_loopg [5, 7, 8] Ns.length (fun k v5 v7 v8 wr => ∃ (l : List Int) (A : Option Addr) (n c : Nat), k = l.length ∧ v5 = .slice A n c ∧ Lft w wr g Ns A n c (ws ++ [W]) l)
  case atStart => exact ⟨Ns, _, _, _, rfl, rfl, ⟨⟨[], rfl, by rw [List.map_nil, List.append_nil]; exact Hr3.out⟩, Hm4.out.1.symm, Hrd4.out, Hty4.out, Hm4.out.2.1, Hm4.out.2.2, Hc3.out⟩⟩
  case round =>
    obtain ⟨l, A, n, c, hk, rfl, hL⟩ := hrel
    have HL := hide hL
    have Hk := hide hk
    clear hL hk hcut
    cases l with
    | nil =>
      have hn0 : n = 0 := HL.out.len.symm
      subst hn0
      have HF := hide HL.out
      go_wp2_with fail
      go_end0
      obtain ⟨d, hd, hr⟩ := HF.out.spl
      rw [List.append_nil] at hd
      subst hd
      exact ⟨rfl, HF.out.chg, by rw [← List.append_cons] at hr; first | exact hr | (rw [List.append_assoc] at hr; exact hr)⟩
    | cons x l =>
      have hn0 := HL.out.len
      have hx := Hnums.out x (by obtain ⟨d, hd, _⟩ := HL.out.spl; rw [hd]; simp)
      have he1 := encI_pos x
      have hen : (encL (x :: l)).length = (encI x).length + (encL l).length := by unfold encL; rw [List.flatMap_cons, List.length_append]
      have hec : encL (x :: l) = encI x ++ encL l := by unfold encL; rw [List.flatMap_cons]
      have hnpos : 0 < n := by omega
      have hmx := HL.out.cp
      have hle := HL.out.le
      unfold maxLen at hmx
      have HR := hide (Read_some (A := A) (n := n) (c := c) x (encL l) wr hx.1 hx.2 (by rw [← hec]; exact HL.out.rd) (by rw [← hec]; exact hn0) hle HL.out.cp)
      obtain ⟨A5, hcut5, hrd5, hbk5⟩ := cut_lo slB HL.out.rd (by unfold bs; rw [List.length_map, Nat.mul_one]; exact hn0) hle .i64 (((encI x).length : Nat) : Int) (encI x).length rfl (by omega)
      have Hrd5 := hide (show Rd wr A5 (bs (encL l)) by rw [hec] at hrd5; unfold bs at hrd5 ⊢; rw [Nat.mul_one, ← List.map_drop, List.drop_left] at hrd5; exact hrd5)
      have Hbk5 := hide hbk5
      have Hn5 := hide (show (encL l).length = n - (encI x).length by omega)
      have Hc5 := hide (show n - (encI x).length ≤ c - (encI x).length ∧ c - (encI x).length ≤ maxLen from ⟨by omega, Nat.le_trans (Nat.sub_le _ _) HL.out.cp⟩)
      obtain ⟨d, hd, hrd⟩ := HL.out.spl
      have Hd := hide hd
      have Hrd := hide hrd
      have Hdl := hide (show (ws ++ [W] ++ d.map Lib.itoa).length ≤ 2000 by
        have h9 := Hnl.out
        have h8 := Hhn.out
        rw [hd] at h9
        simp at h9 ⊢
        omega)
      have HIn := hide (fun w' (hs : Same wr w') => HI.out x _ w' (Chg.same HL.out.chg hs) (hrd.same hs) Hdl.out hx)
      clear hn0 hx hen hec hrd5 hbk5 hd hrd hle
      generalize (encI x).length = sz at *
      generalize n - sz = n5 at *
      generalize c - sz = c5 at *
      go_wp2_with (first
        | (go_at_call 86; (with_reducible refine HR.out.mono ?_); rintro e w6 ⟨rfl, hs6⟩; have Hs6 := hide hs6; clear hs6)
        | (go_at_call 62; (with_reducible refine (HIn.out _ Hs6.out).mono ?_); rintro e w7 ⟨rfl, hc7, hr7⟩; have Hc7 := hide (Chg.trans (Same.to (S := WS g wr) Hs6.out) hc7 (fun _ hk h => h.tr Hs6.out hk)); have Hr7 := hide hr7; clear hc7 hr7)
        | fail)
      go_roundg l.length
      case measure => have h7 := Hk.out; simp at h7; omega
      case rel =>
        have hty5 := HL.out.ty.of_blk Hbk5.out
        refine ⟨l, A5, n5, c5, rfl, rfl, ⟨⟨d ++ [x], by rw [Hd.out]; simp, by rw [List.map_append, ← List.append_assoc]; exact Hr7.out⟩, Hn5.out, ?_, hty5.chg Hc7.out, Hc5.out.1, Hc5.out.2, Chg.trans HL.out.chg Hc7.out (fun _ hk h => h.tr HL.out.chg hk)⟩⟩
        exact Hrd5.out.chg Hc7.out fun b hb hlt => WS.not (hty5 b hb) (by decide) (fun e => by
          have h1 := hty5 b hb
          rw [e, Hrd.out.lt.2] at h1
          exact absurd (Option.some.inj h1) (by decide))
theorem wreq_any {g : Nat} (r : Rq) (ws : List (List UInt8)) (w : World) (h : WrtAt w g ws) (hn : ws.length ≤ 1000) (hg : goodR r = true) (hw : WfR r) (ht : WTab g w) :
    Calls Tryz.prog 63 #[.pointer (some ⟨g, 0, none⟩), rqV r] w fun e w' => e = .returned (.tuple #[]) ∧ Chg (WS g w) w w' ∧ WrtAt w' g (ws ++ (wordAt wordsR (kindR r) :: (numsR r).map Lib.itoa)) := by
  rcases good_cases hg with ⟨hk, _⟩ | ⟨hk, _⟩
  · exact wreq_c r ws w h hn hg hw ht hk
  · exact wreq_q r ws w h hn hg hw ht hk
end Go.Proofs.YtlodanjpkjfjiaaGreatDoor
