/-
  RingPlays' walk: behind each act the ring and the document's list tell alike. No conditions.
-/
import Derived.Test.YtkakhpbeglkbnaaRgH
namespace Go.Proofs.Ytkakhpbeglkbnaa
open Go.RowKit Go.Al Go.Al.Rg
set_option linter.unusedVariables false

/-- the list lies outside the ring's own blocks -/
def Off (F : Nat → Prop) (A : Option Addr) : Prop := ∀ b, blkOf A = some b → ¬ F b
theorem Off.stp {F F' : Nat → Prop} {w w' : World} {A : Option Addr} {n c : Nat} {l : List Int} (h : Off F A) (hr : Row w A n c l) (hs : Stp F w F' w') : Row w' A n c l ∧ Off F' A :=
  ⟨hr.chg hs.chg h, fun b hb => hs.out (hr.2.2.2.2 b hb) (h b hb)⟩
theorem Off.from_ {F : Nat → Prop} {w : World} {A A' : Option Addr} (h : Off F A) (hf : From w A A') (hF : ∀ k, F k → k < w.heap.size) : Off F A' :=
  fun b hb hk => (hf b hb).elim (fun h1 => h b h1 hk) fun h1 => by have := hF b hk; omega
theorem Row.at_ {w : World} {A : Option Addr} {n c : Nat} {l : List Int} (h : Row w A n c l) (hn : 0 < n) : ∃ b off, A = some ⟨b, off, none⟩ ∧ b < w.heap.size ∧ w.cell? ⟨b, off, none⟩ = some (.int .i64 (headI l)) := by
  have hl := h.2.1
  obtain ⟨b, off, rfl, hc⟩ := h.1.at_ (i := 0) (by simp; omega)
  refine ⟨b, off, rfl, h.2.2.2.2 b rfl, ?_⟩
  cases l with
  | nil => simp at hl; omega
  | cons x r => simpa [is, headI] using hc
theorem Row.tail {w : World} {A : Option Addr} {n c : Nat} {l : List Int} (h : Row w A n c l) (hn : 0 < n) :
    ∃ A', (∀ w : World, (Instr.slice 36 (.slice A n c) (some (.int .i64 1)) none none).run Try.prog w = .ok (.slice A' (n - 1) (c - 1)) w) ∧ Row w A' (n - 1) (c - 1) l.tail ∧ blkOf A' = blkOf A := by
  obtain ⟨A', h1, h2, h3⟩ := cut_lo slI h.1 (by simp [h.2.1]) h.2.2.1 .i64 1 1 rfl hn
  have := h.2.2.1
  have := h.2.2.2.1
  refine ⟨A', h1, ⟨?_, by simp [h.2.1], by omega, by omega, fun b hb => h.2.2.2.2 b (h3 ▸ hb)⟩, h3⟩
  rw [is_drop, Nat.one_mul, List.drop_one] at h2
  exact h2
theorem Row.tail1 {w : World} {A : Option Addr} {n c : Nat} {l : List Int} (h : Row w A (n + 1) c l) :
    ∃ A', (∀ w : World, (Instr.slice 36 (.slice A (n + 1) c) (some (.int .i64 1)) none none).run Try.prog w = .ok (.slice A' n (c - 1)) w) ∧ Row w A' n (c - 1) l.tail ∧ blkOf A' = blkOf A := h.tail (Nat.succ_pos n)
theorem someQ_nil {q : List Int} (h : q = []) : someQ q = false := by subst h; rfl
theorem someQ_cons {q : List Int} (h : 0 < q.length) : someQ q = true := by cases q with | nil => simp at h | cons => rfl
theorem headI_nil {q : List Int} (h : q = []) : headI q = 0 := by subst h; rfl
theorem Row.cell0 {w : World} {b off n c : Nat} {l : List Int} (h : Row w (some ⟨b, off, none⟩) n c l) (hn : 0 < n) : w.cell? ⟨b, off, none⟩ = some (.int .i64 (headI l)) := by
  obtain ⟨b', off', e, _, hc⟩ := h.at_ hn
  obtain ⟨rfl, rfl⟩ : b = b' ∧ off = off' := by injection e with e; injection e with e1 e2; exact ⟨e1, e2⟩
  exact hc
theorem dropQ_len (q : List Int) (v : Int) : (dropQ q v).length ≤ q.length := by
  unfold dropQ
  split
  · rw [List.length_eraseIdx]; split <;> omega
  · exact Nat.le_refl _
theorem pushQ_len {q : List Int} {m : Nat} (v : Int) (h : q.length ≤ m) : (pushQ q m v).length ≤ m := by
  unfold pushQ
  split
  · exact h
  · split
    · exact h
    · simp; omega

set_option maxRecDepth 100000 in
set_option maxHeartbeats 400000 in
theorem ringPlays_bad (most : Int) (A0 : Option Addr) (N C : Nat) (ask : Int) (w : World) (hm : most < 1 ∨ 65536 < most) :
    Calls Try.prog 4 #[.int .i64 most, .slice A0 N C, .int .i64 ask] w fun e w' => e = .returned (.bool true) ∧ Same w w' := by
  have Hm := hide hm
  by_cases h1 : most < 1
  · clear hm
    go_enter Try.func4, Try.ntmps4
    go_wp2_with (first
      | (go_at_call 9; have hF := rnew_bad most w Hm.out; refine hF.mono ?_; rintro e w1 ⟨rfl, rfl⟩; clear hF)
      | (go_at_call 12; have hF := lives_any w; refine hF.mono ?_; rintro e w2 ⟨rfl, hs2⟩; have Hs2 := hide hs2; clear hs2 hF))
    go_ret
    exact ⟨rfl, Hs2.out⟩
  · have h2 : 65536 < most := by omega
    clear hm
    go_enter Try.func4, Try.ntmps4
    go_wp2_with (first
      | (go_at_call 9; have hF := rnew_bad most w Hm.out; refine hF.mono ?_; rintro e w1 ⟨rfl, rfl⟩; clear hF)
      | (go_at_call 12; have hF := lives_any w; refine hF.mono ?_; rintro e w2 ⟨rfl, hs2⟩; have Hs2 := hide hs2; clear hs2 hF))
    go_ret
    exact ⟨rfl, Hs2.out⟩

set_option maxRecDepth 100000 in
set_option maxHeartbeats 16000000 in
theorem ringPlays_ok (m : Nat) (A0 : Option Addr) (N C : Nat) (l0 : List (Int × Int)) (ask : Int) (w : World) (ha : Acts w A0 N l0) (hnm : N ≤ C) (hcm : C ≤ maxLen) (hm1 : 1 ≤ m) (hm3 : m ≤ 65536) :
    Calls Try.prog 4 #[.int .i64 m, .slice A0 N C, .int .i64 ask] w fun e w' => e = .returned (.bool true) ∧ Same w w' := by
  have Ha := hide ha
  have n1 : N ≤ maxLen := by omega
  unfold maxLen at n1
  have g1 : 1 ≤ (m : Int) := by omega
  have g2 : (m : Int) ≤ 65536 := by omega
  clear ha hcm hnm
  go_enter Try.func4, Try.ntmps4
  go_wp2_with (first
    | (go_at_call 9
       have hF := ring_new m w g1 g2
       refine hF.mono ?_
       rintro e w1 ⟨rfl, hs1, F1, hr1, hf1⟩
       have Hr1 := hide hr1; have Hs1 := hide hs1; have Hf1 := hide hf1; clear hr1 hs1 hF hf1))
  go_loopg [9, 10] N (fun k vl vi wr => ∃ (i : Nat) (q : List Int) (F : Nat → Prop) (A : Option Addr) (c : Nat), i ≤ N ∧ k = N - i ∧ vl = .slice A q.length c ∧ vi = .int .i64 i ∧ Ring F wr w.heap.size m q ∧ Row wr A q.length c q ∧ Off F A ∧ Same w wr ∧ ∀ k, F k → w.heap.size ≤ k)
  case atStart =>
    refine ⟨0, [], F1, some ⟨w1.heap.size, 0, none⟩, 0, Nat.zero_le _, rfl, rfl, rfl, Hr1.out.same ((Chg.refl _ w1).alloc _), ⟨Rd.nil _ _, rfl, Nat.le_refl _, Nat.zero_le _, ?_⟩, ?_, Hs1.out.alloc _, Hf1.out⟩
    · intro b hb
      simp [blkOf] at hb
      subst hb
      simp
    · intro b hb hF
      simp [blkOf] at hb
      subst hb
      have := Hr1.out.lt _ hF
      omega
  case round =>
    obtain ⟨i, q, F, A, c, hi, hkk, rfl, rfl, hr, hro, hoff, hsame, hF⟩ := hrel
    have hnn : q.length ≤ 65536 := Nat.le_trans hr.len hm3
    generalize hn : q.length = n at *
    have Hn := hide hn
    have Hk := hide hkk
    have Hr := hide hr
    have Hro := hide hro
    have Hoff := hide hoff
    have Hs := hide hsame
    have Hsm := Hs
    have HF := hide hF
    clear hkk hr hro hoff hF hn
    by_cases hlt : i < N ∧ i < 60
    · obtain ⟨bb, boff, ka, va, rfl, hbl, hli, hc0, hc1⟩ := Ha.out.at_ hsame hlt.1
      obtain ⟨hlt1, hlt2⟩ := hlt
      clear hsame hli
      by_cases hk1 : ka = 1
      · subst hk1
        rcases Nat.eq_zero_or_pos n with hnz | hn1
        · subst hnz
          have Hq0 : Hid (q = []) := hide (List.eq_nil_of_length_eq_zero Hn.out)
          have Hq' : Hid (q.tail = q) := hide (by rw [Hq0.out]; rfl)
          generalize hqq : q = q' at *
          have Hn' : Hid (q'.length = 0) := Hn
          have He := Hq0
          have Hin : Hid (¬ ask ∈ q') := hide (by rw [He.out]; simp)
          have hn65 := hnn
          go_wp2_with (first
            | (go_at_call 11
               have hF := ring_pop Hr.out hm3
               rw [Hq'.out, someQ_nil Hq0.out, headI_nil Hq0.out] at hF
               refine hF.mono ?_
               rintro e w2 ⟨rfl, F2, hr2, hs2⟩
               have h2 := Hoff.out.stp Hro.out hs2
               have h3 := Stp.fresh Hsm.out HF.out hs2
               have Hr2 := hide hr2; have Ho2 := hide h2.1; have Hoff2 := hide h2.2; have Hsm2 := hide h3.1; have HF2 := hide h3.2
               clear hr2 hs2 h2 h3 hF)
            | (go_at_call 18
               have hF := ring_head Hr2.out hm3
               rw [someQ_nil He.out, headI_nil He.out] at hF
               refine hF.mono ?_
               rintro e w3 ⟨rfl, hs3⟩
               have Hs3 := hide hs3; clear hs3 hF)
            | (go_at_call 14
               have hF := ring_place ask (Hr2.out.same Hs3.out) hm3
               rw [decide_eq_false Hin.out, placeI, if_neg Hin.out] at hF
               refine hF.mono ?_
               rintro e w4 ⟨rfl, hs4⟩
               have Hs4 := hide (Hs3.out.trans hs4); clear hs4 hF)
            | (go_at_call 20
               have hF := ring_all (Hr2.out.same Hs4.out) hm3
               refine hF.mono ?_
               rintro e w6 ⟨A6, c6, rfl, how6, hs6⟩
               have hro6 := Row.own how6 rfl rfl
               rw [Hn'.out] at hro6 ⊢
               have Ho6 := hide hro6; have Hs6 := hide (Hs4.out.trans hs6); clear how6 hs6 hF hro6)
            | (go_at_call 19
               have hF := same_eq _ _ _ _ _ q' w6 Ho6.out (Ho2.out.same Hs6.out) hn65
               refine hF.mono ?_
               rintro e w7 ⟨rfl, hs7⟩
               have Hs7 := hide (Hs6.out.trans hs7); clear hs7 hF)
            | (go_at_call 21
               have hF := ring_len (Hr2.out.same Hs7.out)
               rw [Hn'.out] at hF
               refine hF.mono ?_
               rintro e w8 ⟨rfl, hww⟩
               subst hww; clear hF)
            | (go_at_call_of 15 (Value.int IntKind.i64 ask)
               have hF := at_any _ _ _ _ ask _ (Ho2.out.same Hs4.out) hn65
               rw [atI_out Hin.out] at hF
               refine hF.mono ?_
               rintro e w5 ⟨rfl, hww⟩
               subst hww; clear hF))
          go_roundg (N - (i + 1))
          case measure => have := Hk.out; omega
          case rel => exact ⟨i + 1, q', F2, A, c, by omega, rfl, by rw [Hn'.out], by go_num, Hr2.out.same Hs7.out, by rw [Hn'.out]; exact Ho2.out.same Hs7.out, Hoff2.out, Hsm2.out.trans Hs7.out, HF2.out⟩
        · obtain ⟨n', rfl⟩ : ∃ n', n = n' + 1 := ⟨n - 1, by omega⟩
          obtain ⟨b, off, rfl, hbl1, hcell0⟩ := Hro.out.at_ hn1
          obtain ⟨Aa, Hcut, hroa, hbk⟩ := Hro.out.tail1
          have Hoffa : Hid (Off F Aa) := hide fun b hb => Hoff.out b (hbk ▸ hb)
          have Hroa := hide hroa
          have Hn' : Hid (q.tail.length = n') := hide (by rw [List.length_tail, Hn.out]; rfl)
          have hn65 : n' ≤ 65536 := by omega
          generalize hx0 : headI q = x at *
          have Hx := hide hx0
          clear hcell0 hroa hbk hx0 hbl1
          generalize hqq : q.tail = q' at *
          have Hq' := hide hqq
          clear hqq
          rcases Nat.eq_zero_or_pos n' with hz | hpos
          · have He : Hid (q' = []) := hide (List.eq_nil_of_length_eq_zero (by have := Hn'.out; omega))
            have Hin : Hid (¬ ask ∈ q') := hide (by rw [He.out]; simp)
            subst hz
            go_wp2_with (first
              | (go_at_call 11
                 have hF := ring_pop Hr.out hm3
                 rw [Hq'.out, Hx.out, someQ_cons (by have := Hn.out; omega)] at hF
                 refine hF.mono ?_
                 rintro e w2 ⟨rfl, F2, hr2, hs2⟩
                 have h1 := Hoff.out.stp Hro.out hs2
                 have h2 := Hoffa.out.stp Hroa.out hs2
                 have h3 := Stp.fresh Hsm.out HF.out hs2
                 have hcellA := h1.1.cell0 hn1
                 rw [Hx.out] at hcellA
                 have Hr2 := hide hr2; have Ho2 := hide h2.1; have Hoff2 := hide h2.2; have Hsm2 := hide h3.1; have HF2 := hide h3.2
                 skip
                 clear hr2 hs2 h1 h2 h3 hF)
              | (go_at_call 18
                 have hF := ring_head Hr2.out hm3
                 rw [someQ_nil He.out, headI_nil He.out] at hF
                 refine hF.mono ?_
                 rintro e w3 ⟨rfl, hs3⟩
                 have Hs3 := hide hs3; clear hs3 hF)
              | (go_at_call 14
                 have hF := ring_place ask (Hr2.out.same Hs3.out) hm3
                 rw [decide_eq_false Hin.out, placeI, if_neg Hin.out] at hF
                 refine hF.mono ?_
                 rintro e w4 ⟨rfl, hs4⟩
                 have Hs4 := hide (Hs3.out.trans hs4); clear hs4 hF)
              | (go_at_call 20
                 have hF := ring_all (Hr2.out.same Hs4.out) hm3
                 refine hF.mono ?_
                 rintro e w6 ⟨A6, c6, rfl, how6, hs6⟩
                 have hro6 := Row.own how6 rfl rfl
                 rw [Hn'.out] at hro6 ⊢
                 have Ho6 := hide hro6; have Hs6 := hide (Hs4.out.trans hs6); clear how6 hs6 hF hro6)
              | (go_at_call 19
                 have hF := same_eq _ _ _ _ _ q' w6 Ho6.out (Ho2.out.same Hs6.out) hn65
                 refine hF.mono ?_
                 rintro e w7 ⟨rfl, hs7⟩
                 have Hs7 := hide (Hs6.out.trans hs7); clear hs7 hF)
              | (go_at_call 21
                 have hF := ring_len (Hr2.out.same Hs7.out)
                 rw [Hn'.out] at hF
                 refine hF.mono ?_
                 rintro e w8 ⟨rfl, hww⟩
                 subst hww; clear hF)
              | (go_at_call_of 15 (Value.int IntKind.i64 ask)
                 have hF := at_any _ _ _ _ ask _ (Ho2.out.same Hs4.out) hn65
                 rw [atI_out Hin.out] at hF
                 refine hF.mono ?_
                 rintro e w5 ⟨rfl, hww⟩
                 subst hww; clear hF))
            go_roundg (N - (i + 1))
            case measure => have := Hk.out; omega
            case rel => exact ⟨i + 1, q', F2, Aa, (c - 1), by omega, rfl, by rw [Hn'.out], by go_num, Hr2.out.same Hs7.out, by rw [Hn'.out]; exact Ho2.out.same Hs7.out, Hoff2.out, Hsm2.out.trans Hs7.out, HF2.out⟩
          · generalize hxx : headI q' = xx at *
            obtain ⟨b2, off2, rfl, _, _⟩ := Hroa.out.at_ hpos
            by_cases hask : ask ∈ q'
            · have Hin := hide hask
              clear hask
              generalize hpp : pos q' ask = p at *
              go_wp2_with (first
                | (go_at_call 11
                   have hF := ring_pop Hr.out hm3
                   rw [Hq'.out, Hx.out, someQ_cons (by have := Hn.out; omega)] at hF
                   refine hF.mono ?_
                   rintro e w2 ⟨rfl, F2, hr2, hs2⟩
                   have h1 := Hoff.out.stp Hro.out hs2
                   have h2 := Hoffa.out.stp Hroa.out hs2
                   have h3 := Stp.fresh Hsm.out HF.out hs2
                   have hcellA := h1.1.cell0 hn1
                   rw [Hx.out] at hcellA
                   have Hr2 := hide hr2; have Ho2 := hide h2.1; have Hoff2 := hide h2.2; have Hsm2 := hide h3.1; have HF2 := hide h3.2
                   have hb2 := h2.1.2.2.2.2 b2 rfl; have hcell2 := h2.1.cell0 hpos; rw [hxx] at hcell2; have Hcell2 := hide hcell2; clear hcell2
                   clear hr2 hs2 h1 h2 h3 hF)
                | (go_at_call 18
                   have hF := ring_head Hr2.out hm3
                   rw [someQ_cons (by have := Hn'.out; omega), hxx] at hF
                   refine hF.mono ?_
                   rintro e w3 ⟨rfl, hs3⟩
                   have Hs3 := hide hs3; clear hs3 hF)
                | (go_at_call 14
                   have hF := ring_place ask (Hr2.out.same Hs3.out) hm3
                   rw [decide_eq_true Hin.out, placeI, if_pos Hin.out, hpp] at hF
                   refine hF.mono ?_
                   rintro e w4 ⟨rfl, hs4⟩
                   have Hs4 := hide (Hs3.out.trans hs4); clear hs4 hF)
                | (go_at_call 20
                   have hF := ring_all (Hr2.out.same Hs4.out) hm3
                   refine hF.mono ?_
                   rintro e w6 ⟨A6, c6, rfl, how6, hs6⟩
                   have hro6 := Row.own how6 rfl rfl
                   rw [Hn'.out] at hro6 ⊢
                   have Ho6 := hide hro6; have Hs6 := hide (Hs4.out.trans hs6); clear how6 hs6 hF hro6)
                | (go_at_call 19
                   have hF := same_eq _ _ _ _ _ q' w6 Ho6.out (Ho2.out.same Hs6.out) hn65
                   refine hF.mono ?_
                   rintro e w7 ⟨rfl, hs7⟩
                   have Hs7 := hide (Hs6.out.trans hs7); have hcell7 := ((Hs6.out.trans hs7).cell (p := ⟨b2, off2, none⟩) hb2 (fun h => h)).trans Hcell2.out; clear hs7 hF)
                | (go_at_call 21
                   have hF := ring_len (Hr2.out.same Hs7.out)
                   rw [Hn'.out] at hF
                   refine hF.mono ?_
                   rintro e w8 ⟨rfl, hww⟩
                   subst hww; clear hF)
                | (go_at_call_of 15 (Value.int IntKind.i64 ask)
                   have hF := at_any _ _ _ _ ask _ (Ho2.out.same Hs4.out) hn65
                   rw [atI_in Hin.out, hpp] at hF
                   refine hF.mono ?_
                   rintro e w5 ⟨rfl, hww⟩
                   subst hww; clear hF))
              go_roundg (N - (i + 1))
              case measure => have := Hk.out; omega
              case rel => exact ⟨i + 1, q', F2, some ⟨b2, off2, none⟩, (c - 1), by omega, rfl, by rw [Hn'.out], by go_num, Hr2.out.same Hs7.out, by rw [Hn'.out]; exact Ho2.out.same Hs7.out, Hoff2.out, Hsm2.out.trans Hs7.out, HF2.out⟩
            · have Hin := hide hask
              clear hask
              go_wp2_with (first
                | (go_at_call 11
                   have hF := ring_pop Hr.out hm3
                   rw [Hq'.out, Hx.out, someQ_cons (by have := Hn.out; omega)] at hF
                   refine hF.mono ?_
                   rintro e w2 ⟨rfl, F2, hr2, hs2⟩
                   have h1 := Hoff.out.stp Hro.out hs2
                   have h2 := Hoffa.out.stp Hroa.out hs2
                   have h3 := Stp.fresh Hsm.out HF.out hs2
                   have hcellA := h1.1.cell0 hn1
                   rw [Hx.out] at hcellA
                   have Hr2 := hide hr2; have Ho2 := hide h2.1; have Hoff2 := hide h2.2; have Hsm2 := hide h3.1; have HF2 := hide h3.2
                   have hb2 := h2.1.2.2.2.2 b2 rfl; have hcell2 := h2.1.cell0 hpos; rw [hxx] at hcell2; have Hcell2 := hide hcell2; clear hcell2
                   clear hr2 hs2 h1 h2 h3 hF)
                | (go_at_call 18
                   have hF := ring_head Hr2.out hm3
                   rw [someQ_cons (by have := Hn'.out; omega), hxx] at hF
                   refine hF.mono ?_
                   rintro e w3 ⟨rfl, hs3⟩
                   have Hs3 := hide hs3; clear hs3 hF)
                | (go_at_call 14
                   have hF := ring_place ask (Hr2.out.same Hs3.out) hm3
                   rw [decide_eq_false Hin.out, placeI, if_neg Hin.out] at hF
                   refine hF.mono ?_
                   rintro e w4 ⟨rfl, hs4⟩
                   have Hs4 := hide (Hs3.out.trans hs4); clear hs4 hF)
                | (go_at_call 20
                   have hF := ring_all (Hr2.out.same Hs4.out) hm3
                   refine hF.mono ?_
                   rintro e w6 ⟨A6, c6, rfl, how6, hs6⟩
                   have hro6 := Row.own how6 rfl rfl
                   rw [Hn'.out] at hro6 ⊢
                   have Ho6 := hide hro6; have Hs6 := hide (Hs4.out.trans hs6); clear how6 hs6 hF hro6)
                | (go_at_call 19
                   have hF := same_eq _ _ _ _ _ q' w6 Ho6.out (Ho2.out.same Hs6.out) hn65
                   refine hF.mono ?_
                   rintro e w7 ⟨rfl, hs7⟩
                   have Hs7 := hide (Hs6.out.trans hs7); have hcell7 := ((Hs6.out.trans hs7).cell (p := ⟨b2, off2, none⟩) hb2 (fun h => h)).trans Hcell2.out; clear hs7 hF)
                | (go_at_call 21
                   have hF := ring_len (Hr2.out.same Hs7.out)
                   rw [Hn'.out] at hF
                   refine hF.mono ?_
                   rintro e w8 ⟨rfl, hww⟩
                   subst hww; clear hF)
                | (go_at_call_of 15 (Value.int IntKind.i64 ask)
                   have hF := at_any _ _ _ _ ask _ (Ho2.out.same Hs4.out) hn65
                   rw [atI_out Hin.out] at hF
                   refine hF.mono ?_
                   rintro e w5 ⟨rfl, hww⟩
                   subst hww; clear hF))
              go_roundg (N - (i + 1))
              case measure => have := Hk.out; omega
              case rel => exact ⟨i + 1, q', F2, some ⟨b2, off2, none⟩, (c - 1), by omega, rfl, by rw [Hn'.out], by go_num, Hr2.out.same Hs7.out, by rw [Hn'.out]; exact Ho2.out.same Hs7.out, Hoff2.out, Hsm2.out.trans Hs7.out, HF2.out⟩
      · by_cases hk2 : ka = 2
        · subst hk2
          generalize hqq : dropQ q va = q' at *
          have hl := dropQ_len q va
          rw [hqq, Hn.out] at hl
          generalize hn' : q'.length = n' at *
          have Hn' := hide hn'
          have Hq' := hide hqq
          have hn65 : n' ≤ 65536 := by omega
          clear hqq hn' hl
          by_cases hva : va ∈ q
          · have Hva := hide hva
            generalize hpv : pos q va = pv at *
            have Hpv := hide hpv
            clear hva hpv
            rcases Nat.eq_zero_or_pos n' with hz | hpos
            · have He : Hid (q' = []) := hide (List.eq_nil_of_length_eq_zero (by have := Hn'.out; omega))
              have Hin : Hid (¬ ask ∈ q') := hide (by rw [He.out]; simp)
              subst hz
              go_wp2_with (first
                | (go_at_call 13
                   have hF := ring_drop va Hr.out hm3
                   rw [Hq'.out, decide_eq_true Hva.out] at hF
                   refine hF.mono ?_
                   rintro e w1 ⟨rfl, F2, hr1, hs1⟩
                   have h1 := Hoff.out.stp Hro.out hs1
                   have h3 := Stp.fresh Hsm.out HF.out hs1
                   have Hr1 := hide hr1; have Ho1 := hide h1.1; have Hoff1 := hide h1.2; have Hsm1 := hide h3.1; have HF2 := hide h3.2
                   clear hr1 hs1 h1 h3 hF)
                | (go_at_call 16
                   have hF := row_drop va Ho1.out hnn
                   rw [Hq'.out, Hn'.out] at hF
                   refine hF.mono ?_
                   rintro e w2 ⟨A2, c2, rfl, ho2, hs2, hfr⟩
                   have Hr2 := hide (Hr1.out.same hs2); have Ho2 := hide ho2; have Hoff2 := hide (Hoff1.out.from_ hfr Hr1.out.lt); have Hsm2 := hide (Hsm1.out.trans hs2)
                   skip
                   clear ho2 hs2 hfr hF)
                | (go_at_call_of 15 (Value.int IntKind.i64 va)
                   have hF := at_any _ _ _ _ va _ Ho1.out hnn
                   rw [atI_in Hva.out, Hpv.out] at hF
                   refine hF.mono ?_
                   rintro e w5 ⟨rfl, hww⟩
                   subst hww; clear hF)
                | (go_at_call 18
                   have hF := ring_head Hr2.out hm3
                   rw [someQ_nil He.out, headI_nil He.out] at hF
                   refine hF.mono ?_
                   rintro e w3 ⟨rfl, hs3⟩
                   have Hs3 := hide hs3; clear hs3 hF)
                | (go_at_call 14
                   have hF := ring_place ask (Hr2.out.same Hs3.out) hm3
                   rw [decide_eq_false Hin.out, placeI, if_neg Hin.out] at hF
                   refine hF.mono ?_
                   rintro e w4 ⟨rfl, hs4⟩
                   have Hs4 := hide (Hs3.out.trans hs4); clear hs4 hF)
                | (go_at_call 20
                   have hF := ring_all (Hr2.out.same Hs4.out) hm3
                   refine hF.mono ?_
                   rintro e w6 ⟨A6, c6, rfl, how6, hs6⟩
                   have hro6 := Row.own how6 rfl rfl
                   rw [Hn'.out] at hro6 ⊢
                   have Ho6 := hide hro6; have Hs6 := hide (Hs4.out.trans hs6); clear how6 hs6 hF hro6)
                | (go_at_call 19
                   have hF := same_eq _ _ _ _ _ q' w6 Ho6.out (Ho2.out.same Hs6.out) hn65
                   refine hF.mono ?_
                   rintro e w7 ⟨rfl, hs7⟩
                   have Hs7 := hide (Hs6.out.trans hs7); clear hs7 hF)
                | (go_at_call 21
                   have hF := ring_len (Hr2.out.same Hs7.out)
                   rw [Hn'.out] at hF
                   refine hF.mono ?_
                   rintro e w8 ⟨rfl, hww⟩
                   subst hww; clear hF)
                | (go_at_call_of 15 (Value.int IntKind.i64 ask)
                   have hF := at_any _ _ _ _ ask _ (Ho2.out.same Hs4.out) hn65
                   rw [atI_out Hin.out] at hF
                   refine hF.mono ?_
                   rintro e w5 ⟨rfl, hww⟩
                   subst hww; clear hF))
              go_roundg (N - (i + 1))
              case measure => have := Hk.out; omega
              case rel => exact ⟨i + 1, q', F2, A2, c2, by omega, rfl, by rw [Hn'.out], by go_num, Hr2.out.same Hs7.out, by rw [Hn'.out]; exact Ho2.out.same Hs7.out, Hoff2.out, Hsm2.out.trans Hs7.out, HF2.out⟩
            · generalize hxx : headI q' = xx at *
              by_cases hask : ask ∈ q'
              · have Hin := hide hask
                clear hask
                generalize hpp : pos q' ask = p at *
                go_wp2_with (first
                  | (go_at_call 13
                     have hF := ring_drop va Hr.out hm3
                     rw [Hq'.out, decide_eq_true Hva.out] at hF
                     refine hF.mono ?_
                     rintro e w1 ⟨rfl, F2, hr1, hs1⟩
                     have h1 := Hoff.out.stp Hro.out hs1
                     have h3 := Stp.fresh Hsm.out HF.out hs1
                     have Hr1 := hide hr1; have Ho1 := hide h1.1; have Hoff1 := hide h1.2; have Hsm1 := hide h3.1; have HF2 := hide h3.2
                     clear hr1 hs1 h1 h3 hF)
                  | (go_at_call 16
                     have hF := row_drop va Ho1.out hnn
                     rw [Hq'.out, Hn'.out] at hF
                     refine hF.mono ?_
                     rintro e w2 ⟨A2, c2, rfl, ho2, hs2, hfr⟩
                     have Hr2 := hide (Hr1.out.same hs2); have Ho2 := hide ho2; have Hoff2 := hide (Hoff1.out.from_ hfr Hr1.out.lt); have Hsm2 := hide (Hsm1.out.trans hs2)
                     obtain ⟨b2, off2, rfl, hb2, hcell2⟩ := ho2.at_ hpos; rw [hxx] at hcell2; have Hcell2 := hide hcell2; clear hcell2
                     clear ho2 hs2 hfr hF)
                  | (go_at_call_of 15 (Value.int IntKind.i64 va)
                     have hF := at_any _ _ _ _ va _ Ho1.out hnn
                     rw [atI_in Hva.out, Hpv.out] at hF
                     refine hF.mono ?_
                     rintro e w5 ⟨rfl, hww⟩
                     subst hww; clear hF)
                  | (go_at_call 18
                     have hF := ring_head Hr2.out hm3
                     rw [someQ_cons (by have := Hn'.out; omega), hxx] at hF
                     refine hF.mono ?_
                     rintro e w3 ⟨rfl, hs3⟩
                     have Hs3 := hide hs3; clear hs3 hF)
                  | (go_at_call 14
                     have hF := ring_place ask (Hr2.out.same Hs3.out) hm3
                     rw [decide_eq_true Hin.out, placeI, if_pos Hin.out, hpp] at hF
                     refine hF.mono ?_
                     rintro e w4 ⟨rfl, hs4⟩
                     have Hs4 := hide (Hs3.out.trans hs4); clear hs4 hF)
                  | (go_at_call 20
                     have hF := ring_all (Hr2.out.same Hs4.out) hm3
                     refine hF.mono ?_
                     rintro e w6 ⟨A6, c6, rfl, how6, hs6⟩
                     have hro6 := Row.own how6 rfl rfl
                     rw [Hn'.out] at hro6 ⊢
                     have Ho6 := hide hro6; have Hs6 := hide (Hs4.out.trans hs6); clear how6 hs6 hF hro6)
                  | (go_at_call 19
                     have hF := same_eq _ _ _ _ _ q' w6 Ho6.out (Ho2.out.same Hs6.out) hn65
                     refine hF.mono ?_
                     rintro e w7 ⟨rfl, hs7⟩
                     have Hs7 := hide (Hs6.out.trans hs7); have hcell7 := ((Hs6.out.trans hs7).cell (p := ⟨b2, off2, none⟩) hb2 (fun h => h)).trans Hcell2.out; clear hs7 hF)
                  | (go_at_call 21
                     have hF := ring_len (Hr2.out.same Hs7.out)
                     rw [Hn'.out] at hF
                     refine hF.mono ?_
                     rintro e w8 ⟨rfl, hww⟩
                     subst hww; clear hF)
                  | (go_at_call_of 15 (Value.int IntKind.i64 ask)
                     have hF := at_any _ _ _ _ ask _ (Ho2.out.same Hs4.out) hn65
                     rw [atI_in Hin.out, hpp] at hF
                     refine hF.mono ?_
                     rintro e w5 ⟨rfl, hww⟩
                     subst hww; clear hF))
                go_roundg (N - (i + 1))
                case measure => have := Hk.out; omega
                case rel => exact ⟨i + 1, q', F2, some ⟨b2, off2, none⟩, c2, by omega, rfl, by rw [Hn'.out], by go_num, Hr2.out.same Hs7.out, by rw [Hn'.out]; exact Ho2.out.same Hs7.out, Hoff2.out, Hsm2.out.trans Hs7.out, HF2.out⟩
              · have Hin := hide hask
                clear hask
                go_wp2_with (first
                  | (go_at_call 13
                     have hF := ring_drop va Hr.out hm3
                     rw [Hq'.out, decide_eq_true Hva.out] at hF
                     refine hF.mono ?_
                     rintro e w1 ⟨rfl, F2, hr1, hs1⟩
                     have h1 := Hoff.out.stp Hro.out hs1
                     have h3 := Stp.fresh Hsm.out HF.out hs1
                     have Hr1 := hide hr1; have Ho1 := hide h1.1; have Hoff1 := hide h1.2; have Hsm1 := hide h3.1; have HF2 := hide h3.2
                     clear hr1 hs1 h1 h3 hF)
                  | (go_at_call 16
                     have hF := row_drop va Ho1.out hnn
                     rw [Hq'.out, Hn'.out] at hF
                     refine hF.mono ?_
                     rintro e w2 ⟨A2, c2, rfl, ho2, hs2, hfr⟩
                     have Hr2 := hide (Hr1.out.same hs2); have Ho2 := hide ho2; have Hoff2 := hide (Hoff1.out.from_ hfr Hr1.out.lt); have Hsm2 := hide (Hsm1.out.trans hs2)
                     obtain ⟨b2, off2, rfl, hb2, hcell2⟩ := ho2.at_ hpos; rw [hxx] at hcell2; have Hcell2 := hide hcell2; clear hcell2
                     clear ho2 hs2 hfr hF)
                  | (go_at_call_of 15 (Value.int IntKind.i64 va)
                     have hF := at_any _ _ _ _ va _ Ho1.out hnn
                     rw [atI_in Hva.out, Hpv.out] at hF
                     refine hF.mono ?_
                     rintro e w5 ⟨rfl, hww⟩
                     subst hww; clear hF)
                  | (go_at_call 18
                     have hF := ring_head Hr2.out hm3
                     rw [someQ_cons (by have := Hn'.out; omega), hxx] at hF
                     refine hF.mono ?_
                     rintro e w3 ⟨rfl, hs3⟩
                     have Hs3 := hide hs3; clear hs3 hF)
                  | (go_at_call 14
                     have hF := ring_place ask (Hr2.out.same Hs3.out) hm3
                     rw [decide_eq_false Hin.out, placeI, if_neg Hin.out] at hF
                     refine hF.mono ?_
                     rintro e w4 ⟨rfl, hs4⟩
                     have Hs4 := hide (Hs3.out.trans hs4); clear hs4 hF)
                  | (go_at_call 20
                     have hF := ring_all (Hr2.out.same Hs4.out) hm3
                     refine hF.mono ?_
                     rintro e w6 ⟨A6, c6, rfl, how6, hs6⟩
                     have hro6 := Row.own how6 rfl rfl
                     rw [Hn'.out] at hro6 ⊢
                     have Ho6 := hide hro6; have Hs6 := hide (Hs4.out.trans hs6); clear how6 hs6 hF hro6)
                  | (go_at_call 19
                     have hF := same_eq _ _ _ _ _ q' w6 Ho6.out (Ho2.out.same Hs6.out) hn65
                     refine hF.mono ?_
                     rintro e w7 ⟨rfl, hs7⟩
                     have Hs7 := hide (Hs6.out.trans hs7); have hcell7 := ((Hs6.out.trans hs7).cell (p := ⟨b2, off2, none⟩) hb2 (fun h => h)).trans Hcell2.out; clear hs7 hF)
                  | (go_at_call 21
                     have hF := ring_len (Hr2.out.same Hs7.out)
                     rw [Hn'.out] at hF
                     refine hF.mono ?_
                     rintro e w8 ⟨rfl, hww⟩
                     subst hww; clear hF)
                  | (go_at_call_of 15 (Value.int IntKind.i64 ask)
                     have hF := at_any _ _ _ _ ask _ (Ho2.out.same Hs4.out) hn65
                     rw [atI_out Hin.out] at hF
                     refine hF.mono ?_
                     rintro e w5 ⟨rfl, hww⟩
                     subst hww; clear hF))
                go_roundg (N - (i + 1))
                case measure => have := Hk.out; omega
                case rel => exact ⟨i + 1, q', F2, some ⟨b2, off2, none⟩, c2, by omega, rfl, by rw [Hn'.out], by go_num, Hr2.out.same Hs7.out, by rw [Hn'.out]; exact Ho2.out.same Hs7.out, Hoff2.out, Hsm2.out.trans Hs7.out, HF2.out⟩
          · have Hva := hide hva
            clear hva
            rcases Nat.eq_zero_or_pos n' with hz | hpos
            · have He : Hid (q' = []) := hide (List.eq_nil_of_length_eq_zero (by have := Hn'.out; omega))
              have Hin : Hid (¬ ask ∈ q') := hide (by rw [He.out]; simp)
              subst hz
              go_wp2_with (first
                | (go_at_call 13
                   have hF := ring_drop va Hr.out hm3
                   rw [Hq'.out, decide_eq_false Hva.out] at hF
                   refine hF.mono ?_
                   rintro e w1 ⟨rfl, F2, hr1, hs1⟩
                   have h1 := Hoff.out.stp Hro.out hs1
                   have h3 := Stp.fresh Hsm.out HF.out hs1
                   have Hr1 := hide hr1; have Ho1 := hide h1.1; have Hoff1 := hide h1.2; have Hsm1 := hide h3.1; have HF2 := hide h3.2
                   clear hr1 hs1 h1 h3 hF)
                | (go_at_call 16
                   have hF := row_drop va Ho1.out hnn
                   rw [Hq'.out, Hn'.out] at hF
                   refine hF.mono ?_
                   rintro e w2 ⟨A2, c2, rfl, ho2, hs2, hfr⟩
                   have Hr2 := hide (Hr1.out.same hs2); have Ho2 := hide ho2; have Hoff2 := hide (Hoff1.out.from_ hfr Hr1.out.lt); have Hsm2 := hide (Hsm1.out.trans hs2)
                   skip
                   clear ho2 hs2 hfr hF)
                | (go_at_call_of 15 (Value.int IntKind.i64 va)
                   have hF := at_any _ _ _ _ va _ Ho1.out hnn
                   rw [atI_out Hva.out] at hF
                   refine hF.mono ?_
                   rintro e w5 ⟨rfl, hww⟩
                   subst hww; clear hF)
                | (go_at_call 18
                   have hF := ring_head Hr2.out hm3
                   rw [someQ_nil He.out, headI_nil He.out] at hF
                   refine hF.mono ?_
                   rintro e w3 ⟨rfl, hs3⟩
                   have Hs3 := hide hs3; clear hs3 hF)
                | (go_at_call 14
                   have hF := ring_place ask (Hr2.out.same Hs3.out) hm3
                   rw [decide_eq_false Hin.out, placeI, if_neg Hin.out] at hF
                   refine hF.mono ?_
                   rintro e w4 ⟨rfl, hs4⟩
                   have Hs4 := hide (Hs3.out.trans hs4); clear hs4 hF)
                | (go_at_call 20
                   have hF := ring_all (Hr2.out.same Hs4.out) hm3
                   refine hF.mono ?_
                   rintro e w6 ⟨A6, c6, rfl, how6, hs6⟩
                   have hro6 := Row.own how6 rfl rfl
                   rw [Hn'.out] at hro6 ⊢
                   have Ho6 := hide hro6; have Hs6 := hide (Hs4.out.trans hs6); clear how6 hs6 hF hro6)
                | (go_at_call 19
                   have hF := same_eq _ _ _ _ _ q' w6 Ho6.out (Ho2.out.same Hs6.out) hn65
                   refine hF.mono ?_
                   rintro e w7 ⟨rfl, hs7⟩
                   have Hs7 := hide (Hs6.out.trans hs7); clear hs7 hF)
                | (go_at_call 21
                   have hF := ring_len (Hr2.out.same Hs7.out)
                   rw [Hn'.out] at hF
                   refine hF.mono ?_
                   rintro e w8 ⟨rfl, hww⟩
                   subst hww; clear hF)
                | (go_at_call_of 15 (Value.int IntKind.i64 ask)
                   have hF := at_any _ _ _ _ ask _ (Ho2.out.same Hs4.out) hn65
                   rw [atI_out Hin.out] at hF
                   refine hF.mono ?_
                   rintro e w5 ⟨rfl, hww⟩
                   subst hww; clear hF))
              go_roundg (N - (i + 1))
              case measure => have := Hk.out; omega
              case rel => exact ⟨i + 1, q', F2, A2, c2, by omega, rfl, by rw [Hn'.out], by go_num, Hr2.out.same Hs7.out, by rw [Hn'.out]; exact Ho2.out.same Hs7.out, Hoff2.out, Hsm2.out.trans Hs7.out, HF2.out⟩
            · generalize hxx : headI q' = xx at *
              by_cases hask : ask ∈ q'
              · have Hin := hide hask
                clear hask
                generalize hpp : pos q' ask = p at *
                go_wp2_with (first
                  | (go_at_call 13
                     have hF := ring_drop va Hr.out hm3
                     rw [Hq'.out, decide_eq_false Hva.out] at hF
                     refine hF.mono ?_
                     rintro e w1 ⟨rfl, F2, hr1, hs1⟩
                     have h1 := Hoff.out.stp Hro.out hs1
                     have h3 := Stp.fresh Hsm.out HF.out hs1
                     have Hr1 := hide hr1; have Ho1 := hide h1.1; have Hoff1 := hide h1.2; have Hsm1 := hide h3.1; have HF2 := hide h3.2
                     clear hr1 hs1 h1 h3 hF)
                  | (go_at_call 16
                     have hF := row_drop va Ho1.out hnn
                     rw [Hq'.out, Hn'.out] at hF
                     refine hF.mono ?_
                     rintro e w2 ⟨A2, c2, rfl, ho2, hs2, hfr⟩
                     have Hr2 := hide (Hr1.out.same hs2); have Ho2 := hide ho2; have Hoff2 := hide (Hoff1.out.from_ hfr Hr1.out.lt); have Hsm2 := hide (Hsm1.out.trans hs2)
                     obtain ⟨b2, off2, rfl, hb2, hcell2⟩ := ho2.at_ hpos; rw [hxx] at hcell2; have Hcell2 := hide hcell2; clear hcell2
                     clear ho2 hs2 hfr hF)
                  | (go_at_call_of 15 (Value.int IntKind.i64 va)
                     have hF := at_any _ _ _ _ va _ Ho1.out hnn
                     rw [atI_out Hva.out] at hF
                     refine hF.mono ?_
                     rintro e w5 ⟨rfl, hww⟩
                     subst hww; clear hF)
                  | (go_at_call 18
                     have hF := ring_head Hr2.out hm3
                     rw [someQ_cons (by have := Hn'.out; omega), hxx] at hF
                     refine hF.mono ?_
                     rintro e w3 ⟨rfl, hs3⟩
                     have Hs3 := hide hs3; clear hs3 hF)
                  | (go_at_call 14
                     have hF := ring_place ask (Hr2.out.same Hs3.out) hm3
                     rw [decide_eq_true Hin.out, placeI, if_pos Hin.out, hpp] at hF
                     refine hF.mono ?_
                     rintro e w4 ⟨rfl, hs4⟩
                     have Hs4 := hide (Hs3.out.trans hs4); clear hs4 hF)
                  | (go_at_call 20
                     have hF := ring_all (Hr2.out.same Hs4.out) hm3
                     refine hF.mono ?_
                     rintro e w6 ⟨A6, c6, rfl, how6, hs6⟩
                     have hro6 := Row.own how6 rfl rfl
                     rw [Hn'.out] at hro6 ⊢
                     have Ho6 := hide hro6; have Hs6 := hide (Hs4.out.trans hs6); clear how6 hs6 hF hro6)
                  | (go_at_call 19
                     have hF := same_eq _ _ _ _ _ q' w6 Ho6.out (Ho2.out.same Hs6.out) hn65
                     refine hF.mono ?_
                     rintro e w7 ⟨rfl, hs7⟩
                     have Hs7 := hide (Hs6.out.trans hs7); have hcell7 := ((Hs6.out.trans hs7).cell (p := ⟨b2, off2, none⟩) hb2 (fun h => h)).trans Hcell2.out; clear hs7 hF)
                  | (go_at_call 21
                     have hF := ring_len (Hr2.out.same Hs7.out)
                     rw [Hn'.out] at hF
                     refine hF.mono ?_
                     rintro e w8 ⟨rfl, hww⟩
                     subst hww; clear hF)
                  | (go_at_call_of 15 (Value.int IntKind.i64 ask)
                     have hF := at_any _ _ _ _ ask _ (Ho2.out.same Hs4.out) hn65
                     rw [atI_in Hin.out, hpp] at hF
                     refine hF.mono ?_
                     rintro e w5 ⟨rfl, hww⟩
                     subst hww; clear hF))
                go_roundg (N - (i + 1))
                case measure => have := Hk.out; omega
                case rel => exact ⟨i + 1, q', F2, some ⟨b2, off2, none⟩, c2, by omega, rfl, by rw [Hn'.out], by go_num, Hr2.out.same Hs7.out, by rw [Hn'.out]; exact Ho2.out.same Hs7.out, Hoff2.out, Hsm2.out.trans Hs7.out, HF2.out⟩
              · have Hin := hide hask
                clear hask
                go_wp2_with (first
                  | (go_at_call 13
                     have hF := ring_drop va Hr.out hm3
                     rw [Hq'.out, decide_eq_false Hva.out] at hF
                     refine hF.mono ?_
                     rintro e w1 ⟨rfl, F2, hr1, hs1⟩
                     have h1 := Hoff.out.stp Hro.out hs1
                     have h3 := Stp.fresh Hsm.out HF.out hs1
                     have Hr1 := hide hr1; have Ho1 := hide h1.1; have Hoff1 := hide h1.2; have Hsm1 := hide h3.1; have HF2 := hide h3.2
                     clear hr1 hs1 h1 h3 hF)
                  | (go_at_call 16
                     have hF := row_drop va Ho1.out hnn
                     rw [Hq'.out, Hn'.out] at hF
                     refine hF.mono ?_
                     rintro e w2 ⟨A2, c2, rfl, ho2, hs2, hfr⟩
                     have Hr2 := hide (Hr1.out.same hs2); have Ho2 := hide ho2; have Hoff2 := hide (Hoff1.out.from_ hfr Hr1.out.lt); have Hsm2 := hide (Hsm1.out.trans hs2)
                     obtain ⟨b2, off2, rfl, hb2, hcell2⟩ := ho2.at_ hpos; rw [hxx] at hcell2; have Hcell2 := hide hcell2; clear hcell2
                     clear ho2 hs2 hfr hF)
                  | (go_at_call_of 15 (Value.int IntKind.i64 va)
                     have hF := at_any _ _ _ _ va _ Ho1.out hnn
                     rw [atI_out Hva.out] at hF
                     refine hF.mono ?_
                     rintro e w5 ⟨rfl, hww⟩
                     subst hww; clear hF)
                  | (go_at_call 18
                     have hF := ring_head Hr2.out hm3
                     rw [someQ_cons (by have := Hn'.out; omega), hxx] at hF
                     refine hF.mono ?_
                     rintro e w3 ⟨rfl, hs3⟩
                     have Hs3 := hide hs3; clear hs3 hF)
                  | (go_at_call 14
                     have hF := ring_place ask (Hr2.out.same Hs3.out) hm3
                     rw [decide_eq_false Hin.out, placeI, if_neg Hin.out] at hF
                     refine hF.mono ?_
                     rintro e w4 ⟨rfl, hs4⟩
                     have Hs4 := hide (Hs3.out.trans hs4); clear hs4 hF)
                  | (go_at_call 20
                     have hF := ring_all (Hr2.out.same Hs4.out) hm3
                     refine hF.mono ?_
                     rintro e w6 ⟨A6, c6, rfl, how6, hs6⟩
                     have hro6 := Row.own how6 rfl rfl
                     rw [Hn'.out] at hro6 ⊢
                     have Ho6 := hide hro6; have Hs6 := hide (Hs4.out.trans hs6); clear how6 hs6 hF hro6)
                  | (go_at_call 19
                     have hF := same_eq _ _ _ _ _ q' w6 Ho6.out (Ho2.out.same Hs6.out) hn65
                     refine hF.mono ?_
                     rintro e w7 ⟨rfl, hs7⟩
                     have Hs7 := hide (Hs6.out.trans hs7); have hcell7 := ((Hs6.out.trans hs7).cell (p := ⟨b2, off2, none⟩) hb2 (fun h => h)).trans Hcell2.out; clear hs7 hF)
                  | (go_at_call 21
                     have hF := ring_len (Hr2.out.same Hs7.out)
                     rw [Hn'.out] at hF
                     refine hF.mono ?_
                     rintro e w8 ⟨rfl, hww⟩
                     subst hww; clear hF)
                  | (go_at_call_of 15 (Value.int IntKind.i64 ask)
                     have hF := at_any _ _ _ _ ask _ (Ho2.out.same Hs4.out) hn65
                     rw [atI_out Hin.out] at hF
                     refine hF.mono ?_
                     rintro e w5 ⟨rfl, hww⟩
                     subst hww; clear hF))
                go_roundg (N - (i + 1))
                case measure => have := Hk.out; omega
                case rel => exact ⟨i + 1, q', F2, some ⟨b2, off2, none⟩, c2, by omega, rfl, by rw [Hn'.out], by go_num, Hr2.out.same Hs7.out, by rw [Hn'.out]; exact Ho2.out.same Hs7.out, Hoff2.out, Hsm2.out.trans Hs7.out, HF2.out⟩
        · generalize hqq : pushQ q m va = q' at *
          have hl := pushQ_len (q := q) (m := m) va (by have := Hr.out.len; omega)
          rw [hqq] at hl
          generalize hn' : q'.length = n' at *
          generalize hcd : pushE q m va = cd at *
          have Hcd := hide hcd
          have Hn' := hide hn'
          have Hq' := hide hqq
          have hn65 : n' ≤ 65536 := by omega
          clear hqq hn' hl hcd
          rcases Nat.eq_zero_or_pos n' with hz | hpos
          · have He : Hid (q' = []) := hide (List.eq_nil_of_length_eq_zero (by have := Hn'.out; omega))
            have Hin : Hid (¬ ask ∈ q') := hide (by rw [He.out]; simp)
            subst hz
            go_wp2_with (first
              | (go_at_call 17
                 have hF := row_push m va Hro.out hnn
                 rw [Hq'.out, Hn'.out, Hcd.out] at hF
                 refine hF.mono ?_
                 rintro e w1 ⟨A2, c2, rfl, ho2, hs1, hfr⟩
                 have Ho1 := hide ho2; have Hs1 := hide hs1; have Hoff1 := hide (Hoff.out.from_ hfr Hr.out.lt)
                 skip
                 clear ho2 hs1 hfr hF)
              | (go_at_call 10
                 have hF := ring_push va (Hr.out.same Hs1.out) hm3
                 rw [Hq'.out, Hcd.out] at hF
                 refine hF.mono ?_
                 rintro e w2 ⟨rfl, F2, hr2, hs2⟩
                 have h1 := Hoff1.out.stp Ho1.out hs2
                 have h3 := Stp.fresh (Hsm.out.trans Hs1.out) HF.out hs2
                 have Hr2 := hide hr2; have Ho2 := hide h1.1; have Hoff2 := hide h1.2; have Hsm2 := hide h3.1; have HF2 := hide h3.2
                 skip
                 clear hr2 hs2 h1 h3 hF)
              | (go_at_call 18
                 have hF := ring_head Hr2.out hm3
                 rw [someQ_nil He.out, headI_nil He.out] at hF
                 refine hF.mono ?_
                 rintro e w3 ⟨rfl, hs3⟩
                 have Hs3 := hide hs3; clear hs3 hF)
              | (go_at_call 14
                 have hF := ring_place ask (Hr2.out.same Hs3.out) hm3
                 rw [decide_eq_false Hin.out, placeI, if_neg Hin.out] at hF
                 refine hF.mono ?_
                 rintro e w4 ⟨rfl, hs4⟩
                 have Hs4 := hide (Hs3.out.trans hs4); clear hs4 hF)
              | (go_at_call 20
                 have hF := ring_all (Hr2.out.same Hs4.out) hm3
                 refine hF.mono ?_
                 rintro e w6 ⟨A6, c6, rfl, how6, hs6⟩
                 have hro6 := Row.own how6 rfl rfl
                 rw [Hn'.out] at hro6 ⊢
                 have Ho6 := hide hro6; have Hs6 := hide (Hs4.out.trans hs6); clear how6 hs6 hF hro6)
              | (go_at_call 19
                 have hF := same_eq _ _ _ _ _ q' w6 Ho6.out (Ho2.out.same Hs6.out) hn65
                 refine hF.mono ?_
                 rintro e w7 ⟨rfl, hs7⟩
                 have Hs7 := hide (Hs6.out.trans hs7); clear hs7 hF)
              | (go_at_call 21
                 have hF := ring_len (Hr2.out.same Hs7.out)
                 rw [Hn'.out] at hF
                 refine hF.mono ?_
                 rintro e w8 ⟨rfl, hww⟩
                 subst hww; clear hF)
              | (go_at_call_of 15 (Value.int IntKind.i64 ask)
                 have hF := at_any _ _ _ _ ask _ (Ho2.out.same Hs4.out) hn65
                 rw [atI_out Hin.out] at hF
                 refine hF.mono ?_
                 rintro e w5 ⟨rfl, hww⟩
                 subst hww; clear hF))
            go_roundg (N - (i + 1))
            case measure => have := Hk.out; omega
            case rel => exact ⟨i + 1, q', F2, A2, c2, by omega, rfl, by rw [Hn'.out], by go_num, Hr2.out.same Hs7.out, by rw [Hn'.out]; exact Ho2.out.same Hs7.out, Hoff2.out, Hsm2.out.trans Hs7.out, HF2.out⟩
          · generalize hxx : headI q' = xx at *
            by_cases hask : ask ∈ q'
            · have Hin := hide hask
              clear hask
              generalize hpp : pos q' ask = p at *
              go_wp2_with (first
                | (go_at_call 17
                   have hF := row_push m va Hro.out hnn
                   rw [Hq'.out, Hn'.out, Hcd.out] at hF
                   refine hF.mono ?_
                   rintro e w1 ⟨A2, c2, rfl, ho2, hs1, hfr⟩
                   have Ho1 := hide ho2; have Hs1 := hide hs1; have Hoff1 := hide (Hoff.out.from_ hfr Hr.out.lt)
                   obtain ⟨b2, off2, rfl, hb2x, _⟩ := ho2.at_ hpos
                   clear ho2 hs1 hfr hF)
                | (go_at_call 10
                   have hF := ring_push va (Hr.out.same Hs1.out) hm3
                   rw [Hq'.out, Hcd.out] at hF
                   refine hF.mono ?_
                   rintro e w2 ⟨rfl, F2, hr2, hs2⟩
                   have h1 := Hoff1.out.stp Ho1.out hs2
                   have h3 := Stp.fresh (Hsm.out.trans Hs1.out) HF.out hs2
                   have Hr2 := hide hr2; have Ho2 := hide h1.1; have Hoff2 := hide h1.2; have Hsm2 := hide h3.1; have HF2 := hide h3.2
                   have hb2 := h1.1.2.2.2.2 b2 rfl; have hcell2 := h1.1.cell0 hpos; rw [hxx] at hcell2; have Hcell2 := hide hcell2; clear hcell2
                   clear hr2 hs2 h1 h3 hF)
                | (go_at_call 18
                   have hF := ring_head Hr2.out hm3
                   rw [someQ_cons (by have := Hn'.out; omega), hxx] at hF
                   refine hF.mono ?_
                   rintro e w3 ⟨rfl, hs3⟩
                   have Hs3 := hide hs3; clear hs3 hF)
                | (go_at_call 14
                   have hF := ring_place ask (Hr2.out.same Hs3.out) hm3
                   rw [decide_eq_true Hin.out, placeI, if_pos Hin.out, hpp] at hF
                   refine hF.mono ?_
                   rintro e w4 ⟨rfl, hs4⟩
                   have Hs4 := hide (Hs3.out.trans hs4); clear hs4 hF)
                | (go_at_call 20
                   have hF := ring_all (Hr2.out.same Hs4.out) hm3
                   refine hF.mono ?_
                   rintro e w6 ⟨A6, c6, rfl, how6, hs6⟩
                   have hro6 := Row.own how6 rfl rfl
                   rw [Hn'.out] at hro6 ⊢
                   have Ho6 := hide hro6; have Hs6 := hide (Hs4.out.trans hs6); clear how6 hs6 hF hro6)
                | (go_at_call 19
                   have hF := same_eq _ _ _ _ _ q' w6 Ho6.out (Ho2.out.same Hs6.out) hn65
                   refine hF.mono ?_
                   rintro e w7 ⟨rfl, hs7⟩
                   have Hs7 := hide (Hs6.out.trans hs7); have hcell7 := ((Hs6.out.trans hs7).cell (p := ⟨b2, off2, none⟩) hb2 (fun h => h)).trans Hcell2.out; clear hs7 hF)
                | (go_at_call 21
                   have hF := ring_len (Hr2.out.same Hs7.out)
                   rw [Hn'.out] at hF
                   refine hF.mono ?_
                   rintro e w8 ⟨rfl, hww⟩
                   subst hww; clear hF)
                | (go_at_call_of 15 (Value.int IntKind.i64 ask)
                   have hF := at_any _ _ _ _ ask _ (Ho2.out.same Hs4.out) hn65
                   rw [atI_in Hin.out, hpp] at hF
                   refine hF.mono ?_
                   rintro e w5 ⟨rfl, hww⟩
                   subst hww; clear hF))
              go_roundg (N - (i + 1))
              case measure => have := Hk.out; omega
              case rel => exact ⟨i + 1, q', F2, some ⟨b2, off2, none⟩, c2, by omega, rfl, by rw [Hn'.out], by go_num, Hr2.out.same Hs7.out, by rw [Hn'.out]; exact Ho2.out.same Hs7.out, Hoff2.out, Hsm2.out.trans Hs7.out, HF2.out⟩
            · have Hin := hide hask
              clear hask
              go_wp2_with (first
                | (go_at_call 17
                   have hF := row_push m va Hro.out hnn
                   rw [Hq'.out, Hn'.out, Hcd.out] at hF
                   refine hF.mono ?_
                   rintro e w1 ⟨A2, c2, rfl, ho2, hs1, hfr⟩
                   have Ho1 := hide ho2; have Hs1 := hide hs1; have Hoff1 := hide (Hoff.out.from_ hfr Hr.out.lt)
                   obtain ⟨b2, off2, rfl, hb2x, _⟩ := ho2.at_ hpos
                   clear ho2 hs1 hfr hF)
                | (go_at_call 10
                   have hF := ring_push va (Hr.out.same Hs1.out) hm3
                   rw [Hq'.out, Hcd.out] at hF
                   refine hF.mono ?_
                   rintro e w2 ⟨rfl, F2, hr2, hs2⟩
                   have h1 := Hoff1.out.stp Ho1.out hs2
                   have h3 := Stp.fresh (Hsm.out.trans Hs1.out) HF.out hs2
                   have Hr2 := hide hr2; have Ho2 := hide h1.1; have Hoff2 := hide h1.2; have Hsm2 := hide h3.1; have HF2 := hide h3.2
                   have hb2 := h1.1.2.2.2.2 b2 rfl; have hcell2 := h1.1.cell0 hpos; rw [hxx] at hcell2; have Hcell2 := hide hcell2; clear hcell2
                   clear hr2 hs2 h1 h3 hF)
                | (go_at_call 18
                   have hF := ring_head Hr2.out hm3
                   rw [someQ_cons (by have := Hn'.out; omega), hxx] at hF
                   refine hF.mono ?_
                   rintro e w3 ⟨rfl, hs3⟩
                   have Hs3 := hide hs3; clear hs3 hF)
                | (go_at_call 14
                   have hF := ring_place ask (Hr2.out.same Hs3.out) hm3
                   rw [decide_eq_false Hin.out, placeI, if_neg Hin.out] at hF
                   refine hF.mono ?_
                   rintro e w4 ⟨rfl, hs4⟩
                   have Hs4 := hide (Hs3.out.trans hs4); clear hs4 hF)
                | (go_at_call 20
                   have hF := ring_all (Hr2.out.same Hs4.out) hm3
                   refine hF.mono ?_
                   rintro e w6 ⟨A6, c6, rfl, how6, hs6⟩
                   have hro6 := Row.own how6 rfl rfl
                   rw [Hn'.out] at hro6 ⊢
                   have Ho6 := hide hro6; have Hs6 := hide (Hs4.out.trans hs6); clear how6 hs6 hF hro6)
                | (go_at_call 19
                   have hF := same_eq _ _ _ _ _ q' w6 Ho6.out (Ho2.out.same Hs6.out) hn65
                   refine hF.mono ?_
                   rintro e w7 ⟨rfl, hs7⟩
                   have Hs7 := hide (Hs6.out.trans hs7); have hcell7 := ((Hs6.out.trans hs7).cell (p := ⟨b2, off2, none⟩) hb2 (fun h => h)).trans Hcell2.out; clear hs7 hF)
                | (go_at_call 21
                   have hF := ring_len (Hr2.out.same Hs7.out)
                   rw [Hn'.out] at hF
                   refine hF.mono ?_
                   rintro e w8 ⟨rfl, hww⟩
                   subst hww; clear hF)
                | (go_at_call_of 15 (Value.int IntKind.i64 ask)
                   have hF := at_any _ _ _ _ ask _ (Ho2.out.same Hs4.out) hn65
                   rw [atI_out Hin.out] at hF
                   refine hF.mono ?_
                   rintro e w5 ⟨rfl, hww⟩
                   subst hww; clear hF))
              go_roundg (N - (i + 1))
              case measure => have := Hk.out; omega
              case rel => exact ⟨i + 1, q', F2, some ⟨b2, off2, none⟩, c2, by omega, rfl, by rw [Hn'.out], by go_num, Hr2.out.same Hs7.out, by rw [Hn'.out]; exact Ho2.out.same Hs7.out, Hoff2.out, Hsm2.out.trans Hs7.out, HF2.out⟩
    · clear hsame
      by_cases hin2 : i < N
      · go_wp2_with (go_at_call 12; have hF := lives_any wr; refine hF.mono ?_; rintro e w2 ⟨rfl, hs2⟩; have Hs2 := hide hs2; clear hs2 hF)
        go_ret
        exact ⟨rfl, Hs.out.trans Hs2.out⟩
      · go_wp2_with (go_at_call 12; have hF := lives_any wr; refine hF.mono ?_; rintro e w2 ⟨rfl, hs2⟩; have Hs2 := hide hs2; clear hs2 hF)
        go_ret
        exact ⟨rfl, Hs.out.trans Hs2.out⟩
end Go.Proofs.Ytkakhpbeglkbnaa
