/-
  QueueOrder's walk. No conditions.
-/
import Derived.Test.YtkakhpbeglkbnaaRqD
namespace Go.Proofs.Ytkakhpbeglkbnaa
open Go.RowKit Go.Al Go.Al.Rg
set_option linter.unusedVariables false

/-- 100, 99, .. -/
def down (i : Nat) : List Int := (List.range i).map fun k : Nat => 100 - (k : Int)
theorem down_succ (i : Nat) : down (i + 1) = down i ++ [100 - (i : Int)] := by simp [down, List.range_succ]
theorem down_len (i : Nat) : (down i).length = i := by simp [down]
theorem down_not (i : Nat) : ¬ 100 - (i : Int) ∈ down i := by
  intro h
  simp [down] at h
  omega
theorem down_nodup (i : Nat) : (down i).Nodup := by
  unfold down
  refine List.Pairwise.map _ ?_ (List.nodup_range (n := i))
  intro a b h e
  exact h (by omega)
theorem dropQ_nodup {q : List Int} (v : Int) (h : q.Nodup) : (dropQ q v).Nodup := by
  unfold dropQ
  split
  · exact h.sublist (List.eraseIdx_sublist _ _)
  · exact h
theorem pos_nodup {l : List Int} (h : l.Nodup) {j : Nat} (hj : j < l.length) : l[j] ∈ l ∧ pos l l[j] = j := by
  refine pos_found hj rfl fun k hk he => ?_
  have hk' : k < l.length := by omega
  rw [List.getElem?_eq_getElem hk'] at he
  exact (List.pairwise_iff_getElem.1 h k j hk' hj hk) (Option.some.inj he)
theorem pos_last {l : List Int} (h : l.Nodup) {i : Nat} (hi : i + 1 < l.length) : l[l.length - 1] ∈ l.drop (i + 1) ∧ pos (l.drop (i + 1)) l[l.length - 1] + 1 = l.length - 1 - i ∧ ¬ l[i] = l[l.length - 1] := by
  have h1 := pos_nodup (h.sublist (List.drop_sublist (i + 1) l)) (j := l.length - 1 - (i + 1)) (by simp; omega)
  have e : (l.drop (i + 1))[l.length - 1 - (i + 1)]'(by simp; omega) = l[l.length - 1] := by
    rw [List.getElem_drop]
    congr 1
    omega
  rw [e] at h1
  exact ⟨h1.1, by rw [h1.2]; omega, List.pairwise_iff_getElem.1 h i (l.length - 1) (by omega) (by omega) (by omega)⟩

theorem wantE_down {i : Nat} (hi : i < 50) : wantE (down i) 50 0 false (100 - (i : Int)) = 0 := by
  rw [wantE, if_neg (by simp), pushE, if_neg (down_not i), if_neg (by rw [down_len]; omega)]
theorem wantQ_down {i : Nat} (hi : i < 50) : wantQ (down i) 50 0 false (100 - (i : Int)) = down (i + 1) := by
  rw [wantQ, if_neg (by simp), pushQ, if_neg (down_not i), if_neg (by rw [down_len]; omega), down_succ]

theorem Row.cellAt {w : World} {b off n c i : Nat} {l : List Int} (h : Row w (some ⟨b, off, none⟩) n c l) (hi : i < l.length) : w.cell? ⟨b, off + i, none⟩ = some (.int .i64 l[i]) := by
  obtain ⟨b', off', e, hc⟩ := h.1.at_ (i := i) (by simp; exact hi)
  obtain ⟨rfl, rfl⟩ : b = b' ∧ off = off' := by injection e with e; injection e with e1 e2; exact ⟨e1, e2⟩
  rw [hc]
  simp [is]
theorem leaveE_free (q : List Int) (id v : Int) : leaveE q id false v = if v ∈ q then 0 else 6 := if_neg (by simp)
theorem leaveQ_free (q : List Int) (id v : Int) : leaveQ q id false v = dropQ q v := if_neg (by simp)

set_option maxRecDepth 100000 in
set_option maxHeartbeats 8000000 in
theorem queueOrder_any (a0 : Int) (A0 : Option Addr) (N C : Nat) (b0 : List UInt8) (w : World) (h0 : 0 ≤ a0) (h1 : a0 ≤ 255) (hr0 : Rd w A0 (bs b0)) (hlt0 : b0 ≠ [] → ∀ k, blkOf A0 = some k → k < w.heap.size) (hN : b0.length = N) (hNC : N ≤ C) (hC : C ≤ maxLen) :
    Calls Try.prog 6 #[.int .u8 a0, .slice A0 N C] w fun e w' => e = .returned (.bool true) ∧ Same w w' := by
  have n1 : N ≤ maxLen := by omega
  unfold maxLen at n1
  have Hr0 := hide hr0
  have Hlt0 := hide hlt0
  have HN := hide hN
  clear hr0 hlt0 hC hN
  obtain ⟨many, hm⟩ : ∃ m : Nat, a0.tmod 40 = (m : Int) := ⟨(a0.tmod 40).toNat, by rw [Int.tmod_eq_emod_of_nonneg h0]; omega⟩
  have hm40 : many < 40 := by rw [Int.tmod_eq_emod_of_nonneg h0] at hm; omega
  go_enter Try.func6, Try.ntmps6
  go_wp2_with (first
    | (go_at_call 22
       have hF := que_new 50 w (by decide) (by decide)
       refine hF.mono ?_
       rintro e w1 ⟨g, rfl, hs1, F1, hr1, hf1⟩
       have Hr1 := hide hr1; have Hs1 := hide hs1; have Hf1 := hide hf1; clear hr1 hs1 hF hf1))
  go_loopg [8, 9] many (fun k vl vi wr => ∃ (i : Nat) (F : Nat → Prop) (A : Option Addr) (c : Nat), i ≤ many ∧ k = many - i ∧ vl = .slice A i c ∧ vi = .int .i64 i ∧ Que F wr g 50 (down i) 0 false 0 ∧ wr.ownsRow w.heap.size 3 1 (.slice A i c) i (is (down i)) ∧ Off F A ∧ Same w wr ∧ ∀ k, F k → w.heap.size ≤ k)
  case atStart =>
    refine ⟨0, F1, some ⟨w1.heap.size, 0, none⟩, 0, Nat.zero_le _, rfl, rfl, rfl, Hr1.out.same ((Chg.refl _ w1).alloc _), own_lit w1 w.heap.size _ 1 #[] 0 Hs1.out.size (by decide) rfl, ?_, Hs1.out.alloc _, Hf1.out⟩
    intro b hb hF
    simp [blkOf] at hb
    subst hb
    have := Hr1.out.lt _ hF
    omega
  case round =>
    obtain ⟨i, F, A, c, hi, hkk, rfl, rfl, hq, hown, hoff, hsame, hF⟩ := hrel
    have Hk := hide hkk
    have Hq := hide hq
    have Hown := hide hown
    have Hoff := hide hoff
    have Hs := hide hsame
    have HF := hide hF
    clear hkk hq hown hoff hsame hF
    by_cases hlt : i < many
    · go_wp2_with (first
        | (go_at_call 23
           have hF := que_want (100 - (i : Int)) Hq.out (by decide)
           rw [wantE_down (by omega), wantQ_down (by omega)] at hF
           refine hF.mono ?_
           rintro e w2 ⟨rfl, F2, hq2, hs2⟩
           have h3 := Stp.fresh Hs.out HF.out hs2
           have hown2 := own_chg Hown.out hs2.chg fun b hb => Hoff.out b (by rw [← ownBlock_slice]; exact hb)
           have hoff2 : Off F2 A := fun b hb => hs2.out ((Hown.out.lt b (by rw [ownBlock_slice]; exact hb)).2) (Hoff.out b hb)
           have Hq2 := hide hq2; have Hown2 := hide hown2; have Hoff2 := hide hoff2; have Hsm2 := hide h3.1; have HF2 := hide h3.2
           clear hq2 hs2 h3 hown2 hoff2 hF)
        | (at_builtin; refine wpList_appS rfl (.tmp 45) (.tmp 48) _ rfl slI rfl (Hown2.out.alloc _) rfl rfl (rd_new w2 _ _) (one_is [100 - (i : Int)]) (by omega) (by omega) (by have := Hsm2.out.size; simp; omega) ?_
           intro A5 c5 w5 hown5 hchg5 hat5
           have Hown5 := hide hown5
           have Hchg5 := hide hchg5
           have Hat5 := hide hat5
           clear hown5 hchg5 hat5))
      go_roundg (many - (i + 1))
      case measure => have := Hk.out; omega
      case rel =>
        have hcz : Chg (fun k => blkOf A = some k) w2 w5 := ((Chg.refl _ w2).alloc _).trans Hchg5.out fun _ _ h => h
        refine ⟨i + 1, F2, A5, c5, by omega, rfl, rfl, by go_num, Hq2.out.chg hcz fun k hk h => Hoff2.out k h hk, by rw [down_succ, is_append]; exact Hown5.out, fun b hb hk => ?_, Hsm2.out.app Hown2.out (Nat.le_refl _) hcz, HF2.out⟩
        have hlt := Hq2.out.lt b hk
        rcases Hat5.out with h | h
        · exact Hoff2.out b (h ▸ hb) hk
        · rw [h] at hb
          simp at hb
          omega
    · have him : i = many := by omega
      subst him
      go_wp2_with fail
      have hro0 : Row wr A i c (down i) := Row.own Hown.out (down_len i) rfl
      have Hro0 := hide hro0
      clear hro0 hi hlt
      go_loopg [8, 10] N (fun k vl vi wr => ∃ (i : Nat) (q : List Int) (F : Nat → Prop) (A : Option Addr) (c : Nat), i ≤ N ∧ k = N - i ∧ vl = .slice A q.length c ∧ vi = .int .i64 i ∧ Que F wr g 50 q 0 false 0 ∧ Row wr A q.length c q ∧ Off F A ∧ q.Nodup ∧ q.length ≤ 39 ∧ Same w wr ∧ ∀ k, F k → w.heap.size ≤ k)
      case atStart =>
        exact ⟨0, down i, F, A, c, Nat.zero_le _, rfl, by rw [down_len], rfl, Hq.out, by rw [down_len]; exact Hro0.out, Hoff.out, down_nodup i, by rw [down_len]; omega, Hs.out, HF.out⟩
      case round =>
        clear Hq Hown Hoff Hs HF Hk Hro0
        obtain ⟨i, q, F, A, c, hi, hkk, rfl, rfl, hq, hro, hoff, hnd, hq39, hsame, hF⟩ := hrel
        generalize hn : q.length = n at *
        have Hn := hide hn
        have Hk := hide hkk
        have Hq := hide hq
        have Hro := hide hro
        have Hoff := hide hoff
        have Hnd := hide hnd
        have Hs := hide hsame
        have HF := hide hF
        clear hkk hq hro hoff hF hn hnd
        by_cases hlt : i < N ∧ i < 10
        · obtain ⟨hlt1, hlt2⟩ := hlt
          have hil : i < b0.length := by have := HN.out; omega
          obtain ⟨bb, boff, e0, hcell0⟩ := Hr0.out.at_ (i := i) (by simp; exact hil)
          have hbb := Hlt0.out (fun e => by rw [e] at hil; simp at hil) bb (by rw [e0]; rfl)
          have hc0 : wr.cell? ⟨bb, boff + i, none⟩ = some (.int .u8 (b0[i].toNat : Int)) := by
            rw [hsame.cell (p := ⟨bb, boff + i, none⟩) hbb (fun h => h), hcell0]
            simp [bs]
          subst e0
          have hx := UInt8.toNat_lt b0[i]
          generalize b0[i].toNat = x at *
          clear hcell0 hsame
          obtain ⟨d, hd⟩ : ∃ d : Nat, (x : Int).tmod 50 = (d : Int) := ⟨((x : Int).tmod 50).toNat, by rw [Int.tmod_eq_emod_of_nonneg (by omega)]; omega⟩
          have hd50 : d < 50 := by rw [Int.tmod_eq_emod_of_nonneg (by omega)] at hd; omega
          have hl := dropQ_len q (60 + (d : Int))
          rw [Hn.out] at hl
          by_cases hva : (60 + (d : Int)) ∈ q
          · have Hva := hide hva
            clear hva
            generalize hqq : dropQ q (60 + (d : Int)) = q' at *
            generalize hn' : q'.length = n' at *
            generalize hpv : pos q (60 + (d : Int)) = pv at *
            have Hqq := hide hqq
            have Hn' := hide hn'
            have Hpv := hide hpv
            clear hqq hn' hpv
            go_wp2_with (first
              | (go_at_call 24
                 have hF := que_leave (60 + (d : Int)) Hq.out (by decide)
                 rw [leaveE_free, leaveQ_free, if_pos Hva.out, Hqq.out] at hF
                 refine hF.mono ?_
                 rintro e w1 ⟨rfl, F2, hq1, hs1⟩
                 have h1 := Hoff.out.stp Hro.out hs1
                 have h3 := Stp.fresh Hs.out HF.out hs1
                 have Hq1 := hide hq1; have Ho1 := hide h1.1; have Hoff1 := hide h1.2; have Hsm1 := hide h3.1; have HF2 := hide h3.2
                 clear hq1 hs1 h1 h3 hF)
              | (go_at_call 15
                 have hF := at_any _ _ _ _ (60 + (d : Int)) _ Ho1.out (by omega)
                 rw [atI_in Hva.out, Hpv.out] at hF
                 refine hF.mono ?_
                 rintro e w5 ⟨rfl, hww⟩
                 subst hww; clear hF)
              | (go_at_call 16
                 have hF := row_drop (60 + (d : Int)) Ho1.out (by omega)
                 rw [Hqq.out, Hn'.out] at hF
                 refine hF.mono ?_
                 rintro e w2 ⟨A2, c2, rfl, ho2, hs2, hfr⟩
                 have Hq2 := hide (Hq1.out.same hs2); have Ho2 := hide ho2; have Hoff2 := hide (Hoff1.out.from_ hfr Hq1.out.lt); have Hsm2 := hide (Hsm1.out.trans hs2)
                 clear ho2 hs2 hfr hF))
            go_roundg (N - (i + 1))
            case measure => have := Hk.out; omega
            case rel => exact ⟨i + 1, q', F2, A2, c2, by omega, rfl, by rw [Hn'.out], by go_num, Hq2.out, by rw [Hn'.out]; exact Ho2.out, Hoff2.out, Hqq.out ▸ dropQ_nodup _ Hnd.out, by rw [Hn'.out]; omega, Hsm2.out, HF2.out⟩
          · have Hva := hide hva
            clear hva
            generalize hqq : dropQ q (60 + (d : Int)) = q' at *
            generalize hn' : q'.length = n' at *
            have Hqq := hide hqq
            have Hn' := hide hn'
            clear hqq hn'
            go_wp2_with (first
              | (go_at_call 24
                 have hF := que_leave (60 + (d : Int)) Hq.out (by decide)
                 rw [leaveE_free, leaveQ_free, if_neg Hva.out, Hqq.out] at hF
                 refine hF.mono ?_
                 rintro e w1 ⟨rfl, F2, hq1, hs1⟩
                 have h1 := Hoff.out.stp Hro.out hs1
                 have h3 := Stp.fresh Hs.out HF.out hs1
                 have Hq1 := hide hq1; have Ho1 := hide h1.1; have Hoff1 := hide h1.2; have Hsm1 := hide h3.1; have HF2 := hide h3.2
                 clear hq1 hs1 h1 h3 hF)
              | (go_at_call 15
                 have hF := at_any _ _ _ _ (60 + (d : Int)) _ Ho1.out (by omega)
                 rw [atI_out Hva.out] at hF
                 refine hF.mono ?_
                 rintro e w5 ⟨rfl, hww⟩
                 subst hww; clear hF)
              | (go_at_call 16
                 have hF := row_drop (60 + (d : Int)) Ho1.out (by omega)
                 rw [Hqq.out, Hn'.out] at hF
                 refine hF.mono ?_
                 rintro e w2 ⟨A2, c2, rfl, ho2, hs2, hfr⟩
                 have Hq2 := hide (Hq1.out.same hs2); have Ho2 := hide ho2; have Hoff2 := hide (Hoff1.out.from_ hfr Hq1.out.lt); have Hsm2 := hide (Hsm1.out.trans hs2)
                 clear ho2 hs2 hfr hF))
            go_roundg (N - (i + 1))
            case measure => have := Hk.out; omega
            case rel => exact ⟨i + 1, q', F2, A2, c2, by omega, rfl, by rw [Hn'.out], by go_num, Hq2.out, by rw [Hn'.out]; exact Ho2.out, Hoff2.out, Hqq.out ▸ dropQ_nodup _ Hnd.out, by rw [Hn'.out]; omega, Hsm2.out, HF2.out⟩
        · clear hsame
          by_cases hin2 : i < N
          · go_wp2_with fail
            have Hl : Hid (q.length = n) := Hn
            go_loopg [12] n (fun k vi wr' => ∃ (i : Nat) (F : Nat → Prop), i ≤ n ∧ k = n - i ∧ vi = .int .i64 i ∧ Que F wr' g 50 (q.drop i) 0 false i ∧ Row wr' A n c q ∧ Off F A ∧ Same w wr' ∧ ∀ k, F k → w.heap.size ≤ k)
            case atStart => exact ⟨0, F, Nat.zero_le _, rfl, rfl, Hq.out, Hro.out, Hoff.out, Hs.out, HF.out⟩
            case round =>
              clear Hq Hro Hoff Hs HF Hk hlt hi
              obtain ⟨j, F, hj, hkk, rfl, hq, hro, hoff, hsame, hF⟩ := hrel
              have Hk := hide hkk
              have Hq := hide hq
              have Hro := hide hro
              have Hoff := hide hoff
              have Hs := hide hsame
              have HF := hide hF
              clear hkk hq hro hoff hsame hF
              by_cases hjn : j < n
              · have hjl : j < q.length := by have := Hl.out; omega
                obtain ⟨m, hmn⟩ : ∃ m, n = m + 1 := ⟨n - 1, by omega⟩
                have hm1 : (n : Int) - 1 = (m : Int) := by omega
                have hml : m < q.length := by have := Hl.out; omega
                have hma : m + 1 ≤ n := by omega
                have hmb : n ≤ m + 1 := by omega
                clear hmn
                have hdr : q.drop j = q[j] :: q.drop (j + 1) := List.drop_eq_getElem_cons hjl
                have hqc := Hq.out
                rw [hdr] at hqc
                obtain ⟨b, off, rfl, hb, _⟩ := Hro.out.at_ (by omega : 0 < n)
                have hcx : ∀ w', Row w' (some ⟨b, off, none⟩) n c q → w'.cell? ⟨b, off + j, none⟩ = some (.int .i64 q[j]) := fun w' h => h.cellAt hjl
                have hcy : ∀ w', Row w' (some ⟨b, off, none⟩) n c q → w'.cell? ⟨b, off + m, none⟩ = some (.int .i64 q[m]) := fun w' h => h.cellAt hml
                have Hcx := hide hcx
                have Hcy := hide hcy
                have Hqc := hide hqc
                have hpl : j < m → q[m] ∈ q.drop (j + 1) ∧ ((pos (q.drop (j + 1)) q[m] : Nat) : Int) + 1 = (m : Int) - (j : Int) ∧ ¬ q[j] = q[m] := fun h => by
                  have h1 := pos_last Hnd.out (i := j) (by have := Hl.out; omega)
                  have e : q[q.length - 1]'(by omega) = q[m] := by congr 1; have := Hl.out; omega
                  rw [e] at h1
                  exact ⟨h1.1, by have := Hl.out; have := h1.2.1; omega, h1.2.2⟩
                have Hpl := hide hpl
                clear hcx hcy hqc hdr hpl
                by_cases hjm : j = m
                · subst hjm
                  generalize q[j] = x at *
                  go_wp2_with (first
                    | (go_at_call 25
                       first
                       | (have hF := que_grant_held Hq2.out
                          refine hF.mono ?_
                          rintro e w3 ⟨rfl, rfl⟩
                          clear hF)
                       | (have hF := que_grant (t := j) Hqc.out (by decide) (by omega)
                          refine hF.mono ?_
                          rintro e w2 ⟨rfl, F2, hq2, hs2⟩
                          have h1 := Hoff.out.stp Hro.out hs2
                          have h3 := Stp.fresh Hs.out HF.out hs2
                          have hcell2 := Hcy.out w2 h1.1
                          have Hq2 := hide hq2; have Ho2 := hide h1.1; have Hoff2 := hide h1.2; have Hsm2 := hide h3.1; have HF2 := hide h3.2
                          clear hq2 hs2 h1 h3 hF))
                    | (go_at_call 26
                       have hF := ahead_has Hq2.out
                       refine hF.mono ?_
                       rintro e w4 ⟨rfl, hs4⟩
                       have hcell4 := Hcx.out w4 (Ho2.out.same hs4)
                       have Hs4 := hide hs4
                       clear hs4 hF)
                    | (go_at_call 27
                       have hF := que_release_yes (Hq2.out.same Hs4.out)
                       refine hF.mono ?_
                       rintro e w5 ⟨rfl, F5, hq5, hs5⟩
                       have h1 := Hoff2.out.stp (Ho2.out.same Hs4.out) hs5
                       have h3 := Stp.fresh (Hsm2.out.trans Hs4.out) HF2.out hs5
                       have Hq5 := hide hq5; have Ho5 := hide h1.1; have Hoff5 := hide h1.2; have Hsm5 := hide h3.1; have HF5 := hide h3.2
                       clear hq5 hs5 h1 h3 hF))
                  go_roundg (n - (j + 1))
                  case measure => have := Hk.out; omega
                  case rel => exact ⟨j + 1, F5, by omega, rfl, by go_num, Hq5.out, Ho5.out, Hoff5.out, Hsm5.out, HF5.out⟩
                · have h3 := Hpl.out (by omega)
                  generalize q[j] = x at *
                  generalize q[m] = y at *
                  have Hin := hide h3.1
                  have Hpos := hide h3.2.1
                  have Hne := hide h3.2.2
                  clear h3
                  go_wp2_with (first
                    | (go_at_call 25
                       first
                       | (have hF := que_grant_held Hq2.out
                          refine hF.mono ?_
                          rintro e w3 ⟨rfl, rfl⟩
                          clear hF)
                       | (have hF := que_grant (t := j) Hqc.out (by decide) (by omega)
                          refine hF.mono ?_
                          rintro e w2 ⟨rfl, F2, hq2, hs2⟩
                          have h1 := Hoff.out.stp Hro.out hs2
                          have h3 := Stp.fresh Hs.out HF.out hs2
                          have hcell2 := Hcy.out w2 h1.1
                          have Hq2 := hide hq2; have Ho2 := hide h1.1; have Hoff2 := hide h1.2; have Hsm2 := hide h3.1; have HF2 := hide h3.2
                          clear hq2 hs2 h1 h3 hF))
                    | (go_at_call 26
                       have hF := ahead_held y Hq2.out (by decide) Hne.out Hin.out
                       rw [Hpos.out] at hF
                       refine hF.mono ?_
                       rintro e w4 ⟨rfl, hs4⟩
                       have hcell4 := Hcx.out w4 (Ho2.out.same hs4)
                       have Hs4 := hide hs4
                       clear hs4 hF)
                    | (go_at_call 27
                       have hF := que_release_yes (Hq2.out.same Hs4.out)
                       refine hF.mono ?_
                       rintro e w5 ⟨rfl, F5, hq5, hs5⟩
                       have h1 := Hoff2.out.stp (Ho2.out.same Hs4.out) hs5
                       have h3 := Stp.fresh (Hsm2.out.trans Hs4.out) HF2.out hs5
                       have Hq5 := hide hq5; have Ho5 := hide h1.1; have Hoff5 := hide h1.2; have Hsm5 := hide h3.1; have HF5 := hide h3.2
                       clear hq5 hs5 h1 h3 hF))
                  go_roundg (n - (j + 1))
                  case measure => have := Hk.out; omega
                  case rel => exact ⟨j + 1, F5, by omega, rfl, by go_num, Hq5.out, Ho5.out, Hoff5.out, Hsm5.out, HF5.out⟩
              · have hje : j = n := by omega
                have hqe := Hq.out
                rw [List.drop_of_length_le (by have := Hl.out; omega)] at hqe
                have Hqe := hide hqe
                clear hqe
                subst hje
                go_wp2_with (first
                  | (go_at_call 25
                     have hF := que_grant_none Hqe.out (by decide)
                     refine hF.mono ?_
                     rintro e w2 ⟨rfl, F2, hq2, hs2⟩
                     have h3 := Stp.fresh Hs.out HF.out hs2
                     have Hq2 := hide hq2; have Hsm2 := hide h3.1
                     clear hq2 hs2 h3 hF)
                  | (go_at_call 28
                     have hF := que_turns Hq2.out
                     refine hF.mono ?_
                     rintro e w3 ⟨rfl, rfl⟩
                     clear hF)
                  | (go_at_call 29
                     have hF := qlives_any w2
                     refine hF.mono ?_
                     rintro e w4 ⟨rfl, hs4⟩
                     have Hs4 := hide hs4
                     clear hs4 hF))
                go_ret
                exact ⟨rfl, Hsm2.out.trans Hs4.out⟩
          · go_wp2_with fail
            have Hl : Hid (q.length = n) := Hn
            go_loopg [12] n (fun k vi wr' => ∃ (i : Nat) (F : Nat → Prop), i ≤ n ∧ k = n - i ∧ vi = .int .i64 i ∧ Que F wr' g 50 (q.drop i) 0 false i ∧ Row wr' A n c q ∧ Off F A ∧ Same w wr' ∧ ∀ k, F k → w.heap.size ≤ k)
            case atStart => exact ⟨0, F, Nat.zero_le _, rfl, rfl, Hq.out, Hro.out, Hoff.out, Hs.out, HF.out⟩
            case round =>
              clear Hq Hro Hoff Hs HF Hk hlt hi
              obtain ⟨j, F, hj, hkk, rfl, hq, hro, hoff, hsame, hF⟩ := hrel
              have Hk := hide hkk
              have Hq := hide hq
              have Hro := hide hro
              have Hoff := hide hoff
              have Hs := hide hsame
              have HF := hide hF
              clear hkk hq hro hoff hsame hF
              by_cases hjn : j < n
              · have hjl : j < q.length := by have := Hl.out; omega
                obtain ⟨m, hmn⟩ : ∃ m, n = m + 1 := ⟨n - 1, by omega⟩
                have hm1 : (n : Int) - 1 = (m : Int) := by omega
                have hml : m < q.length := by have := Hl.out; omega
                have hma : m + 1 ≤ n := by omega
                have hmb : n ≤ m + 1 := by omega
                clear hmn
                have hdr : q.drop j = q[j] :: q.drop (j + 1) := List.drop_eq_getElem_cons hjl
                have hqc := Hq.out
                rw [hdr] at hqc
                obtain ⟨b, off, rfl, hb, _⟩ := Hro.out.at_ (by omega : 0 < n)
                have hcx : ∀ w', Row w' (some ⟨b, off, none⟩) n c q → w'.cell? ⟨b, off + j, none⟩ = some (.int .i64 q[j]) := fun w' h => h.cellAt hjl
                have hcy : ∀ w', Row w' (some ⟨b, off, none⟩) n c q → w'.cell? ⟨b, off + m, none⟩ = some (.int .i64 q[m]) := fun w' h => h.cellAt hml
                have Hcx := hide hcx
                have Hcy := hide hcy
                have Hqc := hide hqc
                have hpl : j < m → q[m] ∈ q.drop (j + 1) ∧ ((pos (q.drop (j + 1)) q[m] : Nat) : Int) + 1 = (m : Int) - (j : Int) ∧ ¬ q[j] = q[m] := fun h => by
                  have h1 := pos_last Hnd.out (i := j) (by have := Hl.out; omega)
                  have e : q[q.length - 1]'(by omega) = q[m] := by congr 1; have := Hl.out; omega
                  rw [e] at h1
                  exact ⟨h1.1, by have := Hl.out; have := h1.2.1; omega, h1.2.2⟩
                have Hpl := hide hpl
                clear hcx hcy hqc hdr hpl
                by_cases hjm : j = m
                · subst hjm
                  generalize q[j] = x at *
                  go_wp2_with (first
                    | (go_at_call 25
                       first
                       | (have hF := que_grant_held Hq2.out
                          refine hF.mono ?_
                          rintro e w3 ⟨rfl, rfl⟩
                          clear hF)
                       | (have hF := que_grant (t := j) Hqc.out (by decide) (by omega)
                          refine hF.mono ?_
                          rintro e w2 ⟨rfl, F2, hq2, hs2⟩
                          have h1 := Hoff.out.stp Hro.out hs2
                          have h3 := Stp.fresh Hs.out HF.out hs2
                          have hcell2 := Hcy.out w2 h1.1
                          have Hq2 := hide hq2; have Ho2 := hide h1.1; have Hoff2 := hide h1.2; have Hsm2 := hide h3.1; have HF2 := hide h3.2
                          clear hq2 hs2 h1 h3 hF))
                    | (go_at_call 26
                       have hF := ahead_has Hq2.out
                       refine hF.mono ?_
                       rintro e w4 ⟨rfl, hs4⟩
                       have hcell4 := Hcx.out w4 (Ho2.out.same hs4)
                       have Hs4 := hide hs4
                       clear hs4 hF)
                    | (go_at_call 27
                       have hF := que_release_yes (Hq2.out.same Hs4.out)
                       refine hF.mono ?_
                       rintro e w5 ⟨rfl, F5, hq5, hs5⟩
                       have h1 := Hoff2.out.stp (Ho2.out.same Hs4.out) hs5
                       have h3 := Stp.fresh (Hsm2.out.trans Hs4.out) HF2.out hs5
                       have Hq5 := hide hq5; have Ho5 := hide h1.1; have Hoff5 := hide h1.2; have Hsm5 := hide h3.1; have HF5 := hide h3.2
                       clear hq5 hs5 h1 h3 hF))
                  go_roundg (n - (j + 1))
                  case measure => have := Hk.out; omega
                  case rel => exact ⟨j + 1, F5, by omega, rfl, by go_num, Hq5.out, Ho5.out, Hoff5.out, Hsm5.out, HF5.out⟩
                · have h3 := Hpl.out (by omega)
                  generalize q[j] = x at *
                  generalize q[m] = y at *
                  have Hin := hide h3.1
                  have Hpos := hide h3.2.1
                  have Hne := hide h3.2.2
                  clear h3
                  go_wp2_with (first
                    | (go_at_call 25
                       first
                       | (have hF := que_grant_held Hq2.out
                          refine hF.mono ?_
                          rintro e w3 ⟨rfl, rfl⟩
                          clear hF)
                       | (have hF := que_grant (t := j) Hqc.out (by decide) (by omega)
                          refine hF.mono ?_
                          rintro e w2 ⟨rfl, F2, hq2, hs2⟩
                          have h1 := Hoff.out.stp Hro.out hs2
                          have h3 := Stp.fresh Hs.out HF.out hs2
                          have hcell2 := Hcy.out w2 h1.1
                          have Hq2 := hide hq2; have Ho2 := hide h1.1; have Hoff2 := hide h1.2; have Hsm2 := hide h3.1; have HF2 := hide h3.2
                          clear hq2 hs2 h1 h3 hF))
                    | (go_at_call 26
                       have hF := ahead_held y Hq2.out (by decide) Hne.out Hin.out
                       rw [Hpos.out] at hF
                       refine hF.mono ?_
                       rintro e w4 ⟨rfl, hs4⟩
                       have hcell4 := Hcx.out w4 (Ho2.out.same hs4)
                       have Hs4 := hide hs4
                       clear hs4 hF)
                    | (go_at_call 27
                       have hF := que_release_yes (Hq2.out.same Hs4.out)
                       refine hF.mono ?_
                       rintro e w5 ⟨rfl, F5, hq5, hs5⟩
                       have h1 := Hoff2.out.stp (Ho2.out.same Hs4.out) hs5
                       have h3 := Stp.fresh (Hsm2.out.trans Hs4.out) HF2.out hs5
                       have Hq5 := hide hq5; have Ho5 := hide h1.1; have Hoff5 := hide h1.2; have Hsm5 := hide h3.1; have HF5 := hide h3.2
                       clear hq5 hs5 h1 h3 hF))
                  go_roundg (n - (j + 1))
                  case measure => have := Hk.out; omega
                  case rel => exact ⟨j + 1, F5, by omega, rfl, by go_num, Hq5.out, Ho5.out, Hoff5.out, Hsm5.out, HF5.out⟩
              · have hje : j = n := by omega
                have hqe := Hq.out
                rw [List.drop_of_length_le (by have := Hl.out; omega)] at hqe
                have Hqe := hide hqe
                clear hqe
                subst hje
                go_wp2_with (first
                  | (go_at_call 25
                     have hF := que_grant_none Hqe.out (by decide)
                     refine hF.mono ?_
                     rintro e w2 ⟨rfl, F2, hq2, hs2⟩
                     have h3 := Stp.fresh Hs.out HF.out hs2
                     have Hq2 := hide hq2; have Hsm2 := hide h3.1
                     clear hq2 hs2 h3 hF)
                  | (go_at_call 28
                     have hF := que_turns Hq2.out
                     refine hF.mono ?_
                     rintro e w3 ⟨rfl, rfl⟩
                     clear hF)
                  | (go_at_call 29
                     have hF := qlives_any w2
                     refine hF.mono ?_
                     rintro e w4 ⟨rfl, hs4⟩
                     have Hs4 := hide hs4
                     clear hs4 hF))
                go_ret
                exact ⟨rfl, Hsm2.out.trans Hs4.out⟩
end Go.Proofs.Ytkakhpbeglkbnaa
