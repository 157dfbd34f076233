/-
  HistoryRight's walk: it answers true for every input, and leaves what was there as it was. Conditions: the events came in whole; the tables of Go's library are as laid.
-/
import Derived.Test.YtlimpepdelpogaaGreatDoorHwR
import Derived.Test.YtlimpepdelpogaaGreatDoorHyA
import Derived.Test.YtlimpepdelpogaaGreatDoorEvW
import Derived.Test.YtlimpepdelpogaaGreatDoorTdF
namespace Go.Proofs.YtlimpepdelpogaaGreatDoor
open Go.RowKit Go.Al
set_option linter.unusedVariables false
set_option maxHeartbeats 16000000
set_option maxRecDepth 100000
/-- an event's numbers -/
def NumE (d : Ev) : Prop := WfC d.r.c ∧ inI d.k ∧ inI d.op
theorem num_few {l src : List Ev} (h : l.map stripE = src.map cutE) (hw : ∀ d ∈ src, NumE d) : ∀ d ∈ l, NumE d := by
  intro d hd
  have h1 : stripE d ∈ src.map cutE := by rw [← h]; exact List.mem_map_of_mem hd
  obtain ⟨x, hx, e⟩ := List.mem_map.1 h1
  have h2 : NumE (stripE d) := by rw [← e]; exact hw x hx
  exact h2
theorem len_few2 {l src : List Ev} (h : l.map stripE = src.map cutE) : l.length = src.length := by
  have := congrArg List.length h
  simpa using this
theorem cut_cut (d : Ev) : cutE (cutE d) = cutE d := by
  unfold cutE
  simp [List.take_take]
theorem few_cut {l src : List Ev} (h : l.map stripE = src.map cutE) : l.map cutE = l.map stripE := by
  have e : l.map cutE = (l.map stripE).map cutE := by rw [List.map_map]; rfl
  rw [e, h, List.map_map]
  congr 1
  funext d
  exact cut_cut d
/-- events that were cut twice are alike -/
theorem few_twice {l m src : List Ev} (h1 : l.map stripE = src.map cutE) (h2 : m.map stripE = (l.take 40).map cutE) (hl : l.length ≤ 40) : m.map bareE = l.map bareE := by
  rw [List.take_of_length_le hl, few_cut h1] at h2
  exact h2
theorem right_twice {l m src : List Ev} (n : Int) (h1 : l.map stripE = src.map cutE) (h2 : m.map stripE = (l.take 40).map cutE) (hl : l.length ≤ 40) : rightP m n = rightP l n := by
  rw [← right_bare m, few_twice h1 h2 hl, right_bare]
theorem repl_twice {l m src : List Ev} (n : Int) (p s : List P3) (h1 : l.map stripE = src.map cutE) (h2 : m.map stripE = (l.take 40).map cutE) (hl : l.length ≤ 40) : replP n m p s = replP n l p s := by
  rw [← repl_bare n m, few_twice h1 h2 hl, repl_bare]
/-- the document's Right in one contract -/
theorem RefRight_any {A0 : Option Addr} {N C : Nat} {all : List Ev} (most : Int) (w : World) (hN : all.length = N) (hN4 : N ≤ 64) (ha : Evs w A0 all) :
    Calls Tryz.prog 6 #[.slice A0 N C, .int .i64 most] w (RefEnd w most (rightR all most) (replP most all [] [])) := by
  unfold rightR
  cases hG : goP all 0 0 [] all with
  | none => exact rright_none most w hN hN4 ha hG
  | some ds => exact rright_some most w hN hN4 ha trivial hG
theorem wrap_m {m : Int} (h0 : 0 ≤ m) (h1 : m ≤ 255) : IntKind.i64.wrap (1 + m % 20) = 1 + m % 20 := IntWalk.i64_in _ (by omega)
theorem historyRight_any (A0 : Option Addr) (N C : Nat) (l0 : List Ev) (m : Int) (w : World) (hl : Laid w) (ha : Evs w A0 l0) (hln : l0.length = N) (hwf : ∀ d ∈ l0, NumE d) (hNC : N ≤ C) (hC : C ≤ maxLen) (hm0 : 0 ≤ m) (hm1 : m ≤ 255) :
    Calls Tryz.prog 3 #[.slice A0 N C, .int .u8 m] w fun e w' => e = .returned (.bool true) ∧ Same w w' := by
  subst hln
  have HF := hide (fewE_any (c := C) w ha (by omega))
  have Hl := hide hl
  have Hwt := hide (fun d (hd : d ∈ l0.take 40) => hwf d (List.mem_of_mem_take hd))
  have Hl40 := hide (show (l0.take 40).length ≤ 40 by rw [List.length_take]; omega)
  obtain ⟨n, hn⟩ : ∃ n : Int, 1 + m % 20 = n := ⟨_, rfl⟩
  have hn1 : 1 ≤ n := by omega
  have hn2 : n ≤ 20 := by omega
  have Hn1 := hide hn1
  have Hn2 := hide hn2
  have hwm := wrap_m hm0 hm1
  rw [hn] at hwm
  clear hl ha hwf hNC hC
  generalize l0.length = N0 at *
  go_enter Tryz.func3, Tryz.ntmps3
  go_wp2_with fail
  go_at_call 4
  (with_reducible refine HF.out.mono ?_)
  rintro e w1 ⟨A, c, l, rfl, hown, hrp, hbl, hmap, hs1⟩
  have HE := hide (evs_own hown hrp)
  have Hmap := hide hmap
  have Hs1 := hide hs1
  have Hnum := hide (num_few hmap Hwt.out)
  have hl40 : l.length ≤ 40 := by rw [len_few2 hmap]; exact Hl40.out
  have Hl40b := hide hl40
  have HFw := hide (fun w' (hs : Same w1 w') => fewE_any (c := c) w' (HE.out.same hs) (by unfold maxLen; omega))
  clear hown hrp hbl hmap hs1 hl40
  obtain ⟨q, hq⟩ : ∃ q, l.length = q := ⟨_, rfl⟩
  rw [hq] at HFw ⊢
  have Hq := hide hq
  have hq40 : q ≤ 40 := by rw [← hq]; exact Hl40b.out
  clear hq
  by_cases h0 : q = 0
  · have hfirst : ∀ e r, l = e :: r → 0 ≤ e.st := fun e r h => by have h2 := Hq.out; rw [h, h0] at h2; simp at h2
    subst h0
    have Hfirst := hide (hfirst)
    have hrr : rightR l n = rightP l n := right_eq l n Hfirst.out
    obtain ⟨bv, hbv⟩ : ∃ b, rightP l n = b := ⟨_, rfl⟩
    have HRef := hide (RefRight_any (C := c) n w1 Hq.out (by omega) HE.out)
    rw [hrr, hbv] at HRef
    have Hbv := hide hbv
    have HnumT : Hid (∀ d ∈ l.take 40, NumE d) := hide (fun d hd => Hnum.out d (List.mem_of_mem_take hd))
    clear hrr hbv hfirst
    unfold RefEnd at HRef
    go_wp2_with fail
    go_at_call 6
    (refine HRef.out.mono ?_)
    rintro e w2 ⟨g, AP, cp, AS, cs, p, s, rfl, hset, hs2, hg, hrep⟩
    have Hset := hide hset
    have Hs2 := hide hs2
    have Hrep := hide hrep
    clear hset hs2 hg hrep
    go_wp2_with fail
    go_at_call 4
    (with_reducible refine (HFw.out w2 Hs2.out).mono ?_)
    rintro e w3 ⟨A3, c3, l3, rfl, hown, hrp, hbl, hmap, hs3⟩
    have HE3 := hide (evs_own hown hrp)
    have Hmap3 := hide hmap
    have Hs3 := hide (Same.trans Hs2.out hs3)
    have Hs23 := hide hs3
    have Hnum3 := hide (num_few hmap HnumT.out)
    have hl3 : l3.length ≤ 64 := by rw [len_few2 hmap, List.length_take]; omega
    have Hl3 := hide hl3
    clear hown hrp hbl hmap hs3 hl3
    have HRp := hide (Replay_any (C := c3) n w3 rfl Hl3.out Hn1.out (by have := Hn2.out; omega) HE3.out (fun d hd => (Hnum3.out d hd).1))
    rw [repl_twice n [] [] Hmap.out Hmap3.out Hl40b.out] at HRp
    unfold ReplEnd at HRp
    go_wp2_with fail
    go_at_call 7
    (refine HRp.out.mono ?_)
    rintro e w4 ⟨gt, pm, sm, pt, st, rfl, htb, hs4, _, _, _, hq⟩
    have Htb := hide htb
    have Hs4 := hide (Same.trans Hs3.out hs4)
    have Hs24 := hide (Same.trans Hs23.out hs4)
    have Hq := hide hq
    clear htb hs4 hq
    go_wp2_with fail
    go_at_call 4
    (with_reducible refine (HFw.out w4 Hs4.out).mono ?_)
    rintro e w5 ⟨A5, c5, l5, rfl, hown, hrp, hbl, hmap, hs5⟩
    have HE5 := hide (evs_own hown hrp)
    have Hmap5 := hide hmap
    have Hs5 := hide (Same.trans Hs4.out hs5)
    have Hs45 := hide hs5
    have Hnum5 := hide (num_few hmap HnumT.out)
    have hl5 : l5.length ≤ 64 := by rw [len_few2 hmap, List.length_take]; omega
    have Hl5 := hide hl5
    clear hown hrp hbl hmap hs5 hl5
    have HRg := hide (Right_any (C := c5) n w5 rfl Hl5.out Hn1.out (by have := Hn2.out; omega) HE5.out (fun d hd => ⟨(Hnum5.out d hd).2.1, (Hnum5.out d hd).2.2⟩) (fun d hd => (Hnum5.out d hd).1))
    rw [right_twice n Hmap.out Hmap5.out Hl40b.out, Hbv.out] at HRg
    go_wp2_with fail
    go_at_call 8
    (with_reducible refine HRg.out.mono ?_)
    rintro e w6 ⟨rfl, hs6⟩
    have Hs6 := hide (Same.trans Hs5.out hs6)
    have Hs46 := hide (Same.trans Hs45.out hs6)
    have Hs26 := hide (Same.trans Hs24.out Hs46.out)
    clear hs6
    cases bv
    · go_wp2_with (first
        | (go_at_call 5; (with_reducible refine (lives_hist _ (Hl.out.same (Same.trans Hs1.out Hs6.out))).mono ?_); rintro e w9 ⟨rfl, hs9⟩; have Hs9 := hide (Same.trans Hs6.out hs9); clear hs9)
        | fail)
      go_ret
      exact ⟨rfl, Same.trans Hs1.out Hs9.out⟩
    · have hr := Hrep.out rfl
      have hp := Hq.out _ hr
      obtain ⟨e1, e2⟩ : p = pt ∧ s = st := by cases hp; exact ⟨rfl, rfl⟩
      subst e1
      subst e2
      rw [hr]
      have hroom := Htb.out.room
      have hps : p.length ≤ 64 ∧ s.length ≤ 64 := by have := Hn2.out; omega
      have Hps := hide hps
      have Htb6 := hide (Htb.out.same (show Same w4 w6 from Hs46.out))
      clear hr hp hroom hps
      go_wp2_with (first
        | (go_at_call 10; (refine (allP_any w6 Htb6.out (by have := Hps.out; omega)).mono ?_); rintro e w7 ⟨A7, c7, rfl, hr7, hs7, _⟩; have Hr7 := hide hr7; have Hs67 := hide hs7; clear hr7 hs7)
        | (go_at_call 11; (refine (allS_any w7 (Htb6.out.same Hs67.out) (by have := Hps.out; omega)).mono ?_); rintro e w8 ⟨A8, c8, rfl, hr8, hs8, _⟩; have Hr8 := hide hr8; have Hs78 := hide hs8; clear hr8 hs8)
        | (go_at_call 9; (refine (sameR_eq w8 (Hset.out.same (show Same w2 w8 from Same.trans Hs26.out (Same.trans Hs67.out Hs78.out))) (Hr7.out.same Hs78.out) Hr8.out (by have := Hps.out; omega) (by have := Hps.out; omega)).mono ?_); rintro e w9 ⟨rfl, hs9⟩; have Hs9 := hide (Same.trans (Same.trans Hs6.out (Same.trans Hs67.out Hs78.out)) hs9); clear hs9)
        | (go_at_call 5; (with_reducible refine (lives_hist _ (Hl.out.same (Same.trans Hs1.out Hs9.out))).mono ?_); rintro e w10 ⟨rfl, hs10⟩; have Hs10 := hide (Same.trans Hs9.out hs10); clear hs10)
        | fail)
      go_ret
      exact ⟨rfl, Same.trans Hs1.out Hs10.out⟩
  · have hil : 0 < l.length := by have := Hq.out; omega
    obtain ⟨b, off, hA, hb, hra, hrt⟩ := HE.out.at_ hil
    obtain ⟨st1, hst1⟩ : ∃ v, l[0].st = v := ⟨_, rfl⟩
    have hc1 : w1.cell? ⟨b, off + 1, none⟩ = some (.int .i64 st1) := by
      have h := hra 1 (.int .i64 l[0].st) rfl
      rw [hst1] at h
      simpa using h
    have Hst1 := hide hst1
    have hne : ¬ q = 0 := h0
    have hpos : 0 < (q : Int) := by omega
    subst hA
    clear hra hrt hst1
    by_cases hneg : st1 < 0
    · go_wp2_with (first
        | (go_at_call 5; (with_reducible refine (lives_hist _ (Hl.out.same Hs1.out)).mono ?_); rintro e w9 ⟨rfl, hs9⟩; have Hs9 := hide hs9; clear hs9)
        | fail)
      go_ret
      exact ⟨rfl, Same.trans Hs1.out Hs9.out⟩
    · have hfirst : ∀ e r, l = e :: r → 0 ≤ e.st := fun e r h => by
        subst h
        have h5 : e.st = st1 := Hst1.out
        omega
      have Hfirst := hide (hfirst)
      have hrr : rightR l n = rightP l n := right_eq l n Hfirst.out
      obtain ⟨bv, hbv⟩ : ∃ b, rightP l n = b := ⟨_, rfl⟩
      have HRef := hide (RefRight_any (C := c) n w1 Hq.out (by omega) HE.out)
      rw [hrr, hbv] at HRef
      have Hbv := hide hbv
      have HnumT : Hid (∀ d ∈ l.take 40, NumE d) := hide (fun d hd => Hnum.out d (List.mem_of_mem_take hd))
      clear hrr hbv hfirst
      unfold RefEnd at HRef
      go_wp2_with fail
      go_at_call 6
      (refine HRef.out.mono ?_)
      rintro e w2 ⟨g, AP, cp, AS, cs, p, s, rfl, hset, hs2, hg, hrep⟩
      have Hset := hide hset
      have Hs2 := hide hs2
      have Hrep := hide hrep
      clear hset hs2 hg hrep
      go_wp2_with fail
      go_at_call 4
      (with_reducible refine (HFw.out w2 Hs2.out).mono ?_)
      rintro e w3 ⟨A3, c3, l3, rfl, hown, hrp, hbl, hmap, hs3⟩
      have HE3 := hide (evs_own hown hrp)
      have Hmap3 := hide hmap
      have Hs3 := hide (Same.trans Hs2.out hs3)
      have Hs23 := hide hs3
      have Hnum3 := hide (num_few hmap HnumT.out)
      have hl3 : l3.length ≤ 64 := by rw [len_few2 hmap, List.length_take]; omega
      have Hl3 := hide hl3
      clear hown hrp hbl hmap hs3 hl3
      have HRp := hide (Replay_any (C := c3) n w3 rfl Hl3.out Hn1.out (by have := Hn2.out; omega) HE3.out (fun d hd => (Hnum3.out d hd).1))
      rw [repl_twice n [] [] Hmap.out Hmap3.out Hl40b.out] at HRp
      unfold ReplEnd at HRp
      go_wp2_with fail
      go_at_call 7
      (refine HRp.out.mono ?_)
      rintro e w4 ⟨gt, pm, sm, pt, st, rfl, htb, hs4, _, _, _, hq⟩
      have Htb := hide htb
      have Hs4 := hide (Same.trans Hs3.out hs4)
      have Hs24 := hide (Same.trans Hs23.out hs4)
      have Hq := hide hq
      clear htb hs4 hq
      go_wp2_with fail
      go_at_call 4
      (with_reducible refine (HFw.out w4 Hs4.out).mono ?_)
      rintro e w5 ⟨A5, c5, l5, rfl, hown, hrp, hbl, hmap, hs5⟩
      have HE5 := hide (evs_own hown hrp)
      have Hmap5 := hide hmap
      have Hs5 := hide (Same.trans Hs4.out hs5)
      have Hs45 := hide hs5
      have Hnum5 := hide (num_few hmap HnumT.out)
      have hl5 : l5.length ≤ 64 := by rw [len_few2 hmap, List.length_take]; omega
      have Hl5 := hide hl5
      clear hown hrp hbl hmap hs5 hl5
      have HRg := hide (Right_any (C := c5) n w5 rfl Hl5.out Hn1.out (by have := Hn2.out; omega) HE5.out (fun d hd => ⟨(Hnum5.out d hd).2.1, (Hnum5.out d hd).2.2⟩) (fun d hd => (Hnum5.out d hd).1))
      rw [right_twice n Hmap.out Hmap5.out Hl40b.out, Hbv.out] at HRg
      go_wp2_with fail
      go_at_call 8
      (with_reducible refine HRg.out.mono ?_)
      rintro e w6 ⟨rfl, hs6⟩
      have Hs6 := hide (Same.trans Hs5.out hs6)
      have Hs46 := hide (Same.trans Hs45.out hs6)
      have Hs26 := hide (Same.trans Hs24.out Hs46.out)
      clear hs6
      cases bv
      · go_wp2_with (first
          | (go_at_call 5; (with_reducible refine (lives_hist _ (Hl.out.same (Same.trans Hs1.out Hs6.out))).mono ?_); rintro e w9 ⟨rfl, hs9⟩; have Hs9 := hide (Same.trans Hs6.out hs9); clear hs9)
          | fail)
        go_ret
        exact ⟨rfl, Same.trans Hs1.out Hs9.out⟩
      · have hr := Hrep.out rfl
        have hp := Hq.out _ hr
        obtain ⟨e1, e2⟩ : p = pt ∧ s = st := by cases hp; exact ⟨rfl, rfl⟩
        subst e1
        subst e2
        rw [hr]
        have hroom := Htb.out.room
        have hps : p.length ≤ 64 ∧ s.length ≤ 64 := by have := Hn2.out; omega
        have Hps := hide hps
        have Htb6 := hide (Htb.out.same (show Same w4 w6 from Hs46.out))
        clear hr hp hroom hps
        go_wp2_with (first
          | (go_at_call 10; (refine (allP_any w6 Htb6.out (by have := Hps.out; omega)).mono ?_); rintro e w7 ⟨A7, c7, rfl, hr7, hs7, _⟩; have Hr7 := hide hr7; have Hs67 := hide hs7; clear hr7 hs7)
          | (go_at_call 11; (refine (allS_any w7 (Htb6.out.same Hs67.out) (by have := Hps.out; omega)).mono ?_); rintro e w8 ⟨A8, c8, rfl, hr8, hs8, _⟩; have Hr8 := hide hr8; have Hs78 := hide hs8; clear hr8 hs8)
          | (go_at_call 9; (refine (sameR_eq w8 (Hset.out.same (show Same w2 w8 from Same.trans Hs26.out (Same.trans Hs67.out Hs78.out))) (Hr7.out.same Hs78.out) Hr8.out (by have := Hps.out; omega) (by have := Hps.out; omega)).mono ?_); rintro e w9 ⟨rfl, hs9⟩; have Hs9 := hide (Same.trans (Same.trans Hs6.out (Same.trans Hs67.out Hs78.out)) hs9); clear hs9)
          | (go_at_call 5; (with_reducible refine (lives_hist _ (Hl.out.same (Same.trans Hs1.out Hs9.out))).mono ?_); rintro e w10 ⟨rfl, hs10⟩; have Hs10 := hide (Same.trans Hs9.out hs10); clear hs10)
          | fail)
        go_ret
        exact ⟨rfl, Same.trans Hs1.out Hs10.out⟩
end Go.Proofs.YtlimpepdelpogaaGreatDoor
