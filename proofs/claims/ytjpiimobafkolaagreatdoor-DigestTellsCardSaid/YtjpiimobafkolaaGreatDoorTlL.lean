/-
  The walk of DigestTells. Conditions: the data came in whole; the table of Go's library is as laid.
-/
import Derived.Test.YtjpiimobafkolaaGreatDoorTlA
import Derived.Test.YtjpiimobafkolaaGreatDoorTlF
import Derived.Test.YtjpiimobafkolaaGreatDoorTlV
import Derived.Test.YtjpiimobafkolaaGreatDoorPtIn
namespace Go.Proofs.YtjpiimobafkolaaGreatDoor
open Go.RowKit Go.Al
set_option linter.unusedVariables false

theorem inI_of {n : Int} (h : (Lit.int .i64 n).wf = true) : inI n := by
  simp [Lit.wf, IntKind.min, IntKind.max, IntKind.signed, IntKind.bits] at h
  unfold inI
  omega
theorem in3_of {p : P3} (h : Wf3 p) : In3 p := ⟨inI_of h.1, inI_of h.2.1, inI_of h.2.2⟩
theorem take_bs (l : List UInt8) (n : Nat) : (bs l).take n = bs (l.take n) := by simp [bs, List.map_take]
set_option maxRecDepth 100000 in
set_option maxHeartbeats 8000000 in
theorem digestTells_any {A0 A1 A2 : Option Addr} {n0 c0 n1 c1 n2 c2 : Nat} (b0 : List UInt8) (p0 s0 : List P3) (w : World) (hl : LaidP w) (h0 : Rd w A0 (bs b0)) (hn0 : b0.length = n0) (hc0 : n0 ≤ c0) (hm0 : c0 ≤ maxLen) (h1 : Row3 w A1 n1 c1 p0) (h2 : Row3 w A2 n2 c2 s0) (hp0 : ∀ x ∈ p0, In3 x) (hs0 : ∀ x ∈ s0, In3 x) :
    Calls Tryz.prog 3 #[.slice A0 n0 c0, .slice A1 n1 c1, .slice A2 n2 c2] w fun e w' => e = .returned (.bool true) ∧ Same w w' := by
  have HF1 := hide (fewP_any p0 w h1)
  have HS1 := hide (fun w' (hs : Same w w') => fewS_any s0 w' (h2.same hs))
  have hpl : (p0.take 20).length ≤ 20 := by rw [List.length_take]; omega
  have hsl : (s0.take 30).length ≤ 30 := by rw [List.length_take]; omega
  have hp : ∀ x ∈ p0.take 20, In3 x := fun x hx => hp0 x (List.mem_of_mem_take hx)
  have hs : ∀ x ∈ s0.take 30, In3 x := fun x hx => hs0 x (List.mem_of_mem_take hx)
  clear hp0 hs0
  generalize p0.take 20 = p at *
  generalize s0.take 30 = s at *
  have hpt : p.take 20 = p := List.take_of_length_le hpl
  have hst : s.take 30 = s := List.take_of_length_le hsl
  obtain ⟨np, hnp⟩ : ∃ n, p.length = n := ⟨_, rfl⟩
  obtain ⟨ns, hns⟩ : ∃ n, s.length = n := ⟨_, rfl⟩
  have HF2 := hide (fun w' (A : Option Addr) (n c : Nat) (hr : Row3 w' A n c p) => (show Calls Tryz.prog 4 #[.slice A n c, .int .i64 20] w' (FewEnd w' 37 p) from by have := fewP_any p w' hr; rwa [hpt] at this))
  have HS2 := hide (fun w' (A : Option Addr) (n c : Nat) (hr : Row3 w' A n c s) => (show Calls Tryz.prog 5 #[.slice A n c] w' (FewEnd w' 44 s) from by have := fewS_any s w' hr; rwa [hst] at this))
  have HTx := hide (fun w' (A A' : Option Addr) (c c' : Nat) (hss : Same w w') (hr : Row3 w' A np c p) (hr' : Row3 w' A' ns c' s) => dtext_any p s w' (hl.same hss) hr hr' hp hs (by omega) (by omega))
  have HTr := hide (fun w' (A A' : Option Addr) (c c' : Nat) (hr : Row3 w' A np c p) (hr' : Row3 w' A' ns c' s) => rtext_any p s w' hr hr' hp hs (by omega) (by omega))
  unfold FewEnd at HF1 HS1 HF2 HS2
  rw [hnp] at HF1 HF2 hpl
  rw [hns] at HS1 HS2 hsl
  have Hnp := hide hnp
  have Hns := hide hns
  generalize textT p s = T at *
  clear h1 h2 hnp hns hpt hst hl hp hs
  unfold maxLen at hm0
  by_cases h3 : 60 < n0
  · obtain ⟨b, hb⟩ : ∃ b, b0.take 60 = b := ⟨_, rfl⟩
    have hbn : b.length = 60 := by rw [← hb, List.length_take]; omega
    have Hr0 : Hid (Rd w A0 (bs b)) := hide (by rw [← hb, ← take_bs]; exact h0.take 60)
    have Hbl := hide (show (bs b).length = 60 * 1 by simp [bs, hbn])
    have HSm := hide (fun w' (A : Option Addr) (c : Nat) (h : Rd w' A (bs b)) => (show Calls Tryz.prog 6 #[.slice A 60 c] w' (fun e w'' => e = .returned (.int .u64 ((sumL b : Nat) : Int)) ∧ Same w' w'') from by have := sum_any (c := c) b w' h (by omega); rwa [hbn] at this))
    have HSr := hide (fun w' (A : Option Addr) (c : Nat) (h : Rd w' A (bs b)) => (show Calls Tryz.prog 7 #[.slice A 60 c] w' (fun e w'' => e = .returned (.int .u64 ((sumL b : Nat) : Int)) ∧ w' = w'') from by have := rsum_any (c := c) b w' h (by omega); rwa [hbn] at this))
    generalize sumL b = X at *
    have hcut := cut_hi (P := Tryz.prog) slB A0 n0 c0 .i64 60 60 rfl (by omega)
    have hi0 : (60 : Int) < (n0 : Int) := by omega
    clear h0 hn0 hb hbn
    go_enter Tryz.func3, Tryz.ntmps3
    go_wp2_with (first
      | (go_at_call 4; first
          | ((with_reducible refine HF1.out.mono ?_); rintro e w1 ⟨A1', c1', rfl, ho1, hs1⟩; have Hs1 := hide hs1; have HR1 := hide (Row3.own ho1 Hnp.out); clear ho1 hs1)
          | ((with_reducible refine (HF2.out _ _ _ _ (HR1.out.same Hs29.out)).mono ?_); rintro e w3 ⟨A3', c3', rfl, ho3, hs3⟩; have Hs3 := hide hs3; have HR3 := hide (Row3.own ho3 Hnp.out); have Hs39 := hide (Same.trans Hs29.out hs3); clear ho3 hs3))
      | (go_at_call 5; first
          | ((with_reducible refine (HS1.out w1 Hs1.out).mono ?_); rintro e w2 ⟨A2', c2', rfl, ho2, hs2⟩; have Hs2 := hide (Same.trans Hs1.out hs2); have Hs2' := hide hs2; have HR2 := hide (Row3.own ho2 Hns.out); clear ho2 hs2)
          | ((with_reducible refine (HS2.out w3 _ _ _ ((HR2.out.same Hs28.out).same Hs3.out)).mono ?_); rintro e w4 ⟨A4', c4', rfl, ho4, hs4⟩; have Hs4 := hide hs4; have HR4 := hide (Row3.own ho4 Hns.out); have Hs49 := hide (Same.trans Hs39.out hs4); clear ho4 hs4))
      | (at_builtin; refine wpList_appS (by rfl) (.tmp 16) (.tmp 17) _ (by rfl) slB (by rfl) (base := w2.heap.size) (by exact own_lit w2 w2.heap.size 5 1 #[] 0 (Nat.le_refl _) (by decide) rfl) (by rfl) (by exact Hbl.out) (by exact (Hr0.out.same Hs2.out).alloc _) (one_bs _) (by omega) (by omega) (by simp) ?_; intro A7 c7 w7 hown hc hb7; have Hs27 : Hid (Same w2 w7) := hide (Chg.fresh (S := fun k => w2.heap.size ≤ k) (Chg.trans ((Chg.refl _ w2).alloc _) hc fun k _ e => by have : k = w2.heap.size := (by simpa [blkOf] using e.symm); omega) fun _ h => h); have Ho7 := hide hown; clear hown hc hb7)
      | (go_at_call 6; have ho7 := Ho7.out; simp only [Nat.zero_add, List.nil_append] at ho7; (with_reducible refine (HSm.out w7 A7 c7 (own_rd ho7)).mono ?_); rintro e w8 ⟨rfl, hs8⟩; have Hs28 := hide (Same.trans Hs27.out hs8); clear ho7 hs8)
      | (go_at_call 7; (with_reducible refine (HSr.out w8 A0 c0 (Hr0.out.same (Same.trans Hs2.out Hs28.out))).mono ?_); rintro e w9 ⟨rfl, rfl⟩; have Hs29 := hide (Same.trans Hs2'.out Hs28.out); have Hs0 := hide (Same.trans Hs2.out Hs28.out))
      | (go_at_call 8; (with_reducible refine (HTx.out w4 _ _ _ _ (Same.trans (Same.trans Hs0.out Hs3.out) Hs4.out) (HR3.out.same Hs4.out) HR4.out).mono ?_); rintro e w5 ⟨rfl, hs5⟩; have Hs5 := hide hs5; clear hs5)
      | (go_at_call 9; (with_reducible refine (HTr.out w5 _ _ _ _ ((HR1.out.same Hs49.out).same Hs5.out) ((((HR2.out.same Hs28.out).same Hs3.out).same Hs4.out).same Hs5.out)).mono ?_); rintro e w6 ⟨rfl, hs6⟩; have Hs6 := hide (Same.trans (Same.trans (Same.trans (Same.trans Hs0.out Hs3.out) Hs4.out) Hs5.out) hs6); clear hs6)
      | (go_at_call 10; (with_reducible refine (lives40 _).mono ?_); rintro e wz ⟨rfl, hsz⟩; have Hsz := hide (Same.trans Hs6.out hsz); clear hsz)
      | fail)
    go_ret
    exact ⟨rfl, Hsz.out⟩
  · obtain ⟨b, hb⟩ : ∃ b, b0 = b := ⟨_, rfl⟩
    have hbn := hn0
    rw [hb] at hbn h0
    clear hb hn0
    have Hr0 : Hid (Rd w A0 (bs b)) := hide h0
    have Hbl := hide (show (bs b).length = n0 * 1 by simp [bs, hbn])
    have HSm := hide (fun w' (A : Option Addr) (c : Nat) (h : Rd w' A (bs b)) => (show Calls Tryz.prog 6 #[.slice A n0 c] w' (fun e w'' => e = .returned (.int .u64 ((sumL b : Nat) : Int)) ∧ Same w' w'') from by have := sum_any (c := c) b w' h (by omega); rwa [hbn] at this))
    have HSr := hide (fun w' (A : Option Addr) (c : Nat) (h : Rd w' A (bs b)) => (show Calls Tryz.prog 7 #[.slice A n0 c] w' (fun e w'' => e = .returned (.int .u64 ((sumL b : Nat) : Int)) ∧ w' = w'') from by have := rsum_any (c := c) b w' h (by omega); rwa [hbn] at this))
    generalize sumL b = X at *
    have hi0 : ¬ (60 : Int) < (n0 : Int) := by omega
    clear h0 hbn
    go_enter Tryz.func3, Tryz.ntmps3
    go_wp2_with (first
      | (go_at_call 4; first
          | ((with_reducible refine HF1.out.mono ?_); rintro e w1 ⟨A1', c1', rfl, ho1, hs1⟩; have Hs1 := hide hs1; have HR1 := hide (Row3.own ho1 Hnp.out); clear ho1 hs1)
          | ((with_reducible refine (HF2.out _ _ _ _ (HR1.out.same Hs29.out)).mono ?_); rintro e w3 ⟨A3', c3', rfl, ho3, hs3⟩; have Hs3 := hide hs3; have HR3 := hide (Row3.own ho3 Hnp.out); have Hs39 := hide (Same.trans Hs29.out hs3); clear ho3 hs3))
      | (go_at_call 5; first
          | ((with_reducible refine (HS1.out w1 Hs1.out).mono ?_); rintro e w2 ⟨A2', c2', rfl, ho2, hs2⟩; have Hs2 := hide (Same.trans Hs1.out hs2); have Hs2' := hide hs2; have HR2 := hide (Row3.own ho2 Hns.out); clear ho2 hs2)
          | ((with_reducible refine (HS2.out w3 _ _ _ ((HR2.out.same Hs28.out).same Hs3.out)).mono ?_); rintro e w4 ⟨A4', c4', rfl, ho4, hs4⟩; have Hs4 := hide hs4; have HR4 := hide (Row3.own ho4 Hns.out); have Hs49 := hide (Same.trans Hs39.out hs4); clear ho4 hs4))
      | (at_builtin; refine wpList_appS (by rfl) (.tmp 16) (.tmp 17) _ (by rfl) slB (by rfl) (base := w2.heap.size) (by exact own_lit w2 w2.heap.size 5 1 #[] 0 (Nat.le_refl _) (by decide) rfl) (by rfl) (by exact Hbl.out) (by exact (Hr0.out.same Hs2.out).alloc _) (one_bs _) (by omega) (by omega) (by simp) ?_; intro A7 c7 w7 hown hc hb7; have Hs27 : Hid (Same w2 w7) := hide (Chg.fresh (S := fun k => w2.heap.size ≤ k) (Chg.trans ((Chg.refl _ w2).alloc _) hc fun k _ e => by have : k = w2.heap.size := (by simpa [blkOf] using e.symm); omega) fun _ h => h); have Ho7 := hide hown; clear hown hc hb7)
      | (go_at_call 6; have ho7 := Ho7.out; simp only [Nat.zero_add, List.nil_append] at ho7; (with_reducible refine (HSm.out w7 A7 c7 (own_rd ho7)).mono ?_); rintro e w8 ⟨rfl, hs8⟩; have Hs28 := hide (Same.trans Hs27.out hs8); clear ho7 hs8)
      | (go_at_call 7; (with_reducible refine (HSr.out w8 A0 c0 (Hr0.out.same (Same.trans Hs2.out Hs28.out))).mono ?_); rintro e w9 ⟨rfl, rfl⟩; have Hs29 := hide (Same.trans Hs2'.out Hs28.out); have Hs0 := hide (Same.trans Hs2.out Hs28.out))
      | (go_at_call 8; (with_reducible refine (HTx.out w4 _ _ _ _ (Same.trans (Same.trans Hs0.out Hs3.out) Hs4.out) (HR3.out.same Hs4.out) HR4.out).mono ?_); rintro e w5 ⟨rfl, hs5⟩; have Hs5 := hide hs5; clear hs5)
      | (go_at_call 9; (with_reducible refine (HTr.out w5 _ _ _ _ ((HR1.out.same Hs49.out).same Hs5.out) ((((HR2.out.same Hs28.out).same Hs3.out).same Hs4.out).same Hs5.out)).mono ?_); rintro e w6 ⟨rfl, hs6⟩; have Hs6 := hide (Same.trans (Same.trans (Same.trans (Same.trans Hs0.out Hs3.out) Hs4.out) Hs5.out) hs6); clear hs6)
      | (go_at_call 10; (with_reducible refine (lives40 _).mono ?_); rintro e wz ⟨rfl, hsz⟩; have Hsz := hide (Same.trans Hs6.out hsz); clear hsz)
      | fail)
    go_ret
    exact ⟨rfl, Hsz.out⟩
end Go.Proofs.YtjpiimobafkolaaGreatDoor
