/-
  The law FrameSplits, walked: it answers true for every bytes and every bound. Conditions: the bytes are read as a list.
-/
import Derived.Test.YtdaejdnomlodpaaFrI
namespace Go.Proofs.Ytdaejdnomlodpaa
open Go.RowKit Go.Al Go.Al.Fr
set_option linter.unusedVariables false

theorem sameB_refl (ls : List (List UInt8)) : sameB ls ls = true := by simp [sameB]

set_option maxRecDepth 100000 in
set_option maxHeartbeats 2000000 in
theorem splits_bad_small (A : Option Addr) (na cb : Nat) (b : List UInt8) (most : Int) (w : World) (hr : Rd w A (bs b)) (h : na ≤ 600) (hna : na ≤ cb) (hn : b.length = na) (hm : most < 1 ∨ 65535 < most) :
    Calls Try.prog 5 #[.slice A na cb, .int .i64 most] w fun e w' => e = .returned (.bool true) ∧ Same w w' := by
  have Hr := hide hr
  have Hn := hide hn
  have Hm := hide hm
  clear hr hn
  by_cases hm1 : most < 1
  · clear hm
    go_enter Try.func5, Try.ntmps5
    go_wp2_with (first
      | (at_builtin; refine wpList_appS rfl (.tmp 17) (.tmp 18) _ rfl slB rfl (own_lit w w.heap.size _ 1 #[] 0 (Nat.le_refl _) (by decide) rfl) rfl (by have := Hn.out; simp; omega) (Hr.out.alloc _) (one_bs _) (by omega) (by omega) (by simp) ?_
         intro A1 c1 w1 hown1 hchg1 hat1
         have hs1 : Same w w1 := ((Chg.refl _ w).alloc _).trans hchg1 (by intro k hk h; simp [blkOf] at h; omega)
         have Hs1 := hide hs1
         have Hown1 := hide hown1
         clear hown1 hchg1 hat1 hs1)
      | (go_at_call 18
         refine (Split_bad _ _ _ _ _ Hm.out).mono ?_
         rintro e w2 ⟨rfl, rfl⟩)
      | (go_at_call 14
         refine (lives_any _).mono ?_
         rintro e w3 ⟨rfl, hs3⟩
         have Hs3 := hide hs3
         clear hs3))
    go_ret
    exact ⟨by simp, Same.trans Hs1.out Hs3.out⟩
  · have hm2 : 65535 < most := by omega
    clear hm
    go_enter Try.func5, Try.ntmps5
    go_wp2_with (first
      | (at_builtin; refine wpList_appS rfl (.tmp 17) (.tmp 18) _ rfl slB rfl (own_lit w w.heap.size _ 1 #[] 0 (Nat.le_refl _) (by decide) rfl) rfl (by have := Hn.out; simp; omega) (Hr.out.alloc _) (one_bs _) (by omega) (by omega) (by simp) ?_
         intro A1 c1 w1 hown1 hchg1 hat1
         have hs1 : Same w w1 := ((Chg.refl _ w).alloc _).trans hchg1 (by intro k hk h; simp [blkOf] at h; omega)
         have Hs1 := hide hs1
         have Hown1 := hide hown1
         clear hown1 hchg1 hat1 hs1)
      | (go_at_call 18
         refine (Split_bad _ _ _ _ _ Hm.out).mono ?_
         rintro e w2 ⟨rfl, rfl⟩)
      | (go_at_call 14
         refine (lives_any _).mono ?_
         rintro e w3 ⟨rfl, hs3⟩
         have Hs3 := hide hs3
         clear hs3))
    go_ret
    exact ⟨by simp, Same.trans Hs1.out Hs3.out⟩

set_option maxRecDepth 100000 in
set_option maxHeartbeats 2000000 in
theorem splits_ok_small (A : Option Addr) (na cb : Nat) (b : List UInt8) (m : Nat) (w : World) (hr : Rd w A (bs b)) (hlow : b ≠ [] → ∀ k, blkOf A = some k → k < w.heap.size) (h : na ≤ 600) (hna : na ≤ cb) (hn : b.length = na) (hm1 : 1 ≤ (m : Int)) (hm2 : (m : Int) ≤ 65535) :
    Calls Try.prog 5 #[.slice A na cb, .int .i64 m] w fun e w' => e = .returned (.bool true) ∧ Same w w' := by
  have hc : na ≤ cb := by omega
  have Hr := hide hr
  have Hn := hide hn
  have Hlow := hide hlow
  clear hr hn hlow
  have hsb := sameB_refl (all m b).1
  have hE0 : errOf false = 0 := rfl
  have hE1 : errOf true = 11 := rfl
  cases hbr : (all m b).2.2 <;>
    go_enter Try.func5, Try.ntmps5 <;>
    go_wp2_with (first
      | (at_builtin; refine wpList_appS rfl (.tmp 17) (.tmp 18) _ rfl slB rfl (own_lit w w.heap.size _ 1 #[] 0 (Nat.le_refl _) (by decide) rfl) rfl (by have := Hn.out; simp; omega) (Hr.out.alloc _) (one_bs _) (by omega) (by omega) (by simp) ?_
         intro A1 c1 w1 hown1 hchg1 hat1
         have hs1 : Same w w1 := ((Chg.refl _ w).alloc _).trans hchg1 (by intro k hk h; simp [blkOf] at h; omega)
         have Hs1 := hide hs1
         have Hown1 := hide hown1
         clear hown1 hchg1 hat1 hs1)
      | (go_at_call 18
         obtain ⟨_, _, hv1, hle1, hrd1, _⟩ := own_form Hown1.out
         cases hv1
         refine (Split_ok _ _ _ b _ _ hm1 hm2 (by simpa using hrd1) (by have := Hn.out; omega) (by omega)).mono ?_
         rintro e w2 ⟨Ao, co, n, xs, rfl, hown2, hrows2, hs2, hn2⟩
         simp only [Int.toNat_natCast] at hrows2 hn2
         have Hown2 := hide hown2
         have Hrows2 := hide hrows2
         have Hs2 := hide hs2
         have Hn2 := hide hn2
         clear hown2 hrows2 hs2 hn2 hle1 hrd1)
      | (go_at_call 16
         refine (Frames_any w.heap.size _ _ _ b m _ (by omega) ((Hr.out.same Hs1.out).same Hs2.out) (fun h => Sfe.low _ _ _ (Hlow.out h)) Hn.out (by omega) hc).mono ?_
         rintro e w4 ⟨Ar, cr, nr, ys, rfl, hown4, hrows4, hs4, hn4⟩
         have Hown4 := hide hown4
         have Hrows4 := hide hrows4
         have Hs4 := hide hs4
         have Hn4 := hide hn4
         clear hown4 hrows4 hs4 hn4)
      | (go_at_call 12
         refine (Same_any w.heap.size 5 _ _ _ _ _ _ xs ys (all m b).1 (all m b).1 _ ((own_rd Hown2.out).same Hs4.out) ((Hrows2.out.more (Nat.zero_le _)).same Hs4.out) Hn2.out.symm (own_rd Hown4.out) Hrows4.out Hn4.out.symm (by have := all_count m b; have := Hn.out; have := Hn2.out; omega) (by have := all_count m b; have := Hn.out; have := Hn4.out; omega)).mono ?_
         rintro e w5 ⟨rfl, hs5⟩
         have Hs5 := hide hs5
         clear hs5)
      | (go_at_call 14
         refine (lives_any _).mono ?_
         rintro e w3 ⟨rfl, hs3⟩
         have Hs3 := hide hs3
         clear hs3))
  all_goals
    go_ret
    exact ⟨by simp, Same.trans (Same.trans (Same.trans (Same.trans Hs1.out Hs2.out) Hs4.out) Hs5.out) Hs3.out⟩
set_option maxRecDepth 100000 in
set_option maxHeartbeats 2000000 in
theorem splits_bad_big (A : Option Addr) (na cb : Nat) (b : List UInt8) (most : Int) (w : World) (hr : Rd w A (bs b)) (hbig : 600 < na) (hna : na ≤ cb) (h63 : na ≤ 9223372036854775807) (hn : b.length = 600) (hm : most < 1 ∨ 65535 < most) :
    Calls Try.prog 5 #[.slice A na cb, .int .i64 most] w fun e w' => e = .returned (.bool true) ∧ Same w w' := by
  have Hr := hide hr
  have Hn := hide hn
  have Hm := hide hm
  clear hr hn
  have hcut := cut_hi slB A na cb .i64 600 600 rfl (by omega)
  by_cases hm1 : most < 1
  · clear hm
    go_enter Try.func5, Try.ntmps5
    go_wp2_with (first
      | (at_builtin; refine wpList_appS rfl (.tmp 17) (.tmp 18) _ rfl slB rfl (own_lit w w.heap.size _ 1 #[] 0 (Nat.le_refl _) (by decide) rfl) rfl (by have := Hn.out; simp; omega) (Hr.out.alloc _) (one_bs _) (by omega) (by omega) (by simp) ?_
         intro A1 c1 w1 hown1 hchg1 hat1
         have hs1 : Same w w1 := ((Chg.refl _ w).alloc _).trans hchg1 (by intro k hk h; simp [blkOf] at h; omega)
         have Hs1 := hide hs1
         have Hown1 := hide hown1
         clear hown1 hchg1 hat1 hs1)
      | (go_at_call 18
         refine (Split_bad _ _ _ _ _ Hm.out).mono ?_
         rintro e w2 ⟨rfl, rfl⟩)
      | (go_at_call 14
         refine (lives_any _).mono ?_
         rintro e w3 ⟨rfl, hs3⟩
         have Hs3 := hide hs3
         clear hs3))
    go_ret
    exact ⟨by simp, Same.trans Hs1.out Hs3.out⟩
  · have hm2 : 65535 < most := by omega
    clear hm
    go_enter Try.func5, Try.ntmps5
    go_wp2_with (first
      | (at_builtin; refine wpList_appS rfl (.tmp 17) (.tmp 18) _ rfl slB rfl (own_lit w w.heap.size _ 1 #[] 0 (Nat.le_refl _) (by decide) rfl) rfl (by have := Hn.out; simp; omega) (Hr.out.alloc _) (one_bs _) (by omega) (by omega) (by simp) ?_
         intro A1 c1 w1 hown1 hchg1 hat1
         have hs1 : Same w w1 := ((Chg.refl _ w).alloc _).trans hchg1 (by intro k hk h; simp [blkOf] at h; omega)
         have Hs1 := hide hs1
         have Hown1 := hide hown1
         clear hown1 hchg1 hat1 hs1)
      | (go_at_call 18
         refine (Split_bad _ _ _ _ _ Hm.out).mono ?_
         rintro e w2 ⟨rfl, rfl⟩)
      | (go_at_call 14
         refine (lives_any _).mono ?_
         rintro e w3 ⟨rfl, hs3⟩
         have Hs3 := hide hs3
         clear hs3))
    go_ret
    exact ⟨by simp, Same.trans Hs1.out Hs3.out⟩

set_option maxRecDepth 100000 in
set_option maxHeartbeats 2000000 in
theorem splits_ok_big (A : Option Addr) (na cb : Nat) (b : List UInt8) (m : Nat) (w : World) (hr : Rd w A (bs b)) (hlow : b ≠ [] → ∀ k, blkOf A = some k → k < w.heap.size) (hbig : 600 < na) (hna : na ≤ cb) (h63 : na ≤ 9223372036854775807) (hn : b.length = 600) (hm1 : 1 ≤ (m : Int)) (hm2 : (m : Int) ≤ 65535) :
    Calls Try.prog 5 #[.slice A na cb, .int .i64 m] w fun e w' => e = .returned (.bool true) ∧ Same w w' := by
  have hc : 600 ≤ cb := by omega
  have Hr := hide hr
  have Hn := hide hn
  have Hlow := hide hlow
  clear hr hn hlow
  have hsb := sameB_refl (all m b).1
  have hE0 : errOf false = 0 := rfl
  have hE1 : errOf true = 11 := rfl
  have hcut := cut_hi slB A na cb .i64 600 600 rfl (by omega)
  cases hbr : (all m b).2.2 <;>
    go_enter Try.func5, Try.ntmps5 <;>
    go_wp2_with (first
      | (at_builtin; refine wpList_appS rfl (.tmp 17) (.tmp 18) _ rfl slB rfl (own_lit w w.heap.size _ 1 #[] 0 (Nat.le_refl _) (by decide) rfl) rfl (by have := Hn.out; simp; omega) (Hr.out.alloc _) (one_bs _) (by omega) (by omega) (by simp) ?_
         intro A1 c1 w1 hown1 hchg1 hat1
         have hs1 : Same w w1 := ((Chg.refl _ w).alloc _).trans hchg1 (by intro k hk h; simp [blkOf] at h; omega)
         have Hs1 := hide hs1
         have Hown1 := hide hown1
         clear hown1 hchg1 hat1 hs1)
      | (go_at_call 18
         obtain ⟨_, _, hv1, hle1, hrd1, _⟩ := own_form Hown1.out
         cases hv1
         refine (Split_ok _ _ _ b _ _ hm1 hm2 (by simpa using hrd1) (by have := Hn.out; omega) (by omega)).mono ?_
         rintro e w2 ⟨Ao, co, n, xs, rfl, hown2, hrows2, hs2, hn2⟩
         simp only [Int.toNat_natCast] at hrows2 hn2
         have Hown2 := hide hown2
         have Hrows2 := hide hrows2
         have Hs2 := hide hs2
         have Hn2 := hide hn2
         clear hown2 hrows2 hs2 hn2 hle1 hrd1)
      | (go_at_call 16
         refine (Frames_any w.heap.size _ _ _ b m _ (by omega) ((Hr.out.same Hs1.out).same Hs2.out) (fun h => Sfe.low _ _ _ (Hlow.out h)) Hn.out (by omega) hc).mono ?_
         rintro e w4 ⟨Ar, cr, nr, ys, rfl, hown4, hrows4, hs4, hn4⟩
         have Hown4 := hide hown4
         have Hrows4 := hide hrows4
         have Hs4 := hide hs4
         have Hn4 := hide hn4
         clear hown4 hrows4 hs4 hn4)
      | (go_at_call 12
         refine (Same_any w.heap.size 5 _ _ _ _ _ _ xs ys (all m b).1 (all m b).1 _ ((own_rd Hown2.out).same Hs4.out) ((Hrows2.out.more (Nat.zero_le _)).same Hs4.out) Hn2.out.symm (own_rd Hown4.out) Hrows4.out Hn4.out.symm (by have := all_count m b; have := Hn.out; have := Hn2.out; omega) (by have := all_count m b; have := Hn.out; have := Hn4.out; omega)).mono ?_
         rintro e w5 ⟨rfl, hs5⟩
         have Hs5 := hide hs5
         clear hs5)
      | (go_at_call 14
         refine (lives_any _).mono ?_
         rintro e w3 ⟨rfl, hs3⟩
         have Hs3 := hide hs3
         clear hs3))
  all_goals
    go_ret
    exact ⟨by simp, Same.trans (Same.trans (Same.trans (Same.trans Hs1.out Hs2.out) Hs4.out) Hs5.out) Hs3.out⟩

theorem splits_any (A : Option Addr) (na cb : Nat) (b : List UInt8) (most : Int) (w : World) (hr : Rd w A (bs b)) (hlow : b ≠ [] → ∀ k, blkOf A = some k → k < w.heap.size) (hn : b.length = na) (hna : na ≤ cb) (h63 : na ≤ 9223372036854775807) :
    Calls Try.prog 5 #[.slice A na cb, .int .i64 most] w fun e w' => e = .returned (.bool true) ∧ Same w w' := by
  by_cases hm : most < 1 ∨ 65535 < most
  · by_cases h : na ≤ 600
    · exact splits_bad_small A na cb b most w hr h hna hn hm
    · exact splits_bad_big A na cb (b.take 600) most w (by rw [← bs_take]; exact hr.take _) (by omega) hna h63 (by simp; omega) hm
  · obtain ⟨m, rfl⟩ : ∃ m : Nat, most = (m : Int) := ⟨most.toNat, by omega⟩
    by_cases h : na ≤ 600
    · exact splits_ok_small A na cb b m w hr hlow h hna hn (by omega) (by omega)
    · exact splits_ok_big A na cb (b.take 600) m w (by rw [← bs_take]; exact hr.take _) (fun h => hlow fun e => h (by rw [e]; rfl)) (by omega) hna h63 (by simp; omega) (by omega) (by omega)
end Go.Proofs.Ytdaejdnomlodpaa
