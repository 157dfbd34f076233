/-
  The document's Frames tells what the plain run tells. Conditions: the bytes are read as a list, lengths are below 2^20.
-/
import Derived.Test.YtdaejdnomlodpaaFrA
namespace Go.Proofs.Ytdaejdnomlodpaa
open Go.RowKit Go.Al Go.Al.Fr
set_option linter.unusedVariables false

/-- what the document's Frames tells -/
def RefTold (B : Nat) (w : World) (most : Nat) (l : List UInt8) (e : Ending) (w' : World) : Prop :=
  ∃ Ao co n xs, e = .returned (.tuple #[.slice Ao n co, .int .i64 (bytesOf (all most l).1 : Nat), .bool (all most l).2.2]) ∧
      w'.ownsRow w.heap.size 25 1 (.slice Ao n co) n xs ∧ Rows2 B 5 w' xs ((all most l).1.map bs) ∧ Same w w' ∧ n = (all most l).1.length
def RefRel (B : Nat) (w : World) (most : Nat) (l : List UInt8) (k : Nat) (out at_ : Value) (wr : World) : Prop :=
  ∃ (i n : Nat) (done : List (List UInt8)) (xs : List Value) (A : Option Addr) (c : Nat), i ≤ l.length ∧ k = l.length - i ∧ at_ = .int .i64 i ∧ out = .slice A n c ∧ wr.ownsRow w.heap.size 25 1 (.slice A n c) n xs ∧ Rows2 B 5 w xs (done.map bs) ∧ Same w wr ∧
    i = bytesOf done ∧ n = done.length ∧ 2 * n ≤ i ∧ all most l = (done ++ (all most (l.drop i)).1, (all most (l.drop i)).2.1, (all most (l.drop i)).2.2)

theorem need_drop (l : List UInt8) (i : Nat) : need (l.drop i) = (l.getD i 0).toNat * 256 + (l.getD (i + 1) 0).toNat := by
  unfold need
  simp [List.getD_eq_getElem?_getD, List.getElem?_drop]

set_option maxRecDepth 100000 in
set_option maxHeartbeats 1000000 in
theorem Frames_any (B : Nat) (A : Option Addr) (nb cb : Nat) (b : List UInt8) (most : Nat) (w : World) (h2 : most ≤ 65535) (hb : Rd w A (bs b)) (hs : b ≠ [] → Sfe B 5 w A) (hn : b.length = nb) (h : nb ≤ 65536) (hc : nb ≤ cb) :
    Calls Try.prog 16 #[.slice A nb cb, .int .i64 most] w (RefTold B w most b) := by
  have Hb := hide hb
  have Hs := hide hs
  have Hn := hide hn
  clear hb hs hn
  go_enter Try.func16, Try.ntmps16
  go_wp2_with fail
  go_loopg [7, 8] nb (fun k out at_ wr => RefRel B w most b k out at_ wr)
  case atStart =>
    exact ⟨0, 0, [], [], _, 0, Nat.zero_le _, by rw [Hn.out]; rfl, rfl, rfl, own_lit w w.heap.size _ 1 #[] 0 (Nat.le_refl _) (by decide) rfl, Rows2.nil _ _ _, (Chg.refl _ _).alloc _, rfl, rfl, Nat.le_refl _, by simp⟩
  case round =>
    obtain ⟨i, n, done, xs, A0, c0, hi, hk, rfl, rfl, hown, hrows, hsame, hib, hnd, h2n, hall⟩ := hrel
    rw [Hn.out] at hi hk
    have Hk := hide hk
    have Hown := hide hown
    have Hrows := hide hrows
    have Hsame := hide hsame
    have Hall := hide hall
    have Hib := hide hib
    have Hnd := hide hnd
    have hsz := hsame.size
    clear hk hown hrows hsame hall hib hnd
    by_cases hlt : i + 2 ≤ nb
    · have e1 := need_drop b i
      have hx := (b.getD i 0).toNat_lt
      have hy := (b.getD (i + 1) 0).toNat_lt
      have hil : i < b.length := by rw [Hn.out]; omega
      have hil1 : i + 1 < b.length := by rw [Hn.out]; omega
      obtain ⟨bo, off, rfl, hcw⟩ := Hb.out.at_ (i := i) (by simpa using hil)
      have hcw1 : w.cell? ⟨bo, off + (i + 1), none⟩ = some (.int .u8 ((b.getD (i + 1) 0).toNat : Nat)) := by
        obtain ⟨bo', off', e, hcw'⟩ := Hb.out.at_ (i := i + 1) (by simpa using hil1)
        cases e
        rw [hcw']
        simp [bs, List.getD_eq_getElem?_getD, hil1]
      have hcw0 : w.cell? ⟨bo, off + i, none⟩ = some (.int .u8 ((b.getD i 0).toNat : Nat)) := by
        rw [hcw]
        simp [bs, List.getD_eq_getElem?_getD, hil]
      have hbo : bo < w.heap.size := World.block_lt_of_cell? w _ hcw0
      have hc0 : wr.cell? ⟨bo, off + i, none⟩ = _ := (Hsame.out.cell (p := ⟨bo, off + i, none⟩) hbo (fun h => h)).trans hcw0
      have hc1 : wr.cell? ⟨bo, off + (i + 1), none⟩ = _ := (Hsame.out.cell (p := ⟨bo, off + (i + 1), none⟩) hbo (fun h => h)).trans hcw1
      have E1 := hide e1
      clear hcw hcw0 hcw1 e1
      generalize (b.getD i 0).toNat = x at *
      generalize (b.getD (i + 1) 0).toNat = y at *
      have i0 : (0 : Int) ≤ (i : Int) := by omega
      have i1 : (i : Int) < (nb : Int) := by omega
      have i2 : (0 : Int) ≤ (i : Int) + 1 := by omega
      have i3 : (i : Int) + 1 < (nb : Int) := by omega
      have i4 : ((i : Int) + 1).toNat = i + 1 := by omega
      by_cases hbig : most < x * 256 + y
      · go_wp2_with fail
        go_quiet (fail)
        go_wp2_with fail
        go_ret3
        have e : all most (b.drop i) = ([], [], true) := all_long (by simp [Hn.out]; omega) (by rw [E1.out]; exact hbig)
        have h := Hall.out
        rw [e] at h
        exact ⟨A0, c0, n, xs, by rw [h]; simp [← Hib.out], own_chg Hown.out ((Chg.refl (fun _ => False) wr).drewN _) (fun _ _ h => h), by rw [h]; simpa using Hrows.out.same (Hsame.out.drewN _), Hsame.out.drewN _, by rw [h]; simpa using Hnd.out⟩
      · by_cases hwait : nb < i + 2 + (x * 256 + y)
        · go_wp2_with fail
          go_quiet (fail)
          go_wp2_with fail
          go_ret3
          have e : all most (b.drop i) = ([], b.drop i, false) := all_wait (by simp [Hn.out]; omega) (by rw [E1.out]; omega) (by rw [E1.out]; simp [Hn.out]; omega)
          have h := Hall.out
          rw [e] at h
          exact ⟨A0, c0, n, xs, by rw [h]; simp [← Hib.out], own_chg Hown.out ((Chg.refl (fun _ => False) wr).drewN _) (fun _ _ h => h), by rw [h]; simpa using Hrows.out.same (Hsame.out.drewN _), Hsame.out.drewN _, by rw [h]; simpa using Hnd.out⟩
        · obtain ⟨A1, r1, rd1, bk1⟩ := cut_lh slB Hb.out (by simp [Hn.out]) hc .i64 .i64 ((i : Int) + 2) ((i : Int) + 2 + ((x : Int) * 256 + (y : Int))) (i + 2) (i + 2 + (x * 256 + y)) (by omega) (by omega) (by omega) (by omega)
          simp only [Nat.mul_one, Nat.add_sub_cancel_left, bs_drop, bs_take] at rd1 r1
          have Rd1 := hide rd1
          have Bk1 := hide bk1
          clear rd1 bk1
          go_wp2_with fail
          go_quiet (fail)
          go_wp2_with (at_builtin; refine wpList_appS rfl (.tmp 43) (.tmp 52) _ rfl slBB rfl (by exact (Hown.out.alloc _)) rfl rfl (by exact rd_new wr _ _) (one_slice _ _ _) (by omega) (by omega) (by simp; omega) ?_; intro A5 c5 w5 hown5 hchg5 hat5
                       have Hown5 := hide hown5
                       have Hchg5 := hide hchg5
                       clear hown5 hchg5 hat5)
          have hC5 : Chg (fun k => blkOf A0 = some k) wr w5 := by exact ((((Chg.refl _ wr).alloc _).drewN _).trans Hchg5.out fun _ _ h => h)
          have hs5 := Hsame.out.app Hown.out (Nat.le_refl _) hC5
          have hd : (b.drop i).drop (2 + (x * 256 + y)) = b.drop (i + 2 + (x * 256 + y)) := by rw [List.drop_drop]; congr 1; omega
          have ht : (b.drop i).drop 2 = b.drop (i + 2) := by rw [List.drop_drop]
          have hfl : ((b.drop (i + 2)).take (x * 256 + y)).length = x * 256 + y := by simp [Hn.out]; omega
          have hall2 := all_frame (most := most) (l := b.drop i) (by rw [E1.out]; omega) (by rw [E1.out]; simp [Hn.out]; omega)
          rw [E1.out, hd, ht] at hall2
          have hrows5 : Rows2 B 5 w (xs ++ [.slice A1 (x * 256 + y) (cb - (i + 2))]) ((done ++ [(b.drop (i + 2)).take (x * 256 + y)]).map bs) := by
            rw [List.map_append]
            exact Hrows.out.pushN (by simp [hfl]) (by omega) Rd1.out fun _ => (Hs.out (fun e => by have := Hn.out; rw [e] at this; simp at this; omega)).of_blk Bk1.out
          go_roundg (nb - (i + 2 + (x * 256 + y)))
          case measure => have := Hk.out; omega
          case rel =>
            refine ⟨i + 2 + (x * 256 + y), n + 1, _, _, A5, c5, by rw [Hn.out]; omega, by rw [Hn.out], by go_num, rfl, Hown5.out, hrows5, hs5, ?_, ?_, by omega, ?_⟩
            · rw [bytesOf_append, ← Hib.out]
              simp [bytesOf, hfl]
              omega
            · simp [Hnd.out]
            · rw [Hall.out, hall2]
              simp
    · go_wp2_with fail
      go_ret3
      have e : all most (b.drop i) = ([], b.drop i, false) := all_short (by simp [Hn.out]; omega)
      have h := Hall.out
      rw [e] at h
      exact ⟨A0, c0, n, xs, by rw [h]; simp [← Hib.out], Hown.out, by rw [h]; simpa using Hrows.out.same Hsame.out, Hsame.out, by rw [h]; simpa using Hnd.out⟩
end Go.Proofs.Ytdaejdnomlodpaa
