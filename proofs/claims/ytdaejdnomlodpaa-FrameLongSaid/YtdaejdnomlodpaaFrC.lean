/-
  Feed, Waits, Broken, Reset, Split: out of feed's contract. Conditions: the stream's cells are known, lengths are below 2^20.
-/
import Derived.Test.YtdaejdnomlodpaaFrB
namespace Go.Proofs.Ytdaejdnomlodpaa
open Go.RowKit Go.Al Go.Al.Fr
set_option linter.unusedVariables false

set_option maxHeartbeats 400000 in
theorem Feed_nil (Ab : Option Addr) (nb cb : Nat) (w : World) :
    Calls Try.prog 11 #[.pointer none, .slice Ab nb cb] w fun e w' => e = .returned (.tuple #[.slice none 0 0, .int .i64 1]) ∧ w = w' := by
  go_enter Try.func11, Try.ntmps11
  go_wp2_with fail
  go_ret2
  exact ⟨rfl, rfl⟩
set_option maxHeartbeats 400000 in
theorem Feed_long (g : Nat) (Ab : Option Addr) (nb cb : Nat) (w : World) (h : 65536 < nb) (hn : nb ≤ 1048576) :
    Calls Try.prog 11 #[.pointer (some ⟨g, 0, none⟩), .slice Ab nb cb] w fun e w' => e = .returned (.tuple #[.slice none 0 0, .int .i64 1]) ∧ w = w' := by
  go_enter Try.func11, Try.ntmps11
  go_wp2_with fail
  go_ret2
  exact ⟨rfl, rfl⟩
set_option maxHeartbeats 400000 in
theorem Feed_broken (g most c : Nat) (l : List UInt8) (A : Option Addr) (Ab : Option Addr) (nb cb : Nat) (w : World) (hs : Stm w g most true l A c) (h : nb ≤ 65536) :
    Calls Try.prog 11 #[.pointer (some ⟨g, 0, none⟩), .slice Ab nb cb] w fun e w' => e = .returned (.tuple #[.slice none 0 0, .int .i64 10]) ∧ w = w' := by
  have hk := hs.1.cell
  clear hs
  go_enter Try.func11, Try.ntmps11
  go_wp2_with fail
  go_ret2
  exact ⟨rfl, rfl⟩

/-- what Feed tells of a stream that is not broken -/
def FeedTold (w : World) (g most : Nat) (l : List UInt8) (e : Ending) (w' : World) : Prop :=
  ∃ Ao co n xs l' br A' c', e = .returned (.tuple #[.slice Ao n co, .int .i64 (errOf br)]) ∧
      w'.ownsRow w.heap.size 25 1 (.slice Ao n co) n xs ∧ Rows2 0 5 w' xs ((all most l).1.map bs) ∧ Stm w' g most br l' A' c' ∧ Chg (· = g) w w' ∧
      n = (all most l).1.length ∧ br = (all most l).2.2 ∧ l' = (all most l).2.1 ∧ Fresh5 w.heap.size xs ∧ ∀ b, blkOf A' = some b → w.heap.size ≤ b

set_option maxHeartbeats 400000 in
theorem Feed_ok (g most c cb nb : Nat) (l b : List UInt8) (A Ab : Option Addr) (w : World) (hs : Stm w g most false l A c) (hb : Rd w Ab (bs b)) (hn : b.length = nb) (hm : l.length + nb ≤ 1048576) (h : nb ≤ 65536) :
    Calls Try.prog 11 #[.pointer (some ⟨g, 0, none⟩), .slice Ab nb cb] w (FeedTold w g most (l ++ b)) := by
  have hk := hs.1.cell
  have H := hide (feed_any g most c cb nb l b A Ab w hs hb hn hm)
  clear hs hb hn
  go_enter Try.func11, Try.ntmps11
  go_wp2_with (go_at_call 19; refine Calls.mono H.out ?_; rintro e w1 ⟨Ao, co, n, xs, l', br, A', c', rfl, h1, h2, h3, h4, h5, h6, h7⟩
               have H1 := hide h1
               have H2 := hide h2
               have H3 := hide h3
               have H4 := hide h4
               have H5 := hide h5
               have H6 := hide h6
               have H7 := hide h7
               clear h1 h2 h3 h4 h5 h6 h7)
  go_ret2
  exact ⟨Ao, co, n, xs, l', br, A', c', rfl, H1.out, H2.out, H3.out, H4.out, H5.out, H6.out, H7.out⟩

set_option maxHeartbeats 400000 in
theorem Waits_nil (w : World) :
    Calls Try.prog 13 #[.pointer none] w fun e w' => e = .returned (.int .i64 0) ∧ w = w' := by
  go_enter Try.func13, Try.ntmps13
  go_wp2_with fail
  go_ret
  exact ⟨rfl, rfl⟩
set_option maxHeartbeats 400000 in
theorem Waits_ok (g most c : Nat) (br : Bool) (l : List UInt8) (A : Option Addr) (w : World) (hs : Stm w g most br l A c) :
    Calls Try.prog 13 #[.pointer (some ⟨g, 0, none⟩)] w fun e w' => e = .returned (.int .i64 (l.length : Nat)) ∧ w = w' := by
  have hk := hs.1.cell
  clear hs
  go_enter Try.func13, Try.ntmps13
  go_wp2_with fail
  go_ret
  exact ⟨rfl, rfl⟩
set_option maxHeartbeats 400000 in
theorem Broken_nil (w : World) :
    Calls Try.prog 15 #[.pointer none] w fun e w' => e = .returned (.bool false) ∧ w = w' := by
  go_enter Try.func15, Try.ntmps15
  go_wp2_with fail
  go_ret
  exact ⟨rfl, rfl⟩
set_option maxHeartbeats 400000 in
theorem Broken_ok (g most c : Nat) (br : Bool) (l : List UInt8) (A : Option Addr) (w : World) (hs : Stm w g most br l A c) :
    Calls Try.prog 15 #[.pointer (some ⟨g, 0, none⟩)] w fun e w' => e = .returned (.bool br) ∧ w = w' := by
  have hk := hs.1.cell
  clear hs
  go_enter Try.func15, Try.ntmps15
  go_wp2_with fail
  go_ret
  exact ⟨rfl, rfl⟩
set_option maxHeartbeats 400000 in
theorem Reset_nil (w : World) :
    Calls Try.prog 17 #[.pointer none] w fun e w' => e = .returned (.tuple #[]) ∧ w = w' := by
  go_enter Try.func17, Try.ntmps17
  go_wp2_with fail
  go_end0
  exact ⟨rfl, rfl⟩
set_option maxHeartbeats 400000 in
theorem Reset_ok (g most c : Nat) (br : Bool) (l : List UInt8) (A : Option Addr) (w : World) (hs : Stm w g most br l A c) :
    Calls Try.prog 17 #[.pointer (some ⟨g, 0, none⟩)] w fun e w' => e = .returned (.tuple #[]) ∧ Stm w' g most false [] none 0 ∧ Chg (· = g) w w' := by
  have hk := hs.1.cell
  have hf := hs.1.frozen
  have Hb := hide hs.1
  clear hs
  go_enter Try.func17, Try.ntmps17
  go_wp2_with fail
  go_end0
  exact ⟨rfl, ⟨(Hb.out.set_ 0 _).set_ 2 _, Nat.le_refl _, Rd.nil _ _, TyA.none_ _ _⟩, ((Chg.refl (· = g) w).set1 _ _).set1 _ _⟩

/-- what Split tells -/
def SplitTold (w : World) (most : Nat) (l : List UInt8) (e : Ending) (w' : World) : Prop :=
  ∃ Ao co n xs, e = .returned (.tuple #[.slice Ao n co, .int .i64 (bytesOf (all most l).1 : Nat), .int .i64 (errOf (all most l).2.2)]) ∧
      w'.ownsRow w.heap.size 25 1 (.slice Ao n co) n xs ∧ Rows2 0 5 w' xs ((all most l).1.map bs) ∧ Same w w' ∧ n = (all most l).1.length
set_option maxHeartbeats 400000 in
theorem Split_bad (Ab : Option Addr) (nb cb : Nat) (most : Int) (w : World) (h : most < 1 ∨ 65535 < most) :
    Calls Try.prog 18 #[.slice Ab nb cb, .int .i64 most] w fun e w' => e = .returned (.tuple #[.slice none 0 0, .int .i64 0, .int .i64 1]) ∧ w = w' := by
  have H := hide (new_bad most w h)
  clear h
  go_enter Try.func18, Try.ntmps18
  go_wp2_with (go_at_call 10; refine Calls.mono H.out ?_; rintro e w1 ⟨rfl, rfl⟩)
  go_ret3
  exact ⟨rfl, rfl⟩
set_option maxHeartbeats 1000000 in
theorem Split_ok (Ab : Option Addr) (nb cb : Nat) (b : List UInt8) (most : Int) (w : World) (h1 : 1 ≤ most) (h2 : most ≤ 65535) (hb : Rd w Ab (bs b)) (hn : b.length = nb) (h : nb ≤ 65536) :
    Calls Try.prog 18 #[.slice Ab nb cb, .int .i64 most] w (SplitTold w most.toNat b) := by
  have H := hide (new_ok most w h1 h2)
  have Hb := hide hb
  have Hn := hide hn
  have Hm := hide (And.intro h1 h2)
  clear hb hn h1 h2
  go_enter Try.func18, Try.ntmps18
  go_wp2_with (first
    | (go_at_call 10; refine Calls.mono H.out ?_; rintro e w1 ⟨rfl, h1, h2⟩
       have H1 := hide h1
       have H2 := hide h2
       clear h1 h2)
    | (go_at_call 19; refine (feed_any _ most.toNat 0 cb nb [] b none Ab _ H1.out (Hb.out.same H2.out) Hn.out (by simp; omega)).mono ?_; rintro e w2 ⟨Ao, co, n, xs, l', br, A', c', rfl, k1, k2, k3, k4, k5, k6, k7, _⟩
       have K1 := hide k1
       have K2 := hide k2
       have K4 := hide k4
       have K5 := hide k5
       have K6 := hide k6
       clear k1 k2 k3 k4 k5 k6 k7))
  obtain ⟨fs, hfs⟩ : ∃ fs, fs = (all most.toNat b).1 := ⟨_, rfl⟩
  have k2 : Rows2 0 5 w2 xs (fs.map bs) := by rw [hfs]; simpa using K2.out
  have hn' : n = fs.length := by rw [hfs]; simpa using K5.out
  have hB : bytesOf fs ≤ 65536 := by rw [hfs]; have := all_bytes_le most.toNat b; have := Hn.out; omega
  have hsz : n ≤ 65536 := by
    have := all_count most.toNat b
    have := Hn.out
    rw [← hfs] at *
    omega
  have hlen : xs.length = n := by have := K1.out.1; simpa using this
  have Hrow := hide (own_rd K1.out)
  have Hk2 := hide k2
  have Hn' := hide hn'
  have Hlen := hide hlen
  have Hfs := hide hfs
  have HB := hide hB
  have Hsm := hide ((H2.out.to.trans K4.out fun _ _ h => h).fresh fun k hk => by have hk' : k = _ := hk; rw [hk']; exact Nat.le_refl _)
  have k6 : br = (all most.toNat b).2.2 := by simpa using K6.out
  have Hk6 := hide k6
  have Hown := hide (own_mono (base' := w.heap.size) K1.out fun b hb => Nat.le_trans H2.out.size (K1.out.lt b hb).1)
  clear k6 K6
  clear k2 hn' hlen hfs hB K2 K5
  go_loopg [10, 33] n (fun k vn vi wr => ∃ i : Nat, i ≤ n ∧ k = n - i ∧ vi = .int .i64 i ∧ vn = .int .i64 (bytesOf (fs.take i) : Nat) ∧ wr = w2)
  case atStart => exact ⟨0, Nat.zero_le _, rfl, rfl, rfl, rfl⟩
  case round =>
    obtain ⟨i, hi, hk, rfl, rfl, rfl⟩ := hrel
    have Hk := hide hk
    clear hk
    have hbi := bytesOf_take_le fs i
    have hB := HB.out
    by_cases hlt : i < n
    · obtain ⟨Ai, ci, li, hx, hl, hc, _⟩ := Hk2.out.at_ (i := i) (by rw [Hlen.out]; exact hlt)
      obtain ⟨bo, off, rfl, hcell⟩ := Hrow.out.at_ (i := i) (by rw [Hlen.out]; exact hlt)
      rw [List.getElem?_eq_getElem (by rw [Hlen.out]; exact hlt)] at hx
      rw [Option.some.inj hx] at hcell
      rw [List.getElem?_map] at hl
      have hfi : fs[i]? = some (fs.getD i []) := by rw [List.getD_eq_getElem?_getD]; cases h : fs[i]? with
        | none => rw [h] at hl; cases hl
        | some f => rfl
      rw [hfi] at hl
      have hl' : li = bs (fs.getD i []) := (Option.some.inj hl).symm
      subst hl'
      rw [bs_length] at hcell
      have hsn := bytesOf_snoc fs i _ hfi
      have hbi1 := bytesOf_take_le fs (i + 1)
      generalize (fs.getD i []).length = m at *
      have Hsn := hide hsn
      have hm : m ≤ 65536 := by omega
      have hb65 : bytesOf (fs.take i) ≤ 65536 := by omega
      clear hx hl hc hfi hsn
      go_wp2_with fail
      go_roundg (n - (i + 1))
      case measure => have := Hk.out; omega
      case rel => exact ⟨i + 1, by omega, rfl, by go_num, by rw [Hsn.out]; go_num, rfl⟩
    · go_wp2_with fail
      go_ret3
      have e : fs.take i = fs := List.take_of_length_le (by have := Hn'.out; omega)
      rw [e]
      exact ⟨Ao, co, n, xs, by rw [← Hfs.out, ← Hk6.out]; rfl, Hown.out, by rw [← Hfs.out]; exact Hk2.out, Hsm.out, by rw [← Hfs.out]; exact Hn'.out⟩
end Go.Proofs.Ytdaejdnomlodpaa
