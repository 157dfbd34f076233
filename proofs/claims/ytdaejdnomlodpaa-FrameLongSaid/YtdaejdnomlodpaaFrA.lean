/-
  The stream's leaf functions: what size, bytes.Clone and next do, said of cells. Conditions: the stream's cells are known, lengths are below 2^20.
-/
import Derived.Test.YtdaejdnomlodpaaProg
import Derived.Test.YtdaejdnomlodpaaLib
import Derived.Test.YtdaejdnomlodpaaFrP
namespace Go.Proofs.Ytdaejdnomlodpaa
open Go.RowKit Go.Al Go.Al.Fr
set_option linter.unusedVariables false

theorem slB : SlTy Try.prog 25 5 1 1 := .of (z := .int .u8 0) Try.underlying25 (by kernel_rfl) rfl (by decide)
theorem slBB : SlTy Try.prog 22 25 1 24 := .of (z := .slice none 0 0) Try.underlying22 (by kernel_rfl) rfl (by decide)

/-- a stream: the bytes that wait, how long a frame may be, whether one was too long -/
def Stm (w : World) (g : Nat) (most : Nat) (br : Bool) (l : List UInt8) (A : Option Addr) (c : Nat) : Prop :=
  Blk w g 48 #[.slice A l.length c, .int .i64 most, .bool br] ∧ l.length ≤ c ∧ Rd w A (bs l) ∧ TyA w 5 A

theorem or_nat (a b : Nat) (ha : a < 256) (hb : b < 256) : bits .or .i64 ((a : Int) * 256) (b : Int) = ((a * 256 + b : Nat) : Int) := by
  have e : a * 256 ||| b = a * 256 + b := by
    have := Nat.shiftLeft_add_eq_or_of_lt (b := b) (i := 8) (by omega) a
    rw [Nat.shiftLeft_eq] at this
    exact this.symm
  have h1 : (a : Int) * 256 = ((a * 256 : Nat) : Int) := by omega
  rw [h1]
  have ofi : ∀ n : Nat, n < 9223372036854775808 → (BitVec.ofInt 64 (n : Int)).toNat = n := fun n hn => by
    rw [BitVec.ofInt_natCast, BitVec.toNat_ofNat]; exact Nat.mod_eq_of_lt (by omega)
  show IntKind.i64.wrap ((BitVec.ofInt 64 ((a * 256 : Nat) : Int) ||| BitVec.ofInt 64 (b : Int)).toNat : Int) = _
  rw [BitVec.toNat_or, ofi _ (by omega), ofi _ (by omega), e, IntKind.wrap_i64]
  omega

set_option maxHeartbeats 400000 in
theorem size_short (g n c : Nat) (A : Option Addr) (w : World) (hn : n < 2) (hc : w.cell? ⟨g, 0, none⟩ = some (.slice A n c)) :
    Calls Try.prog 22 #[.pointer (some ⟨g, 0, none⟩)] w fun e w' => e = .returned (.tuple #[.int .i64 0, .bool false]) ∧ w = w' := by
  go_enter Try.func22, Try.ntmps22
  go_wp2
  go_ret2
  exact ⟨rfl, rfl⟩

set_option maxHeartbeats 400000 in
theorem size_long (g n c : Nat) (b off : Nat) (w : World) (x y : Nat) (hx : x < 256) (hy : y < 256) (hn : 2 ≤ n) (hm : n ≤ 1048576)
    (hc : w.cell? ⟨g, 0, none⟩ = some (.slice (some ⟨b, off, none⟩) n c)) (h0 : w.cell? ⟨b, off, none⟩ = some (.int .u8 x)) (h1 : w.cell? ⟨b, off + 1, none⟩ = some (.int .u8 y)) :
    Calls Try.prog 22 #[.pointer (some ⟨g, 0, none⟩)] w fun e w' => e = .returned (.tuple #[.int .i64 (x * 256 + y : Nat), .bool true]) ∧ ∃ k, w.drewN k = w' := by
  have hb : (0 : Int) < (n : Int) := by omega
  have hb1 : (1 : Int) < (n : Int) := by omega
  go_enter Try.func22, Try.ntmps22
  go_wp2
  go_quiet (fail)
  go_wp2
  go_ret2
  exact ⟨by simp [or_nat x y hx hy], _, rfl⟩

set_option maxHeartbeats 400000 in
theorem clone_nil (c : Nat) (w : World) :
    Calls Try.prog 20 #[.slice none 0 c] w fun e w' => e = .returned (.slice none 0 0) ∧ w = w' := by
  have he := fun (w : World) n c => Lib.run_eql_slice_nil (P := Try.prog) w 25 5 none n c 0 0 Try.underlying25
  go_enter Try.func20, Try.ntmps20
  go_wp2
  go_ret
  exact ⟨rfl, rfl⟩

set_option maxHeartbeats 400000 in
theorem clone_some (a : Addr) (c : Nat) (l : List UInt8) (w : World) (hl : l.length ≤ 1048576) (hr : Rd w (some a) (bs l)) :
    Calls Try.prog 20 #[.slice (some a) l.length c] w fun e w' => ∃ v, e = .returned v ∧ w'.ownsRow w.heap.size 5 1 v l.length (bs l) ∧ Same w w' := by
  have he := fun (w : World) n c => Lib.run_eql_slice_nil (P := Try.prog) w 25 5 (some a) n c 0 0 Try.underlying25
  go_enter Try.func20, Try.ntmps20
  go_wp2_with (at_builtin; refine wpList_app (v := .slice (some ⟨w.heap.size, 0, none⟩) 0 0) _ rfl (.tmp 5) (.tmp 6) _ rfl slB (base := w.heap.size) rfl (own_lit w w.heap.size _ 1 #[] 0 (Nat.le_refl _) (by decide) rfl) rfl (by simp) (hr.alloc _) (one_bs l) (by omega) (by omega) (by simp) ?_; intro v w1 hown hchg hat)
  go_ret
  exact ⟨v, rfl, by simpa using hown, ((Chg.refl _ w).alloc _).trans hchg (by intro k hk h; simp [Value.ownBlock] at h; omega)⟩

theorem clone_any (A : Option Addr) (c : Nat) (l : List UInt8) (w : World) (n : Nat) (hl : l.length = n) (hn : n ≤ 1048576) (hr : Rd w A (bs l)) :
    Calls Try.prog 20 #[.slice A n c] w fun e w' => ∃ A' c', e = .returned (.slice A' n c') ∧ w'.ownsRow w.heap.size 5 1 (.slice A' n c') n (bs l) ∧ Same w w' := by
  subst hl
  cases A with
  | some a =>
    refine (clone_some a c l w hn hr).mono fun e w' ⟨v, he, hown, hs⟩ => ?_
    obtain ⟨A', c', hv, _⟩ := own_form hown
    subst he; subst hv
    exact ⟨A', c', rfl, hown, hs⟩
  | none =>
    have hl0 : l = [] := by
      cases l with
      | nil => rfl
      | cons x r => obtain ⟨b, off, e, _⟩ := hr (by simp [bs]); cases e
    subst hl0
    exact (clone_nil c w).mono fun e w' ⟨he, hw⟩ => by
      subst he; subst hw
      exact ⟨none, 0, rfl, World.ownsRow_nil _ _ _ _, Chg.refl _ _⟩

/-- a stream's cells, opened -/
theorem Stm.two {w : World} {g most c : Nat} {br : Bool} {l : List UInt8} {A : Option Addr} (h : Stm w g most br l A c) (hl : 2 ≤ l.length) :
    ∃ b off, A = some ⟨b, off, none⟩ ∧ w.cell? ⟨b, off, none⟩ = some (.int .u8 ((l.getD 0 0).toNat : Nat)) ∧ w.cell? ⟨b, off + 1, none⟩ = some (.int .u8 ((l.getD 1 0).toNat : Nat)) := by
  obtain ⟨_, _, hr, _⟩ := h
  match l, hl with
  | x :: y :: r, _ =>
    obtain ⟨b, off, rfl, hc⟩ := hr (by simp [bs])
    exact ⟨b, off, rfl, hc 0 _ rfl, hc 1 _ rfl⟩
theorem Stm.drewN {w : World} {g most c : Nat} {br : Bool} {l : List UInt8} {A : Option Addr} (h : Stm w g most br l A c) (n : Nat) : Stm (w.drewN n) g most br l A c := h

set_option maxHeartbeats 400000 in
theorem next_short (g most c : Nat) (br : Bool) (l : List UInt8) (A : Option Addr) (w : World) (hs : Stm w g most br l A c) (hl : l.length < 2) :
    Calls Try.prog 21 #[.pointer (some ⟨g, 0, none⟩)] w fun e w' => e = .returned (.tuple #[.slice none 0 0, .bool false]) ∧ w = w' := by
  have hc := hs.1.cell 0
  clear hs
  go_enter Try.func21, Try.ntmps21
  go_wp2_with (go_at_call 22; refine (size_short g _ c A _ hl hc).mono ?_; rintro e w' ⟨rfl, rfl⟩)
  go_ret2
  exact ⟨rfl, rfl⟩

set_option maxHeartbeats 400000 in
theorem next_long (g most c : Nat) (br : Bool) (l : List UInt8) (A : Option Addr) (w : World) (hs : Stm w g most br l A c) (h2 : 2 ≤ l.length) (hm : l.length ≤ 1048576) (hl : most < need l) :
    Calls Try.prog 21 #[.pointer (some ⟨g, 0, none⟩)] w fun e w' => e = .returned (.tuple #[.slice none 0 0, .bool false]) ∧ Stm w' g most true [] none 0 ∧ Chg (· = g) w w' := by
  obtain ⟨b, off, rfl, h0, h1⟩ := hs.two h2
  have hb := hide hs.1
  have hc := hs.1.cell 0
  have hc1 := hs.1.cell 1
  have hc2 := hs.1.cell 2
  have hf := hs.1.frozen
  have hn : (most : Int) < (need l : Int) := by omega
  have hnl := need_lt l
  clear hs hl
  have hsz := size_long g l.length c b off w _ _ (l.getD 0 0).toNat_lt (l.getD 1 0).toNat_lt h2 hm hc h0 h1
  change Calls Try.prog _ _ _ (fun e w' => e = .returned (.tuple #[.int .i64 (need l : Nat), .bool true]) ∧ ∃ k, w.drewN k = w') at hsz
  have Hsz := hide hsz
  clear hsz h0 h1
  generalize need l = nd at *
  go_enter Try.func21, Try.ntmps21
  go_wp2_with (go_at_call 22; refine Calls.mono Hsz.out ?_; rintro e w' ⟨rfl, k, rfl⟩)
  go_ret2
  exact ⟨rfl, ⟨((hb.out.drewN k).set_ 0 _).set_ 2 _, Nat.le_refl _, Rd.nil _ _, TyA.none_ _ _⟩, (((Chg.refl (· = g) w).drewN k).setCell (.inl rfl) _).setCell (.inl rfl) _⟩

set_option maxHeartbeats 400000 in
theorem next_wait (g most c : Nat) (br : Bool) (l : List UInt8) (A : Option Addr) (w : World) (hs : Stm w g most br l A c) (h2 : 2 ≤ l.length) (hm : l.length ≤ 1048576) (hl : need l ≤ most) (hw : l.length < 2 + need l) :
    Calls Try.prog 21 #[.pointer (some ⟨g, 0, none⟩)] w fun e w' => e = .returned (.tuple #[.slice none 0 0, .bool false]) ∧ ∃ k, w.drewN k = w' := by
  obtain ⟨b, off, rfl, h0, h1⟩ := hs.two h2
  have hc := hs.1.cell 0
  have hc1 := hs.1.cell 1
  have hn : (need l : Int) ≤ (most : Int) := by omega
  have hnl := need_lt l
  have hsz := size_long g l.length c b off w _ _ (l.getD 0 0).toNat_lt (l.getD 1 0).toNat_lt h2 hm hc h0 h1
  change Calls Try.prog _ _ _ (fun e w' => e = .returned (.tuple #[.int .i64 (need l : Nat), .bool true]) ∧ ∃ k, w.drewN k = w') at hsz
  have Hsz := hide hsz
  clear hs hl hsz h0 h1
  generalize need l = nd at *
  go_enter Try.func21, Try.ntmps21
  go_wp2_with (go_at_call 22; refine Calls.mono Hsz.out ?_; rintro e w' ⟨rfl, k, rfl⟩)
  go_ret2
  exact ⟨rfl, _, rfl⟩

set_option maxHeartbeats 400000 in
theorem next_frame (g most c : Nat) (br : Bool) (l : List UInt8) (A : Option Addr) (w : World) (hs : Stm w g most br l A c) (h2 : 2 ≤ l.length) (hm : l.length ≤ 1048576) (hl : need l ≤ most) (hw : 2 + need l ≤ l.length) :
    Calls Try.prog 21 #[.pointer (some ⟨g, 0, none⟩)] w fun e w' => ∃ v A' c', e = .returned (.tuple #[v, .bool true]) ∧
      w'.ownsRow w.heap.size 5 1 v (need l) (bs ((l.drop 2).take (need l))) ∧ Stm w' g most br (l.drop (2 + need l)) A' c' ∧ Chg (· = g) w w' ∧ blkOf A' = blkOf A := by
  obtain ⟨b, off, rfl, h0, h1⟩ := hs.two h2
  have hb := hide hs.1
  have hty := hide hs.2.2.2
  have hcap := hs.2.1
  have hc := hs.1.cell 0
  have hc1 := hs.1.cell 1
  have hf := hs.1.frozen
  have hlt := hs.1.lt
  have hn : (need l : Int) ≤ (most : Int) := by omega
  have hnl := need_lt l
  have hsz := size_long g l.length c b off w _ _ (l.getD 0 0).toNat_lt (l.getD 1 0).toNat_lt h2 hm hc h0 h1
  change Calls Try.prog _ _ _ (fun e w' => e = .returned (.tuple #[.int .i64 (need l : Nat), .bool true]) ∧ ∃ k, w.drewN k = w') at hsz
  have Hsz := hide hsz
  obtain ⟨A1, r1, rd1, bk1⟩ := cut_lh slB hs.2.2.1 (by simp) hcap .i64 .i64 2 (2 + (need l : Int)) 2 (2 + need l) rfl (by omega) (by omega) hw
  obtain ⟨A2, r2, rd2, bk2⟩ := cut_lo slB hs.2.2.1 (by simp) hcap .i64 (2 + (need l : Int)) (2 + need l) (by omega) hw
  simp only [Nat.mul_one, Nat.add_sub_cancel_left, bs_drop, bs_take] at rd1 rd2 r1
  have Hr1 := hide rd1
  have Hr2 := hide rd2
  have Hb2 := hide bk2
  clear hs hl hsz h0 h1 rd1 rd2 bk1 bk2
  generalize need l = nd at *
  go_enter Try.func21, Try.ntmps21
  go_wp2_with (first
  | (go_at_call 22; refine Calls.mono Hsz.out ?_; rintro e w' ⟨rfl, k, rfl⟩)
  | (go_at_call 20; refine (clone_any _ _ ((l.drop 2).take nd) _ nd (by simp; omega) (by omega) (Hr1.out.drewN k)).mono ?_; rintro e w2 ⟨Av, cv, rfl, hown, hsame⟩
     have Hown := hide hown
     have Hsame := hide hsame
     clear hown
     have hc' : w2.cell? ⟨g, 0, none⟩ = _ := (hsame.cell (p := ⟨g, 0, none⟩) hlt (fun hf => hf)).trans hc
     have hf' : ∀ i, w2.frozen? ⟨g, i, none⟩ = _ := fun i => (hsame.frozen (p := ⟨g, i, none⟩) hlt (fun hf => hf)).trans (hf i)
     clear hsame))
  go_ret2
  have hty1 : TyA w 5 A2 := hty.out.of_blk Hb2.out
  have hne : blkOf A2 ≠ some g := hty1.ne hb.out.ty (by decide)
  have hS : Chg (· = g) w w2 := (Same.trans (Same.of_drewN w k) Hsame.out).to
  have hC : Chg (· = g) w2 (w2.setCell ⟨g, 0, none⟩ (.slice A2 (l.length - (2 + nd)) (c - (2 + nd)))) := (Chg.refl (· = g) w2).setCell (.inl rfl) _
  refine ⟨.slice Av nd cv, A2, c - (2 + nd), rfl, ?_, ⟨?_, ?_, ?_, ?_⟩, hS.trans hC fun _ _ h => h, Hb2.out⟩
  · refine own_chg Hown.out hC fun b hb h => ?_
    have := (Hown.out.lt b hb).1
    have h' : b = g := h
    simp at this
    omega
  · have := ((hb.out.drewN k).same Hsame.out).set_ 0 (.slice A2 (l.length - (2 + nd)) (c - (2 + nd)))
    simpa using this
  · simp; omega
  · exact ((Hr2.out.drewN k).same Hsame.out).setCell hne _
  · exact (hty1.chg hS).chg hC
end Go.Proofs.Ytdaejdnomlodpaa
