/-
  The law FrameLong, walked: it answers true for every length. Conditions: the two numbers fit their kinds.
-/
import Derived.Test.YtdaejdnomlodpaaFrI
namespace Go.Proofs.Ytdaejdnomlodpaa
open Go.RowKit Go.Al Go.Al.Fr
set_option linter.unusedVariables false

/-- bytes that are zero -/
def zs (n : Nat) : List UInt8 := List.replicate n 0
theorem zs_length (n : Nat) : (zs n).length = n := by simp [zs]
def zobj (n : Nat) : Obj := .cells (madeCells #[.int .u8 0] n) 5
theorem zrd (w : World) (n : Nat) : Rd (w.alloc (zobj n)) (some ⟨w.heap.size, 0, none⟩) (bs (zs n)) :=
  rd_lit w (madeCells #[.int .u8 0] n) 5 (0, 0) _ (by rw [toList_madeCells_one]; simp [bs, zs])
theorem zty (w : World) (n : Nat) : TyA (w.alloc (zobj n)) 5 (some ⟨w.heap.size, 0, none⟩) := tyA_lit w _ _ _
theorem zmake (n : Nat) (v : Int) (hv : v = (n : Int)) (hn : n ≤ 70000) : ∀ w : World, (Instr.makeSlice 25 (.int .i64 v) (.int .i64 v)).run Try.prog w = .ok (.slice (some ⟨w.heap.size, 0, none⟩) n n) (w.alloc (zobj n)) := by
  intro w
  subst hv
  obtain ⟨_, ⟨i, z, hi, hz, hsz, hby, hzs⟩, _⟩ := slB
  have h0 : (Try.prog.info? 5).map (·.zero) = some (some (.int .u8 0)) := by kernel_rfl
  rw [hi] at h0
  have hz' : i.zero = some (.int .u8 0) := by simpa using h0
  have h := run_make (P := Try.prog) w 25 5 i (.int .u8 0) Try.underlying25 hi hz' .i64 .i64 (n : Int) (n : Int) (by omega) (by omega) (by rw [hby]; omega) (by omega)
  rw [h]
  simp [hsz, Value.cells, zobj]

theorem Wrap_none {w : World} {e : Ending} {w' : World} (h : WrapTold w none e w') : ∃ A c, e = .returned (.tuple #[.slice A 0 c, .int .i64 11]) ∧ Same w w' := by
  obtain ⟨hs, ⟨b', A, c, h1, _⟩ | ⟨A, c, _, h2⟩⟩ := h
  · cases h1
  · exact ⟨A, c, h2, hs⟩
theorem Wrap_some' {w : World} {b : List UInt8} {e : Ending} {w' : World} (h : WrapTold w (some b) e w') : ∃ A c, e = .returned (.tuple #[.slice A b.length c, .int .i64 0]) ∧ Same w w' := by
  obtain ⟨hs, ⟨b', A, c, h1, h2, _⟩ | ⟨A, c, h1, _⟩⟩ := h
  · cases h1
    exact ⟨A, c, h2, hs⟩
  · cases h1

def LongRel (w : World) (n j : Nat) (k : Nat) (vl vi : Value) (wr : World) : Prop :=
  ∃ (i : Nat) (A : Option Addr) (c : Nat) (xs : List Value), i ≤ j ∧ k = j - i ∧ vi = .int .i64 i ∧ vl = .slice A (i + 1) c ∧ wr.ownsRow w.heap.size 25 1 (.slice A (i + 1) c) (i + 1) xs ∧
    Rows2 0 5 wr xs ((zs n :: List.replicate i (zs 30000)).map bs) ∧ Same w wr

set_option maxRecDepth 100000 in
set_option maxHeartbeats 4000000 in
theorem long_any (n k : Int) (w : World) (hn0 : 0 ≤ n) (hn1 : n ≤ 65535) (hk0 : 0 ≤ k) (hk1 : k ≤ 255) :
    Calls Try.prog 6 #[.int .u16 n, .int .u8 k] w fun e w' => e = .returned (.bool true) ∧ Same w w' := by
  obtain ⟨n, rfl⟩ : ∃ m : Nat, n = (m : Int) := ⟨n.toNat, by omega⟩
  obtain ⟨j, hj⟩ : ∃ j : Nat, k % 3 = (j : Int) := ⟨(k % 3).toNat, by omega⟩
  have hj3 : j ≤ 2 := by omega
  have m1 := zmake n (n : Int) rfl (by omega)
  have m2 := zmake 30000 30000 rfl (by omega)
  have m3 := zmake 65536 65536 rfl (by omega)
  have m4 := zmake 65537 65537 rfl (by omega)
  go_enter Try.func6, Try.ntmps6
  go_wp2_with fail
  go_loopg [5, 6] j (fun k vl vi wr => LongRel w n j k vl vi wr)
  case atStart =>
    refine ⟨0, _, _, _, Nat.zero_le _, rfl, rfl, rfl, by have := own_lit (w.alloc (zobj n)) w.heap.size 25 1 #[.slice (some ⟨w.heap.size, 0, none⟩) n n] 1 (by simp) (by decide) rfl; simpa using this, ?_, ((Chg.refl _ _).alloc _).alloc _⟩
    have h := (Rows2.nil 0 5 ((w.alloc (zobj n)).alloc (.cells #[.slice (some ⟨w.heap.size, 0, none⟩) n n] 25))).push (c := n) (n := n) (l := bs (zs n)) (by rw [bs_length, zs_length]) (Nat.le_refl _) ((zrd w n).alloc _) (Sfe.of_ty ((zty w n).chg ((Chg.refl (fun _ => False) _).alloc _)) 0)
    simpa using h
  case round =>
    obtain ⟨i, A, c, xs, hi, hk, rfl, rfl, hown, hrows, hsame⟩ := hrel
    have Hk := hide hk
    have Hown := hide hown
    have Hrows := hide hrows
    have Hsame := hide hsame
    have hszr := hsame.size
    clear hk hown hrows hsame
    by_cases hlt : i < j
    · go_wp2_with (first
        | (at_builtin; refine wpList_appS rfl (.tmp 31) (.tmp 33) _ rfl slBB rfl ((Hown.out.alloc _).alloc _) rfl rfl (by have := rd_new (wr.alloc (zobj 30000)) (.slice (some ⟨wr.heap.size, 0, none⟩) 30000 30000) 25; simpa using this) (one_slice _ _ _) (by omega) (by omega) (by simp; omega) ?_
           intro A5 c5 w5 hown5 hchg5 hat5
           have Hown5 := hide hown5
           have Hchg5 := hide hchg5
           clear hown5 hchg5 hat5))
      go_roundg (j - (i + 1))
      case measure => have := Hk.out; omega
      case rel =>
        have hcz : Chg (fun k => blkOf A = some k) wr w5 := (((Chg.refl _ wr).alloc _).alloc _).trans Hchg5.out fun _ _ h => h
        have hs5 : Same w w5 := Hsame.out.app Hown.out (Nat.le_refl _) hcz
        have hz : Rd w5 (some ⟨wr.heap.size, 0, none⟩) (bs (zs 30000)) := ((zrd wr 30000).alloc _).chg Hchg5.out fun b hb _ h => by
          simp [blkOf] at hb
          have := (Hown.out.lt b (by rw [ownBlock_slice]; exact h)).2
          omega
        have hty : TyA w5 5 (some ⟨wr.heap.size, 0, none⟩) := ((zty wr 30000).chg ((Chg.refl (fun _ => False) _).alloc _)).chg Hchg5.out
        have haw : Away (fun k => blkOf A = some k) 0 5 wr := fun k _ hk => ⟨Nat.zero_le _, by rw [own_ty Hown.out (b := k) (by rw [ownBlock_slice]; exact hk)]; decide⟩
        refine ⟨i + 1, A5, c5, _, by omega, rfl, by go_num, rfl, Hown5.out, ?_, hs5⟩
        have h := (Hrows.out.away hcz haw).push (c := 30000) (n := 30000) (l := bs (zs 30000)) (by rw [bs_length, zs_length]) (Nat.le_refl _) hz (Sfe.of_ty hty 0)
        rw [List.replicate_succ', List.map_cons, List.map_append, ← List.cons_append, ← List.map_cons]
        exact h
    · have hij : i = j := by omega
      subst hij
      obtain ⟨ls, hls⟩ : ∃ ls, ls = zs n :: List.replicate i (zs 30000) := ⟨_, rfl⟩
      have hrows := Hrows.out
      rw [← hls] at hrows
      have hlsn : ls.length = i + 1 := by rw [hls]; simp
      have hlsl : ∀ l ∈ ls, l.length ≤ 1048576 := by
        intro l hl
        rw [hls] at hl
        rcases List.mem_cons.1 hl with h | h
        · rw [h, zs_length]; omega
        · rw [(List.mem_replicate.1 h).2, zs_length]; omega
      have HrowsL := hide hrows
      have Hlsn := hide hlsn
      have Hlsl := hide hlsl
      clear hls hrows hlsn hlsl
      go_wp2_with fail
      have hF := Wrap_any 0 5 A (i + 1) c xs ls wr (own_rd Hown.out) HrowsL.out Hlsn.out (by omega) Hlsl.out
      refine hF.mono ?_
      clear hF
      intro e w1 hW
      have hS1 := hW.1
      have HS1 := hide hS1
      have HW := hide hW.2
      clear hW hS1
      have hbig : wrapFrom [] [zs 65536] = none := by
        rw [wrapFrom, if_pos (by left; rw [zs_length]; omega)]
      have Hbig := hide hbig
      clear hbig
      cases hr : wrapFrom [] ls with
      | some bb =>
        have Hr := hide hr
        obtain ⟨b', A1, c1, h1, rfl, hown1⟩ | ⟨A1, c1, h1, _⟩ := HW.out
        case inr => rw [Hr.out] at h1; cases h1
        rw [Hr.out] at h1
        cases h1
        clear hr hown1
        go_wp2_with (first
          | (go_at_call 9
             have hF := refWrap_any 0 5 A (i + 1) c xs ls w1 ((own_rd Hown.out).same HS1.out) (HrowsL.out.same HS1.out) Hlsn.out (by omega) Hlsl.out
             rw [Hr.out] at hF
             refine hF.mono ?_
             clear hF
             intro e w2 hW
             obtain ⟨A2, c2, rfl, hs2⟩ := Wrap_some' hW
             have HS2 := hide hs2
             clear hW hs2)
          | (go_at_call 8
             have hF := Wrap_any 0 5 (some ⟨w2.heap.size + 1, 0, none⟩) 1 1 [.slice (some ⟨w2.heap.size, 0, none⟩) 65536 65536] [zs 65536] ((w2.alloc (zobj 65536)).alloc (.cells #[.slice (some ⟨w2.heap.size, 0, none⟩) 65536 65536] 25)) (by have := rd_new (w2.alloc (zobj 65536)) (.slice (some ⟨w2.heap.size, 0, none⟩) 65536 65536) 25; simpa using this) (rows_one (l := zs 65536) (by rw [zs_length]) (Nat.le_refl _) ((zrd w2 65536).alloc _) (Sfe.of_ty ((zty w2 65536).chg ((Chg.refl (fun _ => False) _).alloc _)) 0)) rfl (by omega) (by intro l hl; rw [List.mem_singleton] at hl; rw [hl, zs_length]; omega)
             rw [Hbig.out] at hF
             refine hF.mono ?_
             clear hF
             intro e w3 hW
             obtain ⟨A3, c3, rfl, hs3⟩ := Wrap_none hW
             have HS3 := hide hs3
             clear hs3 hW)
          | (go_at_call 10
             with_reducible refine (new_ok 5 _ (by omega) (by omega)).mono ?_
             rintro e w4 ⟨rfl, hst4, hs4⟩
             have HS4 := hide hs4
             clear hst4 hs4)
          | (go_at_call 11
             with_reducible refine (Feed_long _ _ 65537 65537 _ (by omega) (by omega)).mono ?_
             rintro e w' ⟨rfl, rfl⟩)
          | (go_at_call 11
             with_reducible refine (Feed_nil _ _ _ _).mono ?_
             rintro e w' ⟨rfl, rfl⟩)
          | (go_at_call 17
             with_reducible refine (Reset_nil _).mono ?_
             rintro e w' ⟨rfl, rfl⟩)
          | (go_at_call 13
             with_reducible refine (Waits_nil _).mono ?_
             rintro e w' ⟨rfl, rfl⟩)
          | (go_at_call 15
             with_reducible refine (Broken_nil _).mono ?_
             rintro e w' ⟨rfl, rfl⟩)
          | (go_at_call 14
             with_reducible refine (lives_any _).mono ?_
             rintro e wb ⟨rfl, hsb'⟩
             have Hsb := hide hsb'
             clear hsb'))
        go_ret
        exact ⟨by simp, Same.trans (Same.trans (Same.trans (Same.trans (Same.trans (Same.trans Hsame.out HS1.out) HS2.out) (Same.trans (((Chg.refl _ w2).alloc _).alloc _) HS3.out)) HS4.out) (((Chg.refl _ w4).alloc _).alloc _)) Hsb.out⟩
      | none =>
        have Hr := hide hr
        obtain ⟨b', A1, c1, h1, rfl, hown1⟩ | ⟨A1, c1, h1, rfl⟩ := HW.out
        case inl => rw [Hr.out] at h1; cases h1
        clear hr h1
        go_wp2_with (first
          | (go_at_call 9
             have hF := refWrap_any 0 5 A (i + 1) c xs ls w1 ((own_rd Hown.out).same HS1.out) (HrowsL.out.same HS1.out) Hlsn.out (by omega) Hlsl.out
             rw [Hr.out] at hF
             refine hF.mono ?_
             clear hF
             intro e w2 hW
             obtain ⟨A2, c2, rfl, hs2⟩ := Wrap_none hW
             have HS2 := hide hs2
             clear hW hs2)
          | (go_at_call 8
             have hF := Wrap_any 0 5 (some ⟨w2.heap.size + 1, 0, none⟩) 1 1 [.slice (some ⟨w2.heap.size, 0, none⟩) 65536 65536] [zs 65536] ((w2.alloc (zobj 65536)).alloc (.cells #[.slice (some ⟨w2.heap.size, 0, none⟩) 65536 65536] 25)) (by have := rd_new (w2.alloc (zobj 65536)) (.slice (some ⟨w2.heap.size, 0, none⟩) 65536 65536) 25; simpa using this) (rows_one (l := zs 65536) (by rw [zs_length]) (Nat.le_refl _) ((zrd w2 65536).alloc _) (Sfe.of_ty ((zty w2 65536).chg ((Chg.refl (fun _ => False) _).alloc _)) 0)) rfl (by omega) (by intro l hl; rw [List.mem_singleton] at hl; rw [hl, zs_length]; omega)
             rw [Hbig.out] at hF
             refine hF.mono ?_
             clear hF
             intro e w3 hW
             obtain ⟨A3, c3, rfl, hs3⟩ := Wrap_none hW
             have HS3 := hide hs3
             clear hs3 hW)
          | (go_at_call 10
             with_reducible refine (new_ok 5 _ (by omega) (by omega)).mono ?_
             rintro e w4 ⟨rfl, hst4, hs4⟩
             have HS4 := hide hs4
             clear hst4 hs4)
          | (go_at_call 11
             with_reducible refine (Feed_long _ _ 65537 65537 _ (by omega) (by omega)).mono ?_
             rintro e w' ⟨rfl, rfl⟩)
          | (go_at_call 11
             with_reducible refine (Feed_nil _ _ _ _).mono ?_
             rintro e w' ⟨rfl, rfl⟩)
          | (go_at_call 17
             with_reducible refine (Reset_nil _).mono ?_
             rintro e w' ⟨rfl, rfl⟩)
          | (go_at_call 13
             with_reducible refine (Waits_nil _).mono ?_
             rintro e w' ⟨rfl, rfl⟩)
          | (go_at_call 15
             with_reducible refine (Broken_nil _).mono ?_
             rintro e w' ⟨rfl, rfl⟩)
          | (go_at_call 14
             with_reducible refine (lives_any _).mono ?_
             rintro e wb ⟨rfl, hsb'⟩
             have Hsb := hide hsb'
             clear hsb'))
        go_ret
        exact ⟨by simp, Same.trans (Same.trans (Same.trans (Same.trans (Same.trans (Same.trans Hsame.out HS1.out) HS2.out) (Same.trans (((Chg.refl _ w2).alloc _).alloc _) HS3.out)) HS4.out) (((Chg.refl _ w4).alloc _).alloc _)) Hsb.out⟩
end Go.Proofs.Ytdaejdnomlodpaa
