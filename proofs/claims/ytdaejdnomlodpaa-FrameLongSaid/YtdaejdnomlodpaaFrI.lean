/-
  The living call of the frame laws: lives answers true, and leaves what was there. No conditions.
-/
import Derived.Test.YtdaejdnomlodpaaFrE
import Derived.Test.YtdaejdnomlodpaaFrF
import Derived.Test.YtdaejdnomlodpaaFrG
import Derived.Test.YtdaejdnomlodpaaFrH
namespace Go.Proofs.Ytdaejdnomlodpaa
open Go.RowKit Go.Al Go.Al.Fr
set_option linter.unusedVariables false

theorem Wrap_some {ls : List (List UInt8)} {b : List UInt8} {w : World} {e : Ending} {w' : World} (h : WrapTold w (wrapFrom [] ls) e w') (hb : wrapFrom [] ls = some b) :
    ∃ A c, e = .returned (.tuple #[.slice A b.length c, .int .i64 0]) ∧ Same w w' ∧ w'.ownsRow w.heap.size 5 1 (.slice A b.length c) b.length (bs b) := by
  obtain ⟨hs, ⟨b', A, c, h1, h2, h3⟩ | ⟨A, c, h1, _⟩⟩ := h
  · rw [hb] at h1
    cases h1
    exact ⟨A, c, h2, hs, h3⟩
  · rw [hb] at h1; cases h1
theorem rows_one {w : World} {A : Option Addr} {n c : Nat} {l : List UInt8} (hn : n = l.length) (hc : n ≤ c) (hr : Rd w A (bs l)) (hs : Sfe 0 5 w A) : Rows2 0 5 w [.slice A n c] ([l].map bs) := by
  have := (Rows2.nil 0 5 w).push (A := A) (l := bs l) (c := c) (n := n) (by simp [hn]) hc hr hs
  simpa using this

set_option maxRecDepth 100000 in
set_option maxHeartbeats 2000000 in
theorem lives_any (w : World) : Calls Try.prog 14 #[] w fun e w' => e = .returned (.bool true) ∧ Same w w' := by
  have kc := fun (w : World) (C : Array Value) (n c : Nat) => Lib.run_convert_bytes_const (P := Try.prog) w 25 5 C n c Try.underlying25 Try.underlying5
  go_enter Try.func14, Try.ntmps14
  go_wp2_with (first
    | (go_at_call 8
       refine (Wrap_any 0 5 (some ⟨w.heap.size + 1, 0, none⟩) 1 1 [.slice (some ⟨w.heap.size, 0, none⟩) 2 2] [[97, 98]] _ ?h1 ?h2 rfl (by omega) (by simp)).mono ?_
       case h1 =>
         have := rd_lit (w.alloc (.cells #[.int .u8 97, .int .u8 98] 5 (2, 3))) #[.slice (some ⟨w.heap.size, 0, none⟩) 2 2] 25 (0, 0) _ rfl
         simpa using this
       case h2 =>
         exact rows_one rfl (by omega) ((rd_lit w #[.int .u8 97, .int .u8 98] 5 (2, 3) (bs [97, 98]) rfl).alloc _) (Sfe.of_ty ((tyA_lit w _ _ _).chg ((Chg.refl (fun _ => False) _).alloc _)) 0)
       intro e w1 hW
       obtain ⟨A1, c1, rfl, hs1, hown1⟩ := Wrap_some hW (b := [0, 2, 97, 98]) (by decide)
       obtain ⟨_, _, hv, hle1, _⟩ := own_form hown1
       cases hv
       have hcut : ∀ w : World, (Instr.slice 25 (.slice A1 4 c1) none (some (.int .i64 3)) none).run Try.prog w = .ok (.slice A1 3 c1) w := cut_hi slB A1 4 c1 .i64 3 3 rfl (by simp at hle1; omega)
       have Hs1 := hide hs1
       have Hown1 := hide hown1
       clear hW hs1 hown1 hle1)
    | (go_at_call 10
       refine (new_ok 9 _ (by omega) (by omega)).mono ?_
       rintro e w2 ⟨rfl, hst2, hs2⟩
       have Hst2 := hide hst2
       have Hs2 := hide hs2
       clear hst2 hs2))
  have hlt1 : ∀ b, blkOf A1 = some b → b < w1.heap.size := fun b hb => (Hown1.out.lt b (by rw [ownBlock_slice]; exact hb)).2
  have r1 : Rd w1 A1 (bs [0, 2, 97, 98]) := own_rd Hown1.out
  have r2 := r1.same Hs2.out
  refine (Feed_ok w1.heap.size 9 0 c1 3 [] [0, 2, 97] none A1 w2 Hst2.out (r2.take 3) rfl (by simp) (by omega)).mono ?_
  rintro e w3 ⟨Ao3, co3, n3, xs3, l3, br3, A3, c3, rfl, hown3, hrows3, hst3, hc3, hn3, hbr3, hl3, _⟩
  have e3 : all 9 ([] ++ [0, 2, 97]) = ([], [0, 2, 97], false) := by decide
  rw [e3] at hn3 hbr3 hl3 hrows3
  simp only [List.length_nil] at hn3
  subst hn3; subst hbr3; subst hl3
  have r3 : Rd w3 A1 (bs [0, 2, 97, 98]) := r2.chg hc3 fun b hb _ h => by
    have := hlt1 b hb
    have h' : b = w1.heap.size := h
    omega
  have Hst3 := hide hst3
  have Hc3 := hide hc3
  have R3 := hide r3
  have Hlt1 := hide hlt1
  clear hown3 hrows3 hst3 hc3 r1 r2 r3 e3 hlt1 hcut
  have hE : errOf false = 0 := rfl
  go_wp2_with fail
  refine (Feed_ok w1.heap.size 9 c3 1 1 [0, 2, 97] [98] A3 (some ⟨w3.heap.size, 0, none⟩) _ (Hst3.out.same ((Chg.refl (fun _ => False) _).alloc _)) (rd_lit w3 #[.int .u8 98] 5 (1, 2) _ rfl) rfl (by simp) (by omega)).mono ?_
  rintro e w4 ⟨Ao4, co4, n4, xs4, l4, br4, A4, c4, rfl, hown4, hrows4, hst4, hc4, hn4, hbr4, hl4, _⟩
  have e4 : all 9 ([0, 2, 97] ++ [98]) = ([[97, 98]], [], false) := by decide
  rw [e4] at hn4 hbr4 hl4 hrows4
  simp only [List.length_cons, List.length_nil, Nat.zero_add] at hn4
  subst hn4; subst hbr4; subst hl4
  have r4 : Rd w4 A1 (bs [0, 2, 97, 98]) := (R3.out.alloc _).chg hc4 fun b hb _ h => by
    have := Hlt1.out b hb
    have h' : b = w1.heap.size := h
    omega
  have hx4 : 0 < xs4.length := by rw [hrows4.1]; decide
  obtain ⟨Ay, cy, ly, hy1, hy2, _, hy4, _⟩ := hrows4.at_ hx4
  obtain ⟨bo, off, rfl, hcell⟩ := (own_rd hown4).at_ hx4
  rw [List.getElem?_eq_getElem hx4] at hy1
  rw [Option.some.inj hy1] at hcell
  simp at hy2
  subst hy2
  simp only [bs_length, List.length_cons, List.length_nil, Nat.zero_add, Nat.add_zero] at hcell
  have k1 := run_bs_string0 (n := 4) (P := Try.prog) Try.underlying25 Try.underlying5 Try.underlying9 c1 rfl r4
  have k2 := run_bs_string0 (n := 2) (P := Try.prog) Try.underlying25 Try.underlying5 Try.underlying9 cy rfl hy4
  have q1 := str_toList [0, 2, 97, 98]
  have q2 := str_toList [97, 98]
  have Hc4 := hide hc4
  clear hown4 hrows4 hst4 hc4 r4 hx4 hy1 hy4 e4
  go_wp2_with fail
  go_ret
  have hS1 : Same w w1 := Same.trans (((Chg.refl _ w).alloc _).alloc _) Hs1.out
  have hS2 : Chg (· = w1.heap.size) w w2 := (Same.trans hS1 Hs2.out).to
  refine ⟨by simp, Chg.fresh (S := (· = w1.heap.size)) (((hS2.trans Hc3.out fun _ _ h => h).alloc _).trans Hc4.out fun _ _ h => h) fun k hk => ?_⟩
  have hk' : k = w1.heap.size := hk
  rw [hk']
  exact hS1.size
end Go.Proofs.Ytdaejdnomlodpaa
