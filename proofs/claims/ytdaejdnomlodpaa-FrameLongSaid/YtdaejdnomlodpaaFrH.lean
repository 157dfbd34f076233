/-
  The law's Bytes: a list of byte lists in memory of its own, somewhat cut. Conditions: the list is read.
-/
import Derived.Test.YtdaejdnomlodpaaFrA
namespace Go.Proofs.Ytdaejdnomlodpaa
open Go.RowKit Go.Al Go.Al.Fr
set_option linter.unusedVariables false

def BytesTold (w : World) (most : Nat) (ls : List (List UInt8)) (e : Ending) (w' : World) : Prop :=
  ∃ A n c xs, e = .returned (.slice A n c) ∧ w'.ownsRow w.heap.size 25 1 (.slice A n c) n xs ∧ Rows2 0 5 w' xs ((cutL most ls).map bs) ∧ Same w w' ∧ n = (cutL most ls).length
def BytesRel (w : World) (most : Nat) (ls : List (List UInt8)) (k : Nat) (out vi : Value) (wr : World) : Prop :=
  ∃ (i : Nat) (xs : List Value) (A : Option Addr) (c : Nat), i ≤ ls.length ∧ i ≤ 12 ∧ k = 12 - i ∧ vi = .int .i64 i ∧ out = .slice A i c ∧ wr.ownsRow w.heap.size 25 1 (.slice A i c) i xs ∧ Rows2 0 5 wr xs (((ls.take i).map (·.take most)).map bs) ∧ Same w wr

set_option maxRecDepth 100000 in
set_option maxHeartbeats 1000000 in
theorem Bytes_any (B : Nat) (A : Option Addr) (n c most : Nat) (xs : List Value) (ls : List (List UInt8)) (w : World) (hm : most ≤ 1000) (hr : Rd w A xs) (hx : Rows2 B 5 w xs (ls.map bs)) (hn : ls.length = n) (hb : n ≤ 9223372036854775807) (hl : ∀ l ∈ ls, l.length ≤ 9223372036854775807) :
    Calls Try.prog 7 #[.slice A n c, .int .i64 most] w (BytesTold w most ls) := by
  have Hr := hide hr
  have Hx := hide hx
  have Hn := hide hn
  have Hl := hide hl
  clear hr hx hn hl
  go_enter Try.func7, Try.ntmps7
  go_wp2_with fail
  go_loopg [5, 6] 12 (fun k out vi wr => BytesRel w most ls k out vi wr)
  case atStart => exact ⟨0, [], _, 0, Nat.zero_le _, by omega, rfl, rfl, rfl, own_lit w w.heap.size _ 1 #[] 0 (Nat.le_refl _) (by decide) rfl, Rows2.nil _ _ _, (Chg.refl _ _).alloc _⟩
  case round =>
    obtain ⟨i, ys, A0, c0, hi, hi12, hk, rfl, rfl, hown, hrows, hsame⟩ := hrel
    rw [Hn.out] at hi
    have Hk := hide hk
    have Hown := hide hown
    have Hrows := hide hrows
    have Hsame := hide hsame
    have hsz := hsame.size
    clear hk hown hrows hsame
    by_cases hlt : i < n ∧ i < 12
    · obtain ⟨hlt, hlt12⟩ := hlt
      have hxl : i < xs.length := by rw [Hx.out.1]; simp [Hn.out]; exact hlt
      have hil : i < ls.length := by rw [Hn.out]; exact hlt
      obtain ⟨Ai, ci, li, hx, hl, hci, hri, _⟩ := Hx.out.at_ hxl
      obtain ⟨bo, off, rfl, hcell⟩ := (Hr.out.same Hsame.out).at_ hxl
      rw [List.getElem?_eq_getElem hxl] at hx
      rw [Option.some.inj hx] at hcell
      rw [List.getElem?_map, List.getElem?_eq_getElem hil] at hl
      obtain rfl := Option.some.inj hl
      have hb63 := Hl.out ls[i] (List.getElem_mem hil)
      have hg : ls[i]? = some ls[i] := List.getElem?_eq_getElem hil
      rw [bs_length] at hcell hci
      have Hg := hide hg
      have Hri := hide hri
      clear hx hl hg hri
      generalize ls[i] = b at *
      have hcut : most < b.length → ∀ w : World, (Instr.slice 25 (.slice Ai b.length ci) none (some (.int .i64 (most : Int))) none).run Try.prog w = .ok (.slice Ai most ci) w := fun h => cut_hi slB Ai b.length ci .i64 most most rfl (by omega)
      have hrt : Rd w Ai (bs (b.take most)) := by rw [← bs_take]; exact Hri.out.take _
      have Hrt := hide hrt
      have hlen : (b.take most).length = min most b.length := by simp
      have Hlen := hide hlen
      clear hrt hlen
      have fin : ∀ (m : Nat) (hm : m = (b.take most).length) (w1 : World) (A1 : Option Addr) (c1 : Nat) (w2 : World) (A2 : Option Addr) (c2 : Nat),
          w1.ownsRow w.heap.size 5 1 (.slice A1 m c1) m (bs (b.take most)) → Same wr w1 → w2.ownsRow w.heap.size 25 1 (.slice A2 (i + 1) c2) (i + 1) (ys ++ [.slice A1 m c1]) → Chg (fun k => blkOf A0 = some k) w1 w2 →
          BytesRel w most ls (12 - (i + 1)) (.slice A2 (i + 1) c2) (.int .i64 ((i : Int) + 1)) w2 := by
        intro m hm w1 A1 c1 w2 A2 c2 ho1 hs1 ho2 hc2
        obtain ⟨A1', c1', hv, hle, hrd, hty, _⟩ := own_form ho1
        cases hv
        refine ⟨i + 1, _, A2, c2, hil, by omega, rfl, by go_num, rfl, ho2, ?_, (Hsame.out.trans hs1).app (own_chg Hown.out hs1 fun _ _ h => h) (Nat.le_refl _) hc2⟩
        rw [cutL_snoc most ls i b Hg.out, List.map_append]
        have haw : Away (fun k => blkOf A0 = some k) 0 5 w1 := fun k _ hk => ⟨Nat.zero_le _, by
          have := own_ty (own_chg Hown.out hs1 fun _ _ h => h) (b := k) (by rw [ownBlock_slice]; exact hk)
          rw [this]; decide⟩
        have hS : Sfe 0 5 w1 A1 := Sfe.of_ty hty 0
        refine ((Hrows.out.same hs1).away hc2 haw).push (by simp [hm]) hle ?_ (hS.chg hc2)
        simpa using hrd.away hS hc2 haw
      have Fin := hide fin
      clear fin
      by_cases hbig : most < b.length
      · have hcut' := hcut hbig
        clear hcut
        go_wp2_with (first
        | (at_builtin; refine wpList_appS rfl (.tmp 31) (.tmp 32) _ rfl slB rfl (own_lit wr w.heap.size _ 1 #[] 0 hsz (by decide) rfl) rfl (by have := Hlen.out; simp; omega) ((Hrt.out.same Hsame.out).alloc _) (one_bs _) (by omega) (by omega) (by simp; omega) ?_
           intro A5 c5 w5 hown5 hchg5 hat5
           have hs5 : Same wr w5 := ((Chg.refl _ wr).alloc _).trans hchg5 (by intro k hk h; simp [blkOf] at h; omega)
           have hsz5 := hs5.size
           have Hown5 := hide hown5
           have Hs5 := hide hs5
           clear hown5 hchg5 hat5 hs5)
        | (at_builtin; refine wpList_appS rfl (.tmp 30) (.tmp 34) _ rfl slBB rfl ((own_chg Hown.out Hs5.out fun _ _ h => h).alloc _) rfl rfl (rd_new w5 _ _) (one_slice _ _ _) (by omega) (by omega) (by simp; omega) ?_
           intro A6 c6 w6 hown6 hchg6 hat6
           have hc6 : Chg (fun k => blkOf A0 = some k) w5 w6 := ((Chg.refl _ w5).alloc _).trans hchg6 fun _ _ h => h
           have Hown6 := hide hown6
           have Hc6 := hide hc6
           clear hown6 hchg6 hat6 hc6))
        go_roundg (12 - (i + 1))
        case measure => have := Hk.out; omega
        case rel => exact Fin.out _ (by have := Hlen.out; omega) w5 A5 c5 w6 A6 c6 (by have := Hown5.out; simpa using this) Hs5.out Hown6.out Hc6.out
      · clear hcut
        go_wp2_with (first
        | (at_builtin; refine wpList_appS rfl (.tmp 31) (.tmp 32) _ rfl slB rfl (own_lit wr w.heap.size _ 1 #[] 0 hsz (by decide) rfl) rfl (by have := Hlen.out; simp; omega) ((Hrt.out.same Hsame.out).alloc _) (one_bs _) (by omega) (by omega) (by simp; omega) ?_
           intro A5 c5 w5 hown5 hchg5 hat5
           have hs5 : Same wr w5 := ((Chg.refl _ wr).alloc _).trans hchg5 (by intro k hk h; simp [blkOf] at h; omega)
           have hsz5 := hs5.size
           have Hown5 := hide hown5
           have Hs5 := hide hs5
           clear hown5 hchg5 hat5 hs5)
        | (at_builtin; refine wpList_appS rfl (.tmp 30) (.tmp 34) _ rfl slBB rfl ((own_chg Hown.out Hs5.out fun _ _ h => h).alloc _) rfl rfl (rd_new w5 _ _) (one_slice _ _ _) (by omega) (by omega) (by simp; omega) ?_
           intro A6 c6 w6 hown6 hchg6 hat6
           have hc6 : Chg (fun k => blkOf A0 = some k) w5 w6 := ((Chg.refl _ w5).alloc _).trans hchg6 fun _ _ h => h
           have Hown6 := hide hown6
           have Hc6 := hide hc6
           clear hown6 hchg6 hat6 hc6))
        go_roundg (12 - (i + 1))
        case measure => have := Hk.out; omega
        case rel => exact Fin.out _ (by have := Hlen.out; omega) w5 A5 c5 w6 A6 c6 (by have := Hown5.out; simpa using this) Hs5.out Hown6.out Hc6.out
    · have e : (ls.take i).map (·.take most) = cutL most ls := by
        unfold cutL
        by_cases h12 : i = 12
        · rw [h12]
        · rw [List.take_of_length_le (show ls.length ≤ i by rw [Hn.out]; omega), List.take_of_length_le (show ls.length ≤ 12 by rw [Hn.out]; omega)]
      have fin : BytesTold w most ls (.returned (.slice A0 i c0)) wr := by
        refine ⟨A0, i, c0, ys, rfl, Hown.out, by rw [← e]; exact Hrows.out, Hsame.out, ?_⟩
        rw [← e]
        simp [Hn.out]
        omega
      have Fin := hide fin
      clear fin e
      by_cases h1 : i < n
      · have h2 : ¬ i < 12 := fun h => hlt ⟨h1, h⟩
        clear hlt
        go_wp2_with fail
        go_ret
        exact Fin.out
      · clear hlt
        go_wp2_with fail
        go_ret
        exact Fin.out
end Go.Proofs.Ytdaejdnomlodpaa
