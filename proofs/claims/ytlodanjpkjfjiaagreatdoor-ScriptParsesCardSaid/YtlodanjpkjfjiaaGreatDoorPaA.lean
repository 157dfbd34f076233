/-
  ScriptParses' walk. Conditions: bytes as they lie; numbers that an int holds; what Go's library has laid.
-/
import Derived.Test.YtlodanjpkjfjiaaGreatDoorShR
import Derived.Test.YtlodanjpkjfjiaaGreatDoorOnG
import Derived.Test.YtlodanjpkjfjiaaGreatDoorScN
import Derived.Test.YtlodanjpkjfjiaaGreatDoorRdA
namespace Go.Proofs.YtlodanjpkjfjiaaGreatDoor
open Go.RowKit Go.Al
set_option linter.unusedVariables false

theorem ActAt.far {w w' : World} {a : Ac} {x : Addr} {c g : Nat} (h : ActAt w a (some x) c) (hc : Chg (· = g) w w') (hn : x.block ≠ g) : ActAt w' a (some x) c :=
  ⟨h.1.chg hc fun b hb _ e => hn (by have h1 : x.block = b := Option.some.inj hb; exact h1.trans e), h.2⟩
theorem strV_ne {a b : List UInt8} (h : a ≠ b) : ¬ (⟨a.toArray⟩ : ByteArray) = ⟨b.toArray⟩ := fun e => h ((ba_eq a b).1 e)
set_option maxRecDepth 100000 in
set_option maxHeartbeats 16000000 in
theorem parses_none (s : List UInt8) (a : Ac) {A : Option Addr} {c : Nat} (w : World) (ha : Amb w) (hA : ActAt w a A c) (hw : WfA a) (hl : s.length ≤ 300) (hm : parseB oneW (s) = none) :
    Calls Tryz.prog 3 #[strV s, acV a A c] w fun e w' => e = .returned (.bool true) ∧ Same w w'  := by
  have h300 : s.length ≤ 300 := hl
  have hss : (⟨s.toArray⟩ : ByteArray).size = s.length := rfl
  have hlI : ¬ (300 : Int) < ((s.length : Nat) : Int) := by omega
  clear hl
  have hb0 := Blk.new w 38 (acL a A c).toArray
  have Hs0 := hide ((Chg.refl (fun _ => False) w).alloc (.cells (acL a A c).toArray 38))
  have HFw := hide (few_any a _ (A := A) (c := c) ⟨hA.1.same Hs0.out, hA.2⟩)
  have HPr := hide (fun w' (hs : Same w w') => Parse_any s w' (ha.same hs) (by omega) (split_short (by omega)))
  have HL := hide (fun w' (hs : Same w w') => lives_any w' (ha.same hs))
  have Hll := hide (acL_len a A c)
  have Hra := hide (blk_range hb0)
  have Hb0 := hide hb0
  have Hwf := hide (fewA_good hw)
  have Hfl := hide (fewA_len a)
  have HN := hide (fun (d : Ac) (hd : WfA d) => parse_none ones_W hm d hd)
  have Hm := hide hm
  clear ha hb0 hA hw hm
  unfold FewEnd acV at HFw
  unfold strV at HPr ⊢
  unfold acV
  generalize acL a A c = L at *
  obtain ⟨d, hd⟩ : ∃ d, fewA a = d := ⟨_, rfl⟩
  rw [hd] at HFw Hwf Hfl
  clear hd
  have HZ := hide (fun w' => zero_any ac0 (A := none) (c := 0) w' (Rd.nil _ _))
  rw [eqA_refl] at HZ
  unfold acV at HZ
  obtain ⟨Z0, hZ0⟩ : ∃ Z, acL ac0 none 0 = Z := ⟨_, rfl⟩
  rw [hZ0] at HZ
  rcases hgd : goodA d with _ | _
  · have HG := hide (fun (x : Addr) (c1 : Nat) w' => rgoodA_any d (some x) c1 w' (Nat.le_trans Hfl.out (by decide)))
    rw [hgd] at HG
    unfold acV at HG

    clear hgd
    go_enter Tryz.func3, Tryz.ntmps3
    go_wp2_with (first
      | ((with_reducible refine ldR 38 w.heap.size 0 22 L rowAct Hll.out Hra.out ?_ ?_ ?_); rfl; rfl)
      | (go_at_call 8; ((with_reducible refine HFw.out.mono ?_); rintro e w1 ⟨⟨x, c1, rfl, hat, hxb⟩, hs1⟩; have Hat1 := hide hat; have Hxb := hide (show w.heap.size + 1 ≤ x.block from (by rw [World.size_alloc] at hxb; exact hxb)); have Hs1 := hide (Same.trans Hs0.out hs1); have Hb1 := hide (Hb0.out.same hs1); obtain ⟨D, hD⟩ : ∃ D, acL d (some x) c1 = D := ⟨_, rfl⟩; have HDc : ActC D d (some x) c1 := ⟨hD.symm⟩; rw [hD]; clear hat hxb hs1 hD))
      | ((with_reducible refine stRg 38 w.heap.size 22 D 38 _ rowAct HDc.len ?_ Hb1.out HDc.one ?_ ?_ ?_); (rw [List.size_toArray]; exact Hll.out); rfl; rfl; intro w2 hc hz hb; have Hb2 := hide hb; have Hat2 := hide (Hat1.out.far hc (by have := Hxb.out; omega)); have Hs2 := hide (show Same w w2 from Chg.fresh (S := fun k => w.heap.size ≤ k) (Chg.trans (Same.to Hs1.out) hc (fun k _ e => (by have e' : k = w.heap.size := e; omega))) (fun _ h => h)); clear hc hz hb)
      | (go_at_call 9; ((with_reducible refine (HPr.out _ Hs2.out).mono ?_); rintro e w3 ⟨h1, hs3⟩; obtain rfl : e = .returned (.tuple #[.agg (acL ac0 none 0).toArray, .int .i64 8]) := (by rcases h1 with ⟨a2, A2, cc, h3, _⟩ | ⟨_, h4⟩; (rw [Hm.out] at h3; cases h3); exact h4); have Hs3 := hide (Same.trans Hs2.out hs3); have Hs23 := hide hs3; obtain ⟨Y, hY⟩ : ∃ Y, acL ac0 none 0 = Y := ⟨_, rfl⟩; have HYc : ActC Y ac0 none 0 := ⟨hY.symm⟩; rw [hY]; obtain rfl : Y = Z0 := hY.symm.trans hZ0; clear hs3 h1 hY))
      | ((with_reducible refine stNg 38 22 Y 38 _ rowAct HYc.len ?_ HYc.one ?_ ?_ ?_); rfl; rfl; rfl; intro w4 hs4 hz hb; have Hy4 := hide (blk_range hb); have Hs4 := hide (Same.trans Hs3.out hs4); have Hs24 := hide (Same.trans Hs23.out hs4); clear hs4 hz hb)
      | ((with_reducible refine ldR 38 w3.heap.size 0 22 Y rowAct HYc.len Hy4.out ?_ ?_ ?_); rfl; rfl)
      | (go_at_call 10; ((with_reducible refine (HZ.out _).mono ?_); rintro e w5 ⟨rfl, hs5⟩; have Hs5 := hide (Same.trans Hs24.out hs5); have Hd5 := hide (blk_range (Hb2.out.same Hs5.out)); clear hs5))
      | ((with_reducible refine ldR 38 w.heap.size 0 22 D rowAct HDc.len Hd5.out ?_ ?_ ?_); rfl; rfl)
      | (go_at_call 11; (have hG := HG.out x c1; rw [← HDc.eq] at hG; (with_reducible refine (hG _).mono ?_); rintro e w6 ⟨rfl, hs6⟩; have Hs6 := hide (Same.trans Hs5.out hs6); have Hd6 := hide (blk_range (Hb2.out.same Hs6.out)); clear hs6))
      | (go_at_call 13; ((with_reducible refine (HL.out _ (Same.trans Hs2.out Hs6.out)).mono ?_); rintro e w9 ⟨rfl, hs9⟩; have Hs9 := hide (Same.trans (Same.trans Hs2.out Hs6.out) hs9); clear hs9))
      | fail)
    go_ret
    exact ⟨rfl, Hs9.out⟩
  · have HG := hide (fun (x : Addr) (c1 : Nat) w' => rgoodA_any d (some x) c1 w' (Nat.le_trans Hfl.out (by decide)))
    rw [hgd] at HG
    unfold acV at HG
    have HSh := hide (fun (x : Addr) (c1 : Nat) (w0 : World) (h : Rd w0 (some x) (bs d.b)) w' (hs : Same w0 w') => rshow_any (c := c1) d w' (h.same hs) hgd Hwf.out)
    have hne : showB d ≠ s := (HN.out d Hwf.out).resolve_left (by rw [hgd]; decide)
    have hne2 := strV_ne hne
    have hne4 : (showB d == s) = false := by simpa using hne
    unfold acV strV at HSh
    generalize showB d = SD at *
    clear hgd hne
    go_enter Tryz.func3, Tryz.ntmps3
    generalize showB d = SD at *
    go_wp2_with (first
      | ((with_reducible refine ldR 38 w.heap.size 0 22 L rowAct Hll.out Hra.out ?_ ?_ ?_); rfl; rfl)
      | (go_at_call 8; ((with_reducible refine HFw.out.mono ?_); rintro e w1 ⟨⟨x, c1, rfl, hat, hxb⟩, hs1⟩; have Hat1 := hide hat; have Hxb := hide (show w.heap.size + 1 ≤ x.block from (by rw [World.size_alloc] at hxb; exact hxb)); have Hs1 := hide (Same.trans Hs0.out hs1); have Hb1 := hide (Hb0.out.same hs1); obtain ⟨D, hD⟩ : ∃ D, acL d (some x) c1 = D := ⟨_, rfl⟩; have HDc : ActC D d (some x) c1 := ⟨hD.symm⟩; rw [hD]; clear hat hxb hs1 hD))
      | ((with_reducible refine stRg 38 w.heap.size 22 D 38 _ rowAct HDc.len ?_ Hb1.out HDc.one ?_ ?_ ?_); (rw [List.size_toArray]; exact Hll.out); rfl; rfl; intro w2 hc hz hb; have Hb2 := hide hb; have Hat2 := hide (Hat1.out.far hc (by have := Hxb.out; omega)); have Hs2 := hide (show Same w w2 from Chg.fresh (S := fun k => w.heap.size ≤ k) (Chg.trans (Same.to Hs1.out) hc (fun k _ e => (by have e' : k = w.heap.size := e; omega))) (fun _ h => h)); clear hc hz hb)
      | (go_at_call 9; ((with_reducible refine (HPr.out _ Hs2.out).mono ?_); rintro e w3 ⟨h1, hs3⟩; obtain rfl : e = .returned (.tuple #[.agg (acL ac0 none 0).toArray, .int .i64 8]) := (by rcases h1 with ⟨a2, A2, cc, h3, _⟩ | ⟨_, h4⟩; (rw [Hm.out] at h3; cases h3); exact h4); have Hs3 := hide (Same.trans Hs2.out hs3); have Hs23 := hide hs3; obtain ⟨Y, hY⟩ : ∃ Y, acL ac0 none 0 = Y := ⟨_, rfl⟩; have HYc : ActC Y ac0 none 0 := ⟨hY.symm⟩; rw [hY]; obtain rfl : Y = Z0 := hY.symm.trans hZ0; clear hs3 h1 hY))
      | ((with_reducible refine stNg 38 22 Y 38 _ rowAct HYc.len ?_ HYc.one ?_ ?_ ?_); rfl; rfl; rfl; intro w4 hs4 hz hb; have Hy4 := hide (blk_range hb); have Hs4 := hide (Same.trans Hs3.out hs4); have Hs24 := hide (Same.trans Hs23.out hs4); clear hs4 hz hb)
      | ((with_reducible refine ldR 38 w3.heap.size 0 22 Y rowAct HYc.len Hy4.out ?_ ?_ ?_); rfl; rfl)
      | (go_at_call 10; ((with_reducible refine (HZ.out _).mono ?_); rintro e w5 ⟨rfl, hs5⟩; have Hs5 := hide (Same.trans Hs24.out hs5); have Hd5 := hide (blk_range (Hb2.out.same Hs5.out)); clear hs5))
      | ((with_reducible refine ldR 38 w.heap.size 0 22 D rowAct HDc.len Hd5.out ?_ ?_ ?_); rfl; rfl)
      | (go_at_call 11; (have hG := HG.out x c1; rw [← HDc.eq] at hG; (with_reducible refine (hG _).mono ?_); rintro e w6 ⟨rfl, hs6⟩; have Hs6 := hide (Same.trans Hs5.out hs6); have Hd6 := hide (blk_range (Hb2.out.same Hs6.out)); clear hs6))
      | ((with_reducible refine ldR 38 w.heap.size 0 22 D rowAct HDc.len Hd6.out ?_ ?_ ?_); rfl; rfl)
      | (go_at_call 12; (have hS := HSh.out x c1 w2 Hat2.out.1; rw [← HDc.eq] at hS; (with_reducible refine (hS _ Hs6.out).mono ?_); rintro e w7 ⟨rfl, hs7⟩; have Hs7 := hide (Same.trans Hs6.out hs7); clear hs7))
      | (go_at_call 13; ((with_reducible refine (HL.out _ (Same.trans Hs2.out Hs7.out)).mono ?_); rintro e w9 ⟨rfl, hs9⟩; have Hs9 := hide (Same.trans (Same.trans Hs2.out Hs7.out) hs9); clear hs9))
      | fail)
    go_ret
    exact ⟨rfl, Hs9.out⟩
set_option maxRecDepth 100000 in
set_option maxHeartbeats 16000000 in
theorem parses_noneL (s : List UInt8) (a : Ac) {A : Option Addr} {c : Nat} (w : World) (ha : Amb w) (hA : ActAt w a A c) (hw : WfA a) (hl : 300 < s.length) (hm : parseB oneW (s.take 300) = none) :
    Calls Tryz.prog 3 #[strV s, acV a A c] w fun e w' => e = .returned (.bool true) ∧ Same w w'  := by
  have hto := str_to (l := s) (b := s.take 300) (n := 300) rfl (by omega) 300 rfl
  have hss : (⟨s.toArray⟩ : ByteArray).size = s.length := rfl
  obtain ⟨t, ht⟩ : ∃ t, s.take 300 = t := ⟨_, rfl⟩
  have h300 : t.length ≤ 300 := by rw [← ht, List.length_take]; omega
  rw [ht] at hm hto
  have hlI : (300 : Int) < ((s.length : Nat) : Int) := by omega
  clear ht hl
  generalize s.length = n0 at *
  have hb0 := Blk.new w 38 (acL a A c).toArray
  have Hs0 := hide ((Chg.refl (fun _ => False) w).alloc (.cells (acL a A c).toArray 38))
  have HFw := hide (few_any a _ (A := A) (c := c) ⟨hA.1.same Hs0.out, hA.2⟩)
  have HPr := hide (fun w' (hs : Same w w') => Parse_any t w' (ha.same hs) (by omega) (split_short (by omega)))
  have HL := hide (fun w' (hs : Same w w') => lives_any w' (ha.same hs))
  have Hll := hide (acL_len a A c)
  have Hra := hide (blk_range hb0)
  have Hb0 := hide hb0
  have Hwf := hide (fewA_good hw)
  have Hfl := hide (fewA_len a)
  have HN := hide (fun (d : Ac) (hd : WfA d) => parse_none ones_W hm d hd)
  have Hm := hide hm
  clear ha hb0 hA hw hm
  unfold FewEnd acV at HFw
  unfold strV at HPr ⊢
  unfold acV
  generalize acL a A c = L at *
  obtain ⟨d, hd⟩ : ∃ d, fewA a = d := ⟨_, rfl⟩
  rw [hd] at HFw Hwf Hfl
  clear hd
  have HZ := hide (fun w' => zero_any ac0 (A := none) (c := 0) w' (Rd.nil _ _))
  rw [eqA_refl] at HZ
  unfold acV at HZ
  obtain ⟨Z0, hZ0⟩ : ∃ Z, acL ac0 none 0 = Z := ⟨_, rfl⟩
  rw [hZ0] at HZ
  rcases hgd : goodA d with _ | _
  · have HG := hide (fun (x : Addr) (c1 : Nat) w' => rgoodA_any d (some x) c1 w' (Nat.le_trans Hfl.out (by decide)))
    rw [hgd] at HG
    unfold acV at HG

    clear hgd
    go_enter Tryz.func3, Tryz.ntmps3
    go_wp2_with (first
      | ((with_reducible refine ldR 38 w.heap.size 0 22 L rowAct Hll.out Hra.out ?_ ?_ ?_); rfl; rfl)
      | (go_at_call 8; ((with_reducible refine HFw.out.mono ?_); rintro e w1 ⟨⟨x, c1, rfl, hat, hxb⟩, hs1⟩; have Hat1 := hide hat; have Hxb := hide (show w.heap.size + 1 ≤ x.block from (by rw [World.size_alloc] at hxb; exact hxb)); have Hs1 := hide (Same.trans Hs0.out hs1); have Hb1 := hide (Hb0.out.same hs1); obtain ⟨D, hD⟩ : ∃ D, acL d (some x) c1 = D := ⟨_, rfl⟩; have HDc : ActC D d (some x) c1 := ⟨hD.symm⟩; rw [hD]; clear hat hxb hs1 hD))
      | ((with_reducible refine stRg 38 w.heap.size 22 D 38 _ rowAct HDc.len ?_ Hb1.out HDc.one ?_ ?_ ?_); (rw [List.size_toArray]; exact Hll.out); rfl; rfl; intro w2 hc hz hb; have Hb2 := hide hb; have Hat2 := hide (Hat1.out.far hc (by have := Hxb.out; omega)); have Hs2 := hide (show Same w w2 from Chg.fresh (S := fun k => w.heap.size ≤ k) (Chg.trans (Same.to Hs1.out) hc (fun k _ e => (by have e' : k = w.heap.size := e; omega))) (fun _ h => h)); clear hc hz hb)
      | (go_at_call 9; ((with_reducible refine (HPr.out _ Hs2.out).mono ?_); rintro e w3 ⟨h1, hs3⟩; obtain rfl : e = .returned (.tuple #[.agg (acL ac0 none 0).toArray, .int .i64 8]) := (by rcases h1 with ⟨a2, A2, cc, h3, _⟩ | ⟨_, h4⟩; (rw [Hm.out] at h3; cases h3); exact h4); have Hs3 := hide (Same.trans Hs2.out hs3); have Hs23 := hide hs3; obtain ⟨Y, hY⟩ : ∃ Y, acL ac0 none 0 = Y := ⟨_, rfl⟩; have HYc : ActC Y ac0 none 0 := ⟨hY.symm⟩; rw [hY]; obtain rfl : Y = Z0 := hY.symm.trans hZ0; clear hs3 h1 hY))
      | ((with_reducible refine stNg 38 22 Y 38 _ rowAct HYc.len ?_ HYc.one ?_ ?_ ?_); rfl; rfl; rfl; intro w4 hs4 hz hb; have Hy4 := hide (blk_range hb); have Hs4 := hide (Same.trans Hs3.out hs4); have Hs24 := hide (Same.trans Hs23.out hs4); clear hs4 hz hb)
      | ((with_reducible refine ldR 38 w3.heap.size 0 22 Y rowAct HYc.len Hy4.out ?_ ?_ ?_); rfl; rfl)
      | (go_at_call 10; ((with_reducible refine (HZ.out _).mono ?_); rintro e w5 ⟨rfl, hs5⟩; have Hs5 := hide (Same.trans Hs24.out hs5); have Hd5 := hide (blk_range (Hb2.out.same Hs5.out)); clear hs5))
      | ((with_reducible refine ldR 38 w.heap.size 0 22 D rowAct HDc.len Hd5.out ?_ ?_ ?_); rfl; rfl)
      | (go_at_call 11; (have hG := HG.out x c1; rw [← HDc.eq] at hG; (with_reducible refine (hG _).mono ?_); rintro e w6 ⟨rfl, hs6⟩; have Hs6 := hide (Same.trans Hs5.out hs6); have Hd6 := hide (blk_range (Hb2.out.same Hs6.out)); clear hs6))
      | (go_at_call 13; ((with_reducible refine (HL.out _ (Same.trans Hs2.out Hs6.out)).mono ?_); rintro e w9 ⟨rfl, hs9⟩; have Hs9 := hide (Same.trans (Same.trans Hs2.out Hs6.out) hs9); clear hs9))
      | fail)
    go_ret
    exact ⟨rfl, Hs9.out⟩
  · have HG := hide (fun (x : Addr) (c1 : Nat) w' => rgoodA_any d (some x) c1 w' (Nat.le_trans Hfl.out (by decide)))
    rw [hgd] at HG
    unfold acV at HG
    have HSh := hide (fun (x : Addr) (c1 : Nat) (w0 : World) (h : Rd w0 (some x) (bs d.b)) w' (hs : Same w0 w') => rshow_any (c := c1) d w' (h.same hs) hgd Hwf.out)
    have hne : showB d ≠ t := (HN.out d Hwf.out).resolve_left (by rw [hgd]; decide)
    have hne2 := strV_ne hne
    have hne4 : (showB d == t) = false := by simpa using hne
    unfold acV strV at HSh
    generalize showB d = SD at *
    clear hgd hne
    go_enter Tryz.func3, Tryz.ntmps3
    generalize showB d = SD at *
    go_wp2_with (first
      | ((with_reducible refine ldR 38 w.heap.size 0 22 L rowAct Hll.out Hra.out ?_ ?_ ?_); rfl; rfl)
      | (go_at_call 8; ((with_reducible refine HFw.out.mono ?_); rintro e w1 ⟨⟨x, c1, rfl, hat, hxb⟩, hs1⟩; have Hat1 := hide hat; have Hxb := hide (show w.heap.size + 1 ≤ x.block from (by rw [World.size_alloc] at hxb; exact hxb)); have Hs1 := hide (Same.trans Hs0.out hs1); have Hb1 := hide (Hb0.out.same hs1); obtain ⟨D, hD⟩ : ∃ D, acL d (some x) c1 = D := ⟨_, rfl⟩; have HDc : ActC D d (some x) c1 := ⟨hD.symm⟩; rw [hD]; clear hat hxb hs1 hD))
      | ((with_reducible refine stRg 38 w.heap.size 22 D 38 _ rowAct HDc.len ?_ Hb1.out HDc.one ?_ ?_ ?_); (rw [List.size_toArray]; exact Hll.out); rfl; rfl; intro w2 hc hz hb; have Hb2 := hide hb; have Hat2 := hide (Hat1.out.far hc (by have := Hxb.out; omega)); have Hs2 := hide (show Same w w2 from Chg.fresh (S := fun k => w.heap.size ≤ k) (Chg.trans (Same.to Hs1.out) hc (fun k _ e => (by have e' : k = w.heap.size := e; omega))) (fun _ h => h)); clear hc hz hb)
      | (go_at_call 9; ((with_reducible refine (HPr.out _ Hs2.out).mono ?_); rintro e w3 ⟨h1, hs3⟩; obtain rfl : e = .returned (.tuple #[.agg (acL ac0 none 0).toArray, .int .i64 8]) := (by rcases h1 with ⟨a2, A2, cc, h3, _⟩ | ⟨_, h4⟩; (rw [Hm.out] at h3; cases h3); exact h4); have Hs3 := hide (Same.trans Hs2.out hs3); have Hs23 := hide hs3; obtain ⟨Y, hY⟩ : ∃ Y, acL ac0 none 0 = Y := ⟨_, rfl⟩; have HYc : ActC Y ac0 none 0 := ⟨hY.symm⟩; rw [hY]; obtain rfl : Y = Z0 := hY.symm.trans hZ0; clear hs3 h1 hY))
      | ((with_reducible refine stNg 38 22 Y 38 _ rowAct HYc.len ?_ HYc.one ?_ ?_ ?_); rfl; rfl; rfl; intro w4 hs4 hz hb; have Hy4 := hide (blk_range hb); have Hs4 := hide (Same.trans Hs3.out hs4); have Hs24 := hide (Same.trans Hs23.out hs4); clear hs4 hz hb)
      | ((with_reducible refine ldR 38 w3.heap.size 0 22 Y rowAct HYc.len Hy4.out ?_ ?_ ?_); rfl; rfl)
      | (go_at_call 10; ((with_reducible refine (HZ.out _).mono ?_); rintro e w5 ⟨rfl, hs5⟩; have Hs5 := hide (Same.trans Hs24.out hs5); have Hd5 := hide (blk_range (Hb2.out.same Hs5.out)); clear hs5))
      | ((with_reducible refine ldR 38 w.heap.size 0 22 D rowAct HDc.len Hd5.out ?_ ?_ ?_); rfl; rfl)
      | (go_at_call 11; (have hG := HG.out x c1; rw [← HDc.eq] at hG; (with_reducible refine (hG _).mono ?_); rintro e w6 ⟨rfl, hs6⟩; have Hs6 := hide (Same.trans Hs5.out hs6); have Hd6 := hide (blk_range (Hb2.out.same Hs6.out)); clear hs6))
      | ((with_reducible refine ldR 38 w.heap.size 0 22 D rowAct HDc.len Hd6.out ?_ ?_ ?_); rfl; rfl)
      | (go_at_call 12; (have hS := HSh.out x c1 w2 Hat2.out.1; rw [← HDc.eq] at hS; (with_reducible refine (hS _ Hs6.out).mono ?_); rintro e w7 ⟨rfl, hs7⟩; have Hs7 := hide (Same.trans Hs6.out hs7); clear hs7))
      | (go_at_call 13; ((with_reducible refine (HL.out _ (Same.trans Hs2.out Hs7.out)).mono ?_); rintro e w9 ⟨rfl, hs9⟩; have Hs9 := hide (Same.trans (Same.trans Hs2.out Hs7.out) hs9); clear hs9))
      | fail)
    go_ret
    exact ⟨rfl, Hs9.out⟩
set_option maxRecDepth 100000 in
set_option maxHeartbeats 16000000 in
theorem parses_some (s : List UInt8) (a : Ac) {A : Option Addr} {c : Nat} (w : World) (ha : Amb w) (hA : ActAt w a A c) (hw : WfA a) (hl : s.length ≤ 300) {y : Ac} (hm : parseB oneW (s) = some y) :
    Calls Tryz.prog 3 #[strV s, acV a A c] w fun e w' => e = .returned (.bool true) ∧ Same w w'  := by
  have h300 : s.length ≤ 300 := hl
  have hss : (⟨s.toArray⟩ : ByteArray).size = s.length := rfl
  have hlI : ¬ (300 : Int) < ((s.length : Nat) : Int) := by omega
  clear hl
  have hb0 := Blk.new w 38 (acL a A c).toArray
  have Hs0 := hide ((Chg.refl (fun _ => False) w).alloc (.cells (acL a A c).toArray 38))
  have HFw := hide (few_any a _ (A := A) (c := c) ⟨hA.1.same Hs0.out, hA.2⟩)
  have HPr := hide (fun w' (hs : Same w w') => Parse_any s w' (ha.same hs) (by omega) (split_short (by omega)))
  have HL := hide (fun w' (hs : Same w w') => lives_any w' (ha.same hs))
  have Hll := hide (acL_len a A c)
  have Hra := hide (blk_range hb0)
  have Hb0 := hide hb0
  have Hwf := hide (fewA_good hw)
  have Hfl := hide (fewA_len a)
  have hp := parse_some hm
  have HYg := hide hp.1
  have HYo := hide hp.2.1
  have HYs := hide hp.2.2
  have HYw := hide (show WfA y from by
    unfold parseB at hm
    split at hm
    · rename_i a2 h2
      split at hm
      · cases hm; exact actW_wf h2
      · cases hm
    · cases hm)
  clear hp
  have Hm := hide hm
  clear ha hb0 hA hw hm
  unfold FewEnd acV at HFw
  unfold strV at HPr ⊢
  unfold acV
  generalize acL a A c = L at *
  obtain ⟨d, hd⟩ : ∃ d, fewA a = d := ⟨_, rfl⟩
  rw [hd] at HFw Hwf Hfl
  clear hd
  go_enter Tryz.func3, Tryz.ntmps3
  go_wp2_with (first
    | ((with_reducible refine ldR 38 w.heap.size 0 22 L rowAct Hll.out Hra.out ?_ ?_ ?_); rfl; rfl)
    | (go_at_call 8; ((with_reducible refine HFw.out.mono ?_); rintro e w1 ⟨⟨x, c1, rfl, hat, hxb⟩, hs1⟩; have Hat1 := hide hat; have Hxb := hide (show w.heap.size + 1 ≤ x.block from (by rw [World.size_alloc] at hxb; exact hxb)); have Hs1 := hide (Same.trans Hs0.out hs1); have Hb1 := hide (Hb0.out.same hs1); obtain ⟨D, hD⟩ : ∃ D, acL d (some x) c1 = D := ⟨_, rfl⟩; have HDc : ActC D d (some x) c1 := ⟨hD.symm⟩; rw [hD]; clear hat hxb hs1 hD))
    | ((with_reducible refine stRg 38 w.heap.size 22 D 38 _ rowAct HDc.len ?_ Hb1.out HDc.one ?_ ?_ ?_); (rw [List.size_toArray]; exact Hll.out); rfl; rfl; intro w2 hc hz hb; have Hb2 := hide hb; have Hat2 := hide (Hat1.out.far hc (by have := Hxb.out; omega)); have Hs2 := hide (show Same w w2 from Chg.fresh (S := fun k => w.heap.size ≤ k) (Chg.trans (Same.to Hs1.out) hc (fun k _ e => (by have e' : k = w.heap.size := e; omega))) (fun _ h => h)); clear hc hz hb)
    | (go_at_call 9; ((with_reducible refine (HPr.out _ Hs2.out).mono ?_); rintro e w3 ⟨h1, hs3⟩; obtain ⟨A2, c2, rfl, hlat⟩ : ∃ A2 c2, e = .returned (.tuple #[.agg (laL ⟨y, A2, c2⟩).toArray, .int .i64 0]) ∧ LaAt w3 ⟨y, A2, c2⟩ := (by rcases h1 with ⟨a2, A2, cc, h3, h4, h5, h6⟩ | ⟨h3, _⟩; (rw [Hm.out] at h3; cases h3; exact ⟨A2, cc, h4, h5⟩); (rw [Hm.out] at h3; cases h3)); have Hlat := hide hlat; have Hs3 := hide (Same.trans Hs2.out hs3); obtain ⟨Y, hY⟩ : ∃ Y, laL ⟨y, A2, c2⟩ = Y := ⟨_, rfl⟩; have HYc : ActC Y y A2 c2 := ⟨hY.symm⟩; rw [hY]; clear hs3 h1 hY hlat))
    | ((with_reducible refine stNg 38 22 Y 38 _ rowAct HYc.len ?_ HYc.one ?_ ?_ ?_); rfl; rfl; rfl; intro w4 hs4 hz hb; have Hb4 := hide hb; have Hs4 := hide (Same.trans Hs3.out hs4); have Hat4 := hide (Hlat.out.same hs4); clear hs4 hz hb)
    | fail)
  have HRy := hide (fun (w' : World) (hs : Same w4 w') => blk_range (Hb4.out.same hs))
  have HG : Hid (∀ w', Calls Tryz.prog 11 #[.agg Y.toArray] w' fun e w'' => e = .returned (.bool true) ∧ Same w' w'') := hide fun w' => (by
    have h := rgoodA_any y A2 c2 w' (Nat.le_trans Hat4.out.2.1 Hat4.out.2.2)
    rw [HYg.out] at h
    unfold acV at h
    rw [← HYc.eq] at h
    exact h)
  have HOn : Hid (∀ w', Calls Tryz.prog 15 #[.agg Y.toArray] w' fun e w'' => e = .returned (acV y (onlyAt y A2) (onlyCap y c2)) ∧ Same w' w'') := hide fun w' => (by
    have h := ronlyA_any y (A0 := A2) (c := c2) w' HYg.out
    rw [HYo.out] at h
    rw [show acV y A2 c2 = .agg Y.toArray from by unfold acV; rw [← HYc.eq]] at h
    exact h)
  have HSm : Hid (∀ w', Same w4 w' → Calls Tryz.prog 14 #[.agg Y.toArray, acV y (onlyAt y A2) (onlyCap y c2)] w' fun e w'' => e = .returned (.bool true) ∧ Same w' w'') := hide fun w' hs => (by
    have h2 := (onlyA_at Hat4.out).1
    rw [HYo.out] at h2
    have h := rsame_any y y (c := c2) (d := onlyCap y c2) w' (Hat4.out.1.same hs) (h2.same hs)
    rw [eqA_refl] at h
    rw [show acV y A2 c2 = .agg Y.toArray from by unfold acV; rw [← HYc.eq]] at h
    exact h)
  have HSh : Hid (∀ w', Same w4 w' → Calls Tryz.prog 12 #[.agg Y.toArray] w' fun e w'' => e = .returned (.string ⟨s.toArray⟩) ∧ Same w' w'') := hide fun w' hs => (by
    have h := rshow_any y (c := c2) w' (Hat4.out.1.same hs) HYg.out HYw.out
    rw [HYs.out] at h
    rw [show acV y A2 c2 = .agg Y.toArray from by unfold acV; rw [← HYc.eq]] at h
    exact h)
  have HL4 : Hid (∀ w', Same w4 w' → Calls Tryz.prog 13 #[] w' fun e w'' => e = .returned (.bool true) ∧ Same w' w'') := hide fun w' hs => HL.out w' (Same.trans Hs4.out hs)
  obtain ⟨OV, hOV⟩ : ∃ v, acV y (onlyAt y A2) (onlyCap y c2) = v := ⟨_, rfl⟩
  rw [hOV] at HOn HSm
  clear hOV
  refine wp_region_mixS 18 (by kernel_rfl) (by kernel_rfl) fun Fin hFin => ?_
  simp only [List.take_succ_cons, List.take_zero]
  refine mix_ld Y ?_ (fun w => Chg.refl _ w) (fun _ => by rfl) 38 _ rfl w3.heap.size 0 (fun _ => by rfl) _ (fun w1 hR => HRy.out _ hR) Tryz.underlying38 rfl (by rw [HYc.len]; exact infoAct) ?_ ?_
  rotate_left
  · intro e; simp only [Act.put, List.setIfInBounds_toArray, List.set_cons_zero, List.set_cons_succ]; rfl
  iterate 2 (
      (refine mix_lit ?_ ?_ (fun w => Chg.refl _ w) ?_ ?_ ?_ ?_
       rotate_left; rotate_left
       · intro e w1 hR hF K hK; (skip); go_simp; (first | (refine hK _ _ (Chg.refl _ _) ?_; rfl) | (go_at_call 11; (with_reducible refine (HG.out _).mono ?_); rintro _ w2 ⟨rfl, hs⟩; refine hK _ _ hs ?_; rfl) | (go_at_call 15; (with_reducible refine (HOn.out _).mono ?_); rintro _ w2 ⟨rfl, hs⟩; refine hK _ _ hs ?_; rfl) | (go_at_call 14; (with_reducible refine (HSm.out _ hR).mono ?_); rintro _ w2 ⟨rfl, hs⟩; refine hK _ _ hs ?_; rfl) | (go_at_call 12; (with_reducible refine (HSh.out _ hR).mono ?_); rintro _ w2 ⟨rfl, hs⟩; refine hK _ _ hs ?_; rfl) | (go_at_call 13; (with_reducible refine (HL4.out _ hR).mono ?_); rintro _ w2 ⟨rfl, hs⟩; refine hK _ _ hs ?_; rfl))
       · intro e; simp only [Act.put, List.setIfInBounds_toArray, List.set_cons_zero, List.set_cons_succ]; rfl
       · exact Loc.const _ _))
  refine mix_ld Y ?_ (fun w => Chg.refl _ w) (fun _ => by rfl) 38 _ rfl w3.heap.size 0 (fun _ => by rfl) _ (fun w1 hR => HRy.out _ hR) Tryz.underlying38 rfl (by rw [HYc.len]; exact infoAct) ?_ ?_
  rotate_left
  · intro e; simp only [Act.put, List.setIfInBounds_toArray, List.set_cons_zero, List.set_cons_succ]; rfl
  refine mix_ld Y ?_ (fun w => Chg.refl _ w) (fun _ => by rfl) 38 _ rfl w3.heap.size 0 (fun _ => by rfl) _ (fun w1 hR => HRy.out _ hR) Tryz.underlying38 rfl (by rw [HYc.len]; exact infoAct) ?_ ?_
  rotate_left
  · intro e; simp only [Act.put, List.setIfInBounds_toArray, List.set_cons_zero, List.set_cons_succ]; rfl
  iterate 4 (
      (refine mix_lit ?_ ?_ (fun w => Chg.refl _ w) ?_ ?_ ?_ ?_
       rotate_left; rotate_left
       · intro e w1 hR hF K hK; (skip); go_simp; (first | (refine hK _ _ (Chg.refl _ _) ?_; rfl) | (go_at_call 11; (with_reducible refine (HG.out _).mono ?_); rintro _ w2 ⟨rfl, hs⟩; refine hK _ _ hs ?_; rfl) | (go_at_call 15; (with_reducible refine (HOn.out _).mono ?_); rintro _ w2 ⟨rfl, hs⟩; refine hK _ _ hs ?_; rfl) | (go_at_call 14; (with_reducible refine (HSm.out _ hR).mono ?_); rintro _ w2 ⟨rfl, hs⟩; refine hK _ _ hs ?_; rfl) | (go_at_call 12; (with_reducible refine (HSh.out _ hR).mono ?_); rintro _ w2 ⟨rfl, hs⟩; refine hK _ _ hs ?_; rfl) | (go_at_call 13; (with_reducible refine (HL4.out _ hR).mono ?_); rintro _ w2 ⟨rfl, hs⟩; refine hK _ _ hs ?_; rfl))
       · intro e; simp only [Act.put, List.setIfInBounds_toArray, List.set_cons_zero, List.set_cons_succ]; rfl
       · exact Loc.const _ _))
  refine mix_ld Y ?_ (fun w => Chg.refl _ w) (fun _ => by rfl) 38 _ rfl w3.heap.size 0 (fun _ => by rfl) _ (fun w1 hR => HRy.out _ hR) Tryz.underlying38 rfl (by rw [HYc.len]; exact infoAct) ?_ ?_
  rotate_left
  · intro e; simp only [Act.put, List.setIfInBounds_toArray, List.set_cons_zero, List.set_cons_succ]; rfl
  iterate 8 (
      (refine mix_lit ?_ ?_ (fun w => Chg.refl _ w) ?_ ?_ ?_ ?_
       rotate_left; rotate_left
       · intro e w1 hR hF K hK; (skip); go_simp; (first | (refine hK _ _ (Chg.refl _ _) ?_; rfl) | (go_at_call 11; (with_reducible refine (HG.out _).mono ?_); rintro _ w2 ⟨rfl, hs⟩; refine hK _ _ hs ?_; rfl) | (go_at_call 15; (with_reducible refine (HOn.out _).mono ?_); rintro _ w2 ⟨rfl, hs⟩; refine hK _ _ hs ?_; rfl) | (go_at_call 14; (with_reducible refine (HSm.out _ hR).mono ?_); rintro _ w2 ⟨rfl, hs⟩; refine hK _ _ hs ?_; rfl) | (go_at_call 12; (with_reducible refine (HSh.out _ hR).mono ?_); rintro _ w2 ⟨rfl, hs⟩; refine hK _ _ hs ?_; rfl) | (go_at_call 13; (with_reducible refine (HL4.out _ hR).mono ?_); rintro _ w2 ⟨rfl, hs⟩; refine hK _ _ hs ?_; rfl))
       · intro e; simp only [Act.put, List.setIfInBounds_toArray, List.set_cons_zero, List.set_cons_succ]; rfl
       · exact Loc.const _ _))
  refine mix_nil fun e wR hR hF => hFin _ _ ?_
  simp only [List.drop_succ_cons, List.drop_zero]
  have HR := hide hR
  clear hR hF hFin
  go_wp2_with fail
  go_ret
  exact ⟨rfl, Same.trans Hs4.out HR.out⟩
set_option maxRecDepth 100000 in
set_option maxHeartbeats 16000000 in
theorem parses_someL (s : List UInt8) (a : Ac) {A : Option Addr} {c : Nat} (w : World) (ha : Amb w) (hA : ActAt w a A c) (hw : WfA a) (hl : 300 < s.length) {y : Ac} (hm : parseB oneW (s.take 300) = some y) :
    Calls Tryz.prog 3 #[strV s, acV a A c] w fun e w' => e = .returned (.bool true) ∧ Same w w'  := by
  have hto := str_to (l := s) (b := s.take 300) (n := 300) rfl (by omega) 300 rfl
  have hss : (⟨s.toArray⟩ : ByteArray).size = s.length := rfl
  obtain ⟨t, ht⟩ : ∃ t, s.take 300 = t := ⟨_, rfl⟩
  have h300 : t.length ≤ 300 := by rw [← ht, List.length_take]; omega
  rw [ht] at hm hto
  have hlI : (300 : Int) < ((s.length : Nat) : Int) := by omega
  clear ht hl
  generalize s.length = n0 at *
  have hb0 := Blk.new w 38 (acL a A c).toArray
  have Hs0 := hide ((Chg.refl (fun _ => False) w).alloc (.cells (acL a A c).toArray 38))
  have HFw := hide (few_any a _ (A := A) (c := c) ⟨hA.1.same Hs0.out, hA.2⟩)
  have HPr := hide (fun w' (hs : Same w w') => Parse_any t w' (ha.same hs) (by omega) (split_short (by omega)))
  have HL := hide (fun w' (hs : Same w w') => lives_any w' (ha.same hs))
  have Hll := hide (acL_len a A c)
  have Hra := hide (blk_range hb0)
  have Hb0 := hide hb0
  have Hwf := hide (fewA_good hw)
  have Hfl := hide (fewA_len a)
  have hp := parse_some hm
  have HYg := hide hp.1
  have HYo := hide hp.2.1
  have HYs := hide hp.2.2
  have HYw := hide (show WfA y from by
    unfold parseB at hm
    split at hm
    · rename_i a2 h2
      split at hm
      · cases hm; exact actW_wf h2
      · cases hm
    · cases hm)
  clear hp
  have Hm := hide hm
  clear ha hb0 hA hw hm
  unfold FewEnd acV at HFw
  unfold strV at HPr ⊢
  unfold acV
  generalize acL a A c = L at *
  obtain ⟨d, hd⟩ : ∃ d, fewA a = d := ⟨_, rfl⟩
  rw [hd] at HFw Hwf Hfl
  clear hd
  go_enter Tryz.func3, Tryz.ntmps3
  go_wp2_with (first
    | ((with_reducible refine ldR 38 w.heap.size 0 22 L rowAct Hll.out Hra.out ?_ ?_ ?_); rfl; rfl)
    | (go_at_call 8; ((with_reducible refine HFw.out.mono ?_); rintro e w1 ⟨⟨x, c1, rfl, hat, hxb⟩, hs1⟩; have Hat1 := hide hat; have Hxb := hide (show w.heap.size + 1 ≤ x.block from (by rw [World.size_alloc] at hxb; exact hxb)); have Hs1 := hide (Same.trans Hs0.out hs1); have Hb1 := hide (Hb0.out.same hs1); obtain ⟨D, hD⟩ : ∃ D, acL d (some x) c1 = D := ⟨_, rfl⟩; have HDc : ActC D d (some x) c1 := ⟨hD.symm⟩; rw [hD]; clear hat hxb hs1 hD))
    | ((with_reducible refine stRg 38 w.heap.size 22 D 38 _ rowAct HDc.len ?_ Hb1.out HDc.one ?_ ?_ ?_); (rw [List.size_toArray]; exact Hll.out); rfl; rfl; intro w2 hc hz hb; have Hb2 := hide hb; have Hat2 := hide (Hat1.out.far hc (by have := Hxb.out; omega)); have Hs2 := hide (show Same w w2 from Chg.fresh (S := fun k => w.heap.size ≤ k) (Chg.trans (Same.to Hs1.out) hc (fun k _ e => (by have e' : k = w.heap.size := e; omega))) (fun _ h => h)); clear hc hz hb)
    | (go_at_call 9; ((with_reducible refine (HPr.out _ Hs2.out).mono ?_); rintro e w3 ⟨h1, hs3⟩; obtain ⟨A2, c2, rfl, hlat⟩ : ∃ A2 c2, e = .returned (.tuple #[.agg (laL ⟨y, A2, c2⟩).toArray, .int .i64 0]) ∧ LaAt w3 ⟨y, A2, c2⟩ := (by rcases h1 with ⟨a2, A2, cc, h3, h4, h5, h6⟩ | ⟨h3, _⟩; (rw [Hm.out] at h3; cases h3; exact ⟨A2, cc, h4, h5⟩); (rw [Hm.out] at h3; cases h3)); have Hlat := hide hlat; have Hs3 := hide (Same.trans Hs2.out hs3); obtain ⟨Y, hY⟩ : ∃ Y, laL ⟨y, A2, c2⟩ = Y := ⟨_, rfl⟩; have HYc : ActC Y y A2 c2 := ⟨hY.symm⟩; rw [hY]; clear hs3 h1 hY hlat))
    | ((with_reducible refine stNg 38 22 Y 38 _ rowAct HYc.len ?_ HYc.one ?_ ?_ ?_); rfl; rfl; rfl; intro w4 hs4 hz hb; have Hb4 := hide hb; have Hs4 := hide (Same.trans Hs3.out hs4); have Hat4 := hide (Hlat.out.same hs4); clear hs4 hz hb)
    | fail)
  have HRy := hide (fun (w' : World) (hs : Same w4 w') => blk_range (Hb4.out.same hs))
  have HG : Hid (∀ w', Calls Tryz.prog 11 #[.agg Y.toArray] w' fun e w'' => e = .returned (.bool true) ∧ Same w' w'') := hide fun w' => (by
    have h := rgoodA_any y A2 c2 w' (Nat.le_trans Hat4.out.2.1 Hat4.out.2.2)
    rw [HYg.out] at h
    unfold acV at h
    rw [← HYc.eq] at h
    exact h)
  have HOn : Hid (∀ w', Calls Tryz.prog 15 #[.agg Y.toArray] w' fun e w'' => e = .returned (acV y (onlyAt y A2) (onlyCap y c2)) ∧ Same w' w'') := hide fun w' => (by
    have h := ronlyA_any y (A0 := A2) (c := c2) w' HYg.out
    rw [HYo.out] at h
    rw [show acV y A2 c2 = .agg Y.toArray from by unfold acV; rw [← HYc.eq]] at h
    exact h)
  have HSm : Hid (∀ w', Same w4 w' → Calls Tryz.prog 14 #[.agg Y.toArray, acV y (onlyAt y A2) (onlyCap y c2)] w' fun e w'' => e = .returned (.bool true) ∧ Same w' w'') := hide fun w' hs => (by
    have h2 := (onlyA_at Hat4.out).1
    rw [HYo.out] at h2
    have h := rsame_any y y (c := c2) (d := onlyCap y c2) w' (Hat4.out.1.same hs) (h2.same hs)
    rw [eqA_refl] at h
    rw [show acV y A2 c2 = .agg Y.toArray from by unfold acV; rw [← HYc.eq]] at h
    exact h)
  have HSh : Hid (∀ w', Same w4 w' → Calls Tryz.prog 12 #[.agg Y.toArray] w' fun e w'' => e = .returned (.string ⟨t.toArray⟩) ∧ Same w' w'') := hide fun w' hs => (by
    have h := rshow_any y (c := c2) w' (Hat4.out.1.same hs) HYg.out HYw.out
    rw [HYs.out] at h
    rw [show acV y A2 c2 = .agg Y.toArray from by unfold acV; rw [← HYc.eq]] at h
    exact h)
  have HL4 : Hid (∀ w', Same w4 w' → Calls Tryz.prog 13 #[] w' fun e w'' => e = .returned (.bool true) ∧ Same w' w'') := hide fun w' hs => HL.out w' (Same.trans Hs4.out hs)
  obtain ⟨OV, hOV⟩ : ∃ v, acV y (onlyAt y A2) (onlyCap y c2) = v := ⟨_, rfl⟩
  rw [hOV] at HOn HSm
  clear hOV
  refine wp_region_mixS 18 (by kernel_rfl) (by kernel_rfl) fun Fin hFin => ?_
  simp only [List.take_succ_cons, List.take_zero]
  refine mix_ld Y ?_ (fun w => Chg.refl _ w) (fun _ => by rfl) 38 _ rfl w3.heap.size 0 (fun _ => by rfl) _ (fun w1 hR => HRy.out _ hR) Tryz.underlying38 rfl (by rw [HYc.len]; exact infoAct) ?_ ?_
  rotate_left
  · intro e; simp only [Act.put, List.setIfInBounds_toArray, List.set_cons_zero, List.set_cons_succ]; rfl
  iterate 2 (
      (refine mix_lit ?_ ?_ (fun w => Chg.refl _ w) ?_ ?_ ?_ ?_
       rotate_left; rotate_left
       · intro e w1 hR hF K hK; (skip); go_simp; (first | (refine hK _ _ (Chg.refl _ _) ?_; rfl) | (go_at_call 11; (with_reducible refine (HG.out _).mono ?_); rintro _ w2 ⟨rfl, hs⟩; refine hK _ _ hs ?_; rfl) | (go_at_call 15; (with_reducible refine (HOn.out _).mono ?_); rintro _ w2 ⟨rfl, hs⟩; refine hK _ _ hs ?_; rfl) | (go_at_call 14; (with_reducible refine (HSm.out _ hR).mono ?_); rintro _ w2 ⟨rfl, hs⟩; refine hK _ _ hs ?_; rfl) | (go_at_call 12; (with_reducible refine (HSh.out _ hR).mono ?_); rintro _ w2 ⟨rfl, hs⟩; refine hK _ _ hs ?_; rfl) | (go_at_call 13; (with_reducible refine (HL4.out _ hR).mono ?_); rintro _ w2 ⟨rfl, hs⟩; refine hK _ _ hs ?_; rfl))
       · intro e; simp only [Act.put, List.setIfInBounds_toArray, List.set_cons_zero, List.set_cons_succ]; rfl
       · exact Loc.const _ _))
  refine mix_ld Y ?_ (fun w => Chg.refl _ w) (fun _ => by rfl) 38 _ rfl w3.heap.size 0 (fun _ => by rfl) _ (fun w1 hR => HRy.out _ hR) Tryz.underlying38 rfl (by rw [HYc.len]; exact infoAct) ?_ ?_
  rotate_left
  · intro e; simp only [Act.put, List.setIfInBounds_toArray, List.set_cons_zero, List.set_cons_succ]; rfl
  refine mix_ld Y ?_ (fun w => Chg.refl _ w) (fun _ => by rfl) 38 _ rfl w3.heap.size 0 (fun _ => by rfl) _ (fun w1 hR => HRy.out _ hR) Tryz.underlying38 rfl (by rw [HYc.len]; exact infoAct) ?_ ?_
  rotate_left
  · intro e; simp only [Act.put, List.setIfInBounds_toArray, List.set_cons_zero, List.set_cons_succ]; rfl
  iterate 4 (
      (refine mix_lit ?_ ?_ (fun w => Chg.refl _ w) ?_ ?_ ?_ ?_
       rotate_left; rotate_left
       · intro e w1 hR hF K hK; (skip); go_simp; (first | (refine hK _ _ (Chg.refl _ _) ?_; rfl) | (go_at_call 11; (with_reducible refine (HG.out _).mono ?_); rintro _ w2 ⟨rfl, hs⟩; refine hK _ _ hs ?_; rfl) | (go_at_call 15; (with_reducible refine (HOn.out _).mono ?_); rintro _ w2 ⟨rfl, hs⟩; refine hK _ _ hs ?_; rfl) | (go_at_call 14; (with_reducible refine (HSm.out _ hR).mono ?_); rintro _ w2 ⟨rfl, hs⟩; refine hK _ _ hs ?_; rfl) | (go_at_call 12; (with_reducible refine (HSh.out _ hR).mono ?_); rintro _ w2 ⟨rfl, hs⟩; refine hK _ _ hs ?_; rfl) | (go_at_call 13; (with_reducible refine (HL4.out _ hR).mono ?_); rintro _ w2 ⟨rfl, hs⟩; refine hK _ _ hs ?_; rfl))
       · intro e; simp only [Act.put, List.setIfInBounds_toArray, List.set_cons_zero, List.set_cons_succ]; rfl
       · exact Loc.const _ _))
  refine mix_ld Y ?_ (fun w => Chg.refl _ w) (fun _ => by rfl) 38 _ rfl w3.heap.size 0 (fun _ => by rfl) _ (fun w1 hR => HRy.out _ hR) Tryz.underlying38 rfl (by rw [HYc.len]; exact infoAct) ?_ ?_
  rotate_left
  · intro e; simp only [Act.put, List.setIfInBounds_toArray, List.set_cons_zero, List.set_cons_succ]; rfl
  iterate 8 (
      (refine mix_lit ?_ ?_ (fun w => Chg.refl _ w) ?_ ?_ ?_ ?_
       rotate_left; rotate_left
       · intro e w1 hR hF K hK; (skip); go_simp; (first | (refine hK _ _ (Chg.refl _ _) ?_; rfl) | (go_at_call 11; (with_reducible refine (HG.out _).mono ?_); rintro _ w2 ⟨rfl, hs⟩; refine hK _ _ hs ?_; rfl) | (go_at_call 15; (with_reducible refine (HOn.out _).mono ?_); rintro _ w2 ⟨rfl, hs⟩; refine hK _ _ hs ?_; rfl) | (go_at_call 14; (with_reducible refine (HSm.out _ hR).mono ?_); rintro _ w2 ⟨rfl, hs⟩; refine hK _ _ hs ?_; rfl) | (go_at_call 12; (with_reducible refine (HSh.out _ hR).mono ?_); rintro _ w2 ⟨rfl, hs⟩; refine hK _ _ hs ?_; rfl) | (go_at_call 13; (with_reducible refine (HL4.out _ hR).mono ?_); rintro _ w2 ⟨rfl, hs⟩; refine hK _ _ hs ?_; rfl))
       · intro e; simp only [Act.put, List.setIfInBounds_toArray, List.set_cons_zero, List.set_cons_succ]; rfl
       · exact Loc.const _ _))
  refine mix_nil fun e wR hR hF => hFin _ _ ?_
  simp only [List.drop_succ_cons, List.drop_zero]
  have HR := hide hR
  clear hR hF hFin
  go_wp2_with fail
  go_ret
  exact ⟨rfl, Same.trans Hs4.out HR.out⟩
theorem scriptParses_any (s : List UInt8) (a : Ac) {A : Option Addr} {c : Nat} (w : World) (ha : Amb w) (hA : ActAt w a A c) (hw : WfA a) :
    Calls Tryz.prog 3 #[strV s, acV a A c] w fun e w' => e = .returned (.bool true) ∧ Same w w' := by
  by_cases hl : s.length ≤ 300
  · cases hm : parseB oneW s with
    | none => exact parses_none s a w ha hA hw hl hm
    | some y => exact parses_some s a w ha hA hw hl hm
  · cases hm : parseB oneW (s.take 300) with
    | none => exact parses_noneL s a w ha hA hw (by omega) hm
    | some y => exact parses_someL s a w ha hA hw (by omega) hm
end Go.Proofs.YtlodanjpkjfjiaaGreatDoor
