/-
  history.does and history.Does in one contract each; linear.tells. Conditions: at most 1048576 entries; numbers that an int holds.
-/
import Derived.Test.YtenkdjfikppkdaaGreatHsC
import Derived.Test.YtenkdjfikppkdaaGreatLnB
import Derived.Deep.Cut
namespace Go.Proofs.YtenkdjfikppkdaaGreat
open Go.RowKit Go.Al
set_option linter.unusedVariables false

theorem does_any {g pm sm : Nat} {most : Int} {p s : List P3} (r : Rq) (w : World) (h : Tab w g pm sm most p s) (hw : WfC r.c) :
    Calls Tryz.prog 53 #[.pointer (some ⟨g, 0, none⟩), rqV r] w (DoesEnd w g pm sm most p s r) := by
  cases hg : goodR r
  · exact does_bad r w h hg
  · by_cases hk : r.k = 1
    · exact does_change r w h hw hg hk
    · by_cases hc : checkE r.q = 0
      · exact does_ask r w h hg hk hc
      · exact does_ask_bad r w h hg hk hc

set_option maxRecDepth 100000 in
set_option maxHeartbeats 8000000 in
theorem Does_any {g pm sm : Nat} {most : Int} {p s : List P3} (r : Rq) (w : World) (h : Tab w g pm sm most p s) (hw : WfC r.c) :
    Calls Tryz.prog 38 #[.pointer (some ⟨g, 0, none⟩), rqV r] w (DoesEnd w g pm sm most p s r) := by
  have hs1 := ((Chg.refl (fun _ => False) w).alloc (.cells (rqL r).toArray 37)).alloc (.cells #[.int .i64 0, .bool false, .bool false, .int .i64 0, .slice none 0 0] 43)
  have hb := Blk.new (w.alloc (.cells (rqL r).toArray 37)) 43 #[.int .i64 0, .bool false, .bool false, .int .i64 0, .slice none 0 0]
  have hq := (Blk.new w 37 (rqL r).toArray).alloc (.cells #[.int .i64 0, .bool false, .bool false, .int .i64 0, .slice none 0 0] 43)
  have hra : ((w.alloc (.cells (rqL r).toArray 37)).alloc (.cells #[.int .i64 0, .bool false, .bool false, .int .i64 0, .slice none 0 0] 43)).rangeAt w.heap.size 0 (rqL r) := fun j v hv => by
    rw [Nat.zero_add, hq.cell]
    simpa using hv
  simp only [World.size_alloc] at hb
  have Hs1 := hide hs1
  have Hb := hide hb
  have Hra := hide hra
  have Hlr := hide (rqL_length r)
  have Hlt := hide (And.intro h.blk.lt (And.intro h.mp.lt h.ms.lt))
  have HD := hide (fun w' (hs : Same w w') => does_any r w' (h.same hs) hw)
  unfold DoesEnd at HD ⊢
  obtain ⟨X, hX⟩ : ∃ X, doesA r p s most = X := ⟨_, rfl⟩
  obtain ⟨E, hE⟩ : ∃ E, doesE r = E := ⟨_, rfl⟩
  rw [hX, hE] at HD ⊢
  obtain ⟨xe, xa, xl, xn, xi⟩ := X
  clear hs1 hb hq hra hX hE h hw
  unfold rqV rpV at HD ⊢
  simp only [rpL, Ans.at_] at HD ⊢
  generalize rqL r = R at *
  obtain ⟨P', hP⟩ : ∃ P', doesP r p s most = P' := ⟨_, rfl⟩
  obtain ⟨S', hS⟩ : ∃ S', doesS r p s most = S' := ⟨_, rfl⟩
  rw [hP, hS] at HD ⊢
  clear hP hS
  have HPost : Hid (∀ (w' : World) (A : Option Addr) (c : Nat), RpAt w' ⟨xe, xa, xl, xn, A, c, xi⟩ → Tab w' g pm sm most P' S' → Chg (fun k => k = pm ∨ k = sm) w w' → (∀ b, blkOf A = some b → w.heap.size ≤ b) → (fun (e : Ending) (w' : World) => ∃ A c, e = .returned (.tuple #[.agg #[.int .i64 xe, .bool xa, .bool xl, .int .i64 xn, .slice A xi.length c], .int .i64 E]) ∧ RpAt w' ⟨xe, xa, xl, xn, A, c, xi⟩ ∧ Tab w' g pm sm most P' S' ∧ Chg (fun k => k = pm ∨ k = sm) w w' ∧ ∀ b, blkOf A = some b → w.heap.size ≤ b) (.returned (.tuple #[.agg #[.int .i64 xe, .bool xa, .bool xl, .int .i64 xn, .slice A xi.length c], .int .i64 E])) w') := hide fun w' A c h1 h2 h3 h4 => ⟨A, c, rfl, h1, h2, h3, h4⟩
  go_enter Tryz.func38, Tryz.ntmps38
  go_wp2_with (first
    | (refine wpList_ld (by rfl) 37 _ rfl w.heap.size 0 rfl R _ Hra.out Tryz.underlying37 rfl (by rw [Hlr.out]; exact infoReq0) ?_)
    | (go_at_call 53; have hF := HD.out _ Hs1.out; refine hF.mono ?_; rintro e' w2 ⟨A, c, rfl, hrp, ht, hc, hfr⟩; have Hfr := hide hfr; have HRp := hide hrp; have HT := hide ht; have HC : Hid (Chg (fun k => k = pm ∨ k = sm) w w2) := hide (Chg.of_same Hs1.out hc); have Hb2 := hide (Hb.out.chg hc (fun e => by have := Hlt.out; omega)); have hkb := Hb2.out.cell; have hfb := Hb2.out.frozen; clear hrp ht hc hfr hF))
  refine bodyPost_ret (results_cell2 rfl rfl (Blk.put5 Hb2.out (.int .i64 xe) (.bool xa) (.bool xl) (.int .i64 xn) (.slice A xi.length c)) Tryz.underlying43 rfl (by kernel_rfl)) rfl ?_
  have hz : (((w.alloc (.cells R.toArray 37)).alloc (.cells #[.int .i64 0, .bool false, .bool false, .int .i64 0, .slice none 0 0] 43))).heap.size = w.heap.size + 2 := by simp
  have hlt := Hlt.out
  have hput := Chg.put5 (S := fun k => k = w.heap.size + 1) (g := w.heap.size + 1) (Chg.refl _ w2) (.inl rfl) (.int .i64 xe) (.bool xa) (.bool xl) (.int .i64 xn) (.slice A xi.length c)
  have hrd := Rd.put5 (g := w.heap.size + 1) HRp.out.rd (fun e => by have := Hfr.out _ e; omega) (.int .i64 xe) (.bool xa) (.bool xl) (.int .i64 xn) (.slice A xi.length c)
  have hfin := HPost.out _ A c (HRp.out.keep hrd) (HT.out.chg hput (by omega) (by omega) (by omega)) (Chg.put5 HC.out (.inr (by omega)) (.int .i64 xe) (.bool xa) (.bool xl) (.int .i64 xn) (.slice A xi.length c)) (fun b hb => by have := Hfr.out b hb; omega)
  exact hfin

/-- how tells ends -/
def TellsEnd (w : World) (g pm sm : Nat) (most : Int) (p s : List P3) (d : Dd) (e : Ending) (w' : World) : Prop :=
  e = .returned (.bool (tellsB p s most d)) ∧ Tab w' g pm sm most (doesP d.r p s most) (doesS d.r p s most) ∧ Chg (fun k => k = pm ∨ k = sm) w w'

theorem no_map {w : World} {b off : Nat} {v : Value} {l : List P3} (h : w.cell? ⟨b, off, none⟩ = some v) (hm : MapI w b l) : False := by
  obtain ⟨⟨es, clock, hb, _⟩, _⟩ := hm
  simp [World.cell?, hb] at h
theorem Rd.past_maps {w w' : World} {A : Option Addr} {xs : List Value} {pm sm : Nat} {p s : List P3} (h : Rd w A xs) (hp : MapI w pm p) (hs : MapI w sm s) (hc : Chg (fun k => k = pm ∨ k = sm) w w') : Rd w' A xs := by
  intro hx
  obtain ⟨b, off, e, hcell⟩ := h hx
  obtain ⟨x, r, rfl⟩ := List.exists_cons_of_ne_nil hx
  have h0 := hcell 0 x rfl
  have h1 : ¬ (b = pm ∨ b = sm) := fun e => by
    rcases e with rfl | rfl
    · exact no_map h0 hp
    · exact no_map h0 hs
  exact (h.chg hc fun b' hb' _ => by rw [e] at hb'; simp [blkOf] at hb'; subst hb'; exact h1) hx

set_option maxRecDepth 100000 in
set_option maxHeartbeats 16000000 in
theorem tells_any {g pm sm : Nat} {most : Int} {p s : List P3} (d : Dd) (w : World) (h : Tab w g pm sm most p s) (hw : WfC d.r.c) (hrp : RpAt w d.t) :
    Calls Tryz.prog 21 #[.pointer (some ⟨g, 0, none⟩), ddV d] w (TellsEnd w g pm sm most p s d) := by
  have hr := rangeAt_blk [.int .i64 d.iv, .int .i64 d.tk, .int .i64 d.rp, .int .i64 d.ab, .int .i64 d.rf, .int .i64 d.ss] (rqL d.r) (rpL d.t) (Blk.new w 45 (ddL d).toArray)
  have ht := rangeAt_blk ([.int .i64 d.iv, .int .i64 d.tk, .int .i64 d.rp, .int .i64 d.ab, .int .i64 d.rf, .int .i64 d.ss] ++ rqL d.r) (rpL d.t) [] (by rw [List.append_nil]; exact Blk.new w 45 (ddL d).toArray)
  have hd := blk_deed w 45 d
  simp only [List.length_cons, List.length_nil, List.length_append, rqL_length] at hr ht
  have hs0 : Same w (w.alloc (.cells (ddL d).toArray 45)) := (Chg.refl _ w).alloc _
  have Hs0 := hide hs0
  have Hr := hide hr
  have Ht := hide ht
  have Hd := hide hd
  have Hl := hide (ddL_length d)
  have Hlr := hide (rqL_length d.r)
  have Hlt := hide (rpL_length d.t)
  have Hlo := hide (And.intro h.mp.lt h.ms.lt)
  have HM := hide (must_any d)
  have HD := hide (fun w' (hs : Same w w') => Does_any d.r w' (h.same hs) hw)
  have HRp := hide (fun w' (hc : Chg (fun k => k = pm ∨ k = sm) w w') => hrp.keep (Rd.past_maps hrp.rd h.mp h.ms hc))
  have HRS := hide (fun (a : Rp) (w' : World) (ha : RpAt w' a) (ht : RpAt w' d.t) => rsame_any a d.t w' ha ht)
  have hte : ∀ e' w', e' = .returned (.bool (tellsB p s most d)) → Tab w' g pm sm most (doesP d.r p s most) (doesS d.r p s most) → Chg (fun k => k = pm ∨ k = sm) w w' → TellsEnd w g pm sm most p s d e' w' := fun e' w' h1 h2 h3 => ⟨h1, h2, h3⟩
  have HTe := hide hte
  obtain ⟨v, hv⟩ : ∃ v, tellsB p s most d = v := ⟨_, rfl⟩
  rw [hv] at HTe
  unfold tellsB at hv
  obtain ⟨X, hX⟩ : ∃ X, doesA d.r p s most = X := ⟨_, rfl⟩
  obtain ⟨E, hE⟩ : ∃ E, doesE d.r = E := ⟨_, rfl⟩
  obtain ⟨P', hP⟩ : ∃ P', doesP d.r p s most = P' := ⟨_, rfl⟩
  obtain ⟨S', hS⟩ : ∃ S', doesS d.r p s most = S' := ⟨_, rfl⟩
  obtain ⟨m, hm⟩ : ∃ m, mustD d = m := ⟨_, rfl⟩
  unfold DoesEnd at HD
  rw [hX, hE, hP, hS] at HD
  rw [hP, hS] at HTe
  rw [hX, hE, hm] at hv
  rw [hm] at HM
  have HV := hide hv
  clear hr ht hd hs0 hX hE hP hS hm hv hte h hw hrp
  obtain ⟨xe, xa, xl, xn, xi⟩ := X
  unfold rqV rpV at HD
  unfold ddV at HM ⊢
  simp only [Ans.at_] at HD
  have HRS2 := hide (fun (A : Option Addr) (c : Nat) (w' : World) (ha : RpAt w' ⟨xe, xa, xl, xn, A, c, xi⟩) (ht : RpAt w' d.t) => by
    have := HRS.out ⟨xe, xa, xl, xn, A, c, xi⟩ w' ha ht
    unfold rpV Rp.ans at this
    exact this)
  clear HRS
  simp only [rpL] at HD
  obtain ⟨sv, hsv⟩ : ∃ sv, sameA ⟨xe, xa, xl, xn, xi⟩ d.t.ans = sv := ⟨_, rfl⟩
  rw [hsv] at HV
  have HRS3 := hide (fun (A : Option Addr) (c : Nat) (w' : World) (ha : RpAt w' ⟨xe, xa, xl, xn, A, c, xi⟩) (ht : RpAt w' d.t) => by
    have h1 := HRS2.out A c w' ha ht
    have h2 : sameA ⟨xe, xa, xl, xn, xi⟩ ⟨d.t.e, d.t.asked, d.t.listed, d.t.n, d.t.ids⟩ = sv := hsv
    simp only at h1
    rw [h2] at h1
    exact h1)
  clear HRS2 hsv
  generalize rqL d.r = R at *
  generalize rpL d.t = T at *
  generalize ddL d = L at *
  simp only [rpL] at HRS3
  go_enter Tryz.func21, Tryz.ntmps21
  go_upto_region 2 with (first
    | (refine wpList_ld (by rfl) 37 _ rfl w.heap.size 6 rfl R _ Hr.out Tryz.underlying37 rfl (by rw [Hlr.out]; exact infoReq0) ?_)
    | (go_at_call 38; have hF := HD.out _ Hs0.out; (with_reducible refine hF.mono ?_); rintro e' w2 ⟨A, c, rfl, hrp, ht, hc, hfr⟩; have HRx := hide hrp; have HT := hide ht; have HCr := hide hc; have HC : Hid (Chg (fun k => k = pm ∨ k = sm) w w2) := hide (Chg.of_same Hs0.out hc); have Hd2 := hide (rangeAt_chg Hd.out hc (fun e => by have := Hlo.out; omega)); have Ht2 := hide (rangeAt_chg Ht.out hc (fun e => by have := Hlo.out; omega)); clear hrp ht hc hfr hF))
  have hs3 : Same w2 (w2.alloc (.cells #[.int .i64 xe, .bool xa, .bool xl, .int .i64 xn, .slice A xi.length c] 43)) := (Chg.refl _ w2).alloc _
  have hb5 := Blk.new w2 43 #[.int .i64 xe, .bool xa, .bool xl, .int .i64 xn, .slice A xi.length c]
  have Hs3 := hide hs3
  have Hb5 := hide hb5
  have Hd3 := hide (rangeAt_same Hd2.out hs3)
  have Ht3 := hide (rangeAt_same Ht2.out hs3)
  have Hz3 := hide (show (w2.alloc (.cells #[.int .i64 xe, .bool xa, .bool xl, .int .i64 xn, .slice A xi.length c] 43)).heap.size = w2.heap.size + 1 by simp)
  clear hs3 hb5 Hd2 Ht2
  generalize w2.alloc (.cells #[.int .i64 xe, .bool xa, .bool xl, .int .i64 xn, .slice A xi.length c] 43) = w3 at *
  have fin : ∀ w4 e', Same w3 w4 → e' = .returned (.bool v) → TellsEnd w g pm sm most p s d e' w4 := fun w4 e' hs he => HTe.out _ _ he ((HT.out.same Hs3.out).same hs) ((HC.out.same Hs3.out).same hs)
  have Fin := hide fin
  clear fin
  have hE0 : ¬ E = 0 → (E == 0) = false := fun h => beq_eq_false_iff_ne.2 h
  have HE0 := hide hE0
  clear hE0
  cases m
  · by_cases e0 : E = 0
    · subst e0
      go_wp2_with (first
        | (refine wpList_ld (by rfl) 45 _ rfl w.heap.size 0 rfl L _ Hd3.out Tryz.underlying45 rfl (by rw [Hl.out]; exact infoDeed) ?_)
        | (go_at_call 29; have hF := HM.out; (with_reducible refine (hF _).mono ?_); rintro e' w4 ⟨rfl, hs⟩; have Hs4 := hide hs; have hk4 := (Hb5.out.same hs).cell; clear hs hF))
      go_ret
      refine Fin.out _ _ Hs4.out (ret_eq ?_)
      rw [← HV.out]
      show Value.bool _ = _
      simp
      try rfl
    · have hE1 := HE0.out e0
      go_wp2_with (first
        | (refine wpList_ld (by rfl) 45 _ rfl w.heap.size 0 rfl L _ Hd3.out Tryz.underlying45 rfl (by rw [Hl.out]; exact infoDeed) ?_)
        | (go_at_call 29; have hF := HM.out; (with_reducible refine (hF _).mono ?_); rintro e' w4 ⟨rfl, hs⟩; have Hs4 := hide hs; have hk4 := (Hb5.out.same hs).cell; clear hs hF))
      go_ret
      refine Fin.out _ _ Hs4.out (ret_eq ?_)
      rw [← HV.out, decide_eq_false e0]
      simp
  · by_cases e0 : E = 0
    · subst e0
      go_wp2_with (first
        | (refine wpList_ld (by rfl) 45 _ rfl w.heap.size 0 rfl L _ Hd3.out Tryz.underlying45 rfl (by rw [Hl.out]; exact infoDeed) ?_)
        | (go_at_call 29; have hF := HM.out; (with_reducible refine (hF _).mono ?_); rintro e' w4 ⟨rfl, hs⟩; have Hs4 : Hid (Same w3 w4) := hide hs; have Ht4 := hide (rangeAt_same Ht3.out hs); have hk4 := (Hb5.out.same hs).cell; clear hs hF)
        | (refine wpList_ld (by rfl) 43 _ rfl w.heap.size 24 rfl T _ Ht4.out Tryz.underlying43 rfl (by rw [Hlt.out]; exact infoRep) ?_)
        | (go_at_call 39; have hF := HRS3.out A c w4 ((HRx.out.same Hs3.out).same Hs4.out) (((HRp.out _ HC.out).same Hs3.out).same Hs4.out); (with_reducible refine hF.mono ?_); rintro e' w5 ⟨rfl, hs⟩; have Hs5 : Hid (Same w3 w5) := hide (Same.trans Hs4.out hs); clear hs hF))
      go_ret
      refine Fin.out _ _ Hs5.out (ret_eq ?_)
      rw [← HV.out]
      simp
    · have hE1 := HE0.out e0
      go_wp2_with (first
        | (refine wpList_ld (by rfl) 45 _ rfl w.heap.size 0 rfl L _ Hd3.out Tryz.underlying45 rfl (by rw [Hl.out]; exact infoDeed) ?_)
        | (go_at_call 29; have hF := HM.out; (with_reducible refine (hF _).mono ?_); rintro e' w4 ⟨rfl, hs⟩; have Hs4 := hide hs; have hk4 := (Hb5.out.same hs).cell; clear hs hF))
      go_ret
      refine Fin.out _ _ Hs4.out (ret_eq ?_)
      rw [← HV.out, decide_eq_false e0]
      simp
end Go.Proofs.YtenkdjfikppkdaaGreat
