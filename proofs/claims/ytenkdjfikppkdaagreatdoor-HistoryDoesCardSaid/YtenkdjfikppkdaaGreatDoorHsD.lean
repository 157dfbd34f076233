/-
  history.does and history.Does in one contract each; linear.tells. Conditions: at most 1048576 entries; numbers that an int holds.
-/
import Derived.Test.YtenkdjfikppkdaaGreatDoorHsC
import Derived.Test.YtenkdjfikppkdaaGreatDoorLnB
import Derived.Deep.Cut
namespace Go.Proofs.YtenkdjfikppkdaaGreatDoor
open Go.RowKit Go.Al
set_option linter.unusedVariables false

theorem does_any {g pm sm : Nat} {most : Int} {p s : List P3} (r : Rq) (w : World) (h : Tab w g pm sm most p s) (hw : WfC r.c) :
    Calls Tryz.prog 27 #[.pointer (some ⟨g, 0, none⟩), rqV r] w (DoesEnd w g pm sm most p s r) := by
  cases hg : goodR r
  · exact does_bad r w h hg
  · by_cases hk : r.k = 1
    · exact does_change r w h hw hg hk
    · by_cases hc : checkE r.q = 0
      · exact does_ask r w h hg hk hc
      · exact does_ask_bad r w h hg hk hc

set_option maxRecDepth 100000 in
set_option maxHeartbeats 8000000 in
theorem Does_any {g pm sm : Nat} {most : Int} {p s : List P3} (r : Rq) (w : World) (h : Tab w g pm sm most p s) (hw : WfC r.c) :
    Calls Tryz.prog 12 #[.pointer (some ⟨g, 0, none⟩), rqV r] w (DoesEnd w g pm sm most p s r) := by
  have hs1 := ((Chg.refl (fun _ => False) w).alloc (.cells (rqL r).toArray 38)).alloc (.cells #[.int .i64 0, .bool false, .bool false, .int .i64 0, .slice none 0 0] 44)
  have hb := Blk.new (w.alloc (.cells (rqL r).toArray 38)) 44 #[.int .i64 0, .bool false, .bool false, .int .i64 0, .slice none 0 0]
  have hq := (Blk.new w 38 (rqL r).toArray).alloc (.cells #[.int .i64 0, .bool false, .bool false, .int .i64 0, .slice none 0 0] 44)
  have hra : ((w.alloc (.cells (rqL r).toArray 38)).alloc (.cells #[.int .i64 0, .bool false, .bool false, .int .i64 0, .slice none 0 0] 44)).rangeAt w.heap.size 0 (rqL r) := fun j v hv => by
    rw [Nat.zero_add, hq.cell]
    simpa using hv
  simp only [World.size_alloc] at hb
  have Hs1 := hide hs1
  have Hb := hide hb
  have Hra := hide hra
  have Hlr := hide (rqL_length r)
  have Hlt := hide (And.intro h.blk.lt (And.intro h.mp.lt h.ms.lt))
  have HD := hide (fun w' (hs : Same w w') => does_any r w' (h.same hs) hw)
  unfold DoesEnd at HD ⊢
  obtain ⟨X, hX⟩ : ∃ X, doesA r p s most = X := ⟨_, rfl⟩
  obtain ⟨E, hE⟩ : ∃ E, doesE r = E := ⟨_, rfl⟩
  rw [hX, hE] at HD ⊢
  obtain ⟨xe, xa, xl, xn, xi⟩ := X
  clear hs1 hb hq hra hX hE h hw
  unfold rqV rpV at HD ⊢
  simp only [rpL, Ans.at_] at HD ⊢
  generalize rqL r = R at *
  obtain ⟨P', hP⟩ : ∃ P', doesP r p s most = P' := ⟨_, rfl⟩
  obtain ⟨S', hS⟩ : ∃ S', doesS r p s most = S' := ⟨_, rfl⟩
  rw [hP, hS] at HD ⊢
  clear hP hS
  have HPost : Hid (∀ (w' : World) (A : Option Addr) (c : Nat), RpAt w' ⟨xe, xa, xl, xn, A, c, xi⟩ → Tab w' g pm sm most P' S' → Chg (fun k => k = pm ∨ k = sm) w w' → (∀ b, blkOf A = some b → w.heap.size ≤ b) → (fun (e : Ending) (w' : World) => ∃ A c, e = .returned (.tuple #[.agg #[.int .i64 xe, .bool xa, .bool xl, .int .i64 xn, .slice A xi.length c], .int .i64 E]) ∧ RpAt w' ⟨xe, xa, xl, xn, A, c, xi⟩ ∧ Tab w' g pm sm most P' S' ∧ Chg (fun k => k = pm ∨ k = sm) w w' ∧ ∀ b, blkOf A = some b → w.heap.size ≤ b) (.returned (.tuple #[.agg #[.int .i64 xe, .bool xa, .bool xl, .int .i64 xn, .slice A xi.length c], .int .i64 E])) w') := hide fun w' A c h1 h2 h3 h4 => ⟨A, c, rfl, h1, h2, h3, h4⟩
  go_enter Tryz.func12, Tryz.ntmps12
  go_wp2_with (first
    | (refine wpList_ld (by rfl) 38 _ rfl w.heap.size 0 rfl R _ Hra.out Tryz.underlying38 rfl (by rw [Hlr.out]; exact infoReq0) ?_)
    | (go_at_call 27; have hF := HD.out _ Hs1.out; refine hF.mono ?_; rintro e' w2 ⟨A, c, rfl, hrp, ht, hc, hfr⟩; have Hfr := hide hfr; have HRp := hide hrp; have HT := hide ht; have HC : Hid (Chg (fun k => k = pm ∨ k = sm) w w2) := hide (Chg.of_same Hs1.out hc); have Hb2 := hide (Hb.out.chg hc (fun e => by have := Hlt.out; omega)); have hkb := Hb2.out.cell; have hfb := Hb2.out.frozen; clear hrp ht hc hfr hF))
  refine bodyPost_ret (results_cell2 rfl rfl (Blk.put5 Hb2.out (.int .i64 xe) (.bool xa) (.bool xl) (.int .i64 xn) (.slice A xi.length c)) Tryz.underlying44 rfl (by kernel_rfl)) rfl ?_
  have hz : (((w.alloc (.cells R.toArray 38)).alloc (.cells #[.int .i64 0, .bool false, .bool false, .int .i64 0, .slice none 0 0] 44))).heap.size = w.heap.size + 2 := by simp
  have hlt := Hlt.out
  have hput := Chg.put5 (S := fun k => k = w.heap.size + 1) (g := w.heap.size + 1) (Chg.refl _ w2) (.inl rfl) (.int .i64 xe) (.bool xa) (.bool xl) (.int .i64 xn) (.slice A xi.length c)
  have hrd := Rd.put5 (g := w.heap.size + 1) HRp.out.rd (fun e => by have := Hfr.out _ e; omega) (.int .i64 xe) (.bool xa) (.bool xl) (.int .i64 xn) (.slice A xi.length c)
  have hfin := HPost.out _ A c (HRp.out.keep hrd) (HT.out.chg hput (by omega) (by omega) (by omega)) (Chg.put5 HC.out (.inr (by omega)) (.int .i64 xe) (.bool xa) (.bool xl) (.int .i64 xn) (.slice A xi.length c)) (fun b hb => by have := Hfr.out b hb; omega)
  exact hfin

/-- how tells ends -/
def TellsEnd (w : World) (g pm sm : Nat) (most : Int) (p s : List P3) (d : Dd) (e : Ending) (w' : World) : Prop :=
  e = .returned (.bool (tellsB p s most d)) ∧ Tab w' g pm sm most (doesP d.r p s most) (doesS d.r p s most) ∧ Chg (fun k => k = pm ∨ k = sm) w w'

theorem no_map {w : World} {b off : Nat} {v : Value} {l : List P3} (h : w.cell? ⟨b, off, none⟩ = some v) (hm : MapI w b l) : False := by
  obtain ⟨⟨es, clock, hb, _⟩, _⟩ := hm
  simp [World.cell?, hb] at h
theorem Rd.past_maps {w w' : World} {A : Option Addr} {xs : List Value} {pm sm : Nat} {p s : List P3} (h : Rd w A xs) (hp : MapI w pm p) (hs : MapI w sm s) (hc : Chg (fun k => k = pm ∨ k = sm) w w') : Rd w' A xs := by
  intro hx
  obtain ⟨b, off, e, hcell⟩ := h hx
  obtain ⟨x, r, rfl⟩ := List.exists_cons_of_ne_nil hx
  have h0 := hcell 0 x rfl
  have h1 : ¬ (b = pm ∨ b = sm) := fun e => by
    rcases e with rfl | rfl
    · exact no_map h0 hp
    · exact no_map h0 hs
  exact (h.chg hc fun b' hb' _ => by rw [e] at hb'; simp [blkOf] at hb'; subst hb'; exact h1) hx

end Go.Proofs.YtenkdjfikppkdaaGreatDoor
