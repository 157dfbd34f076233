/-
  script.reader.act. Conditions: Go's errors and the table of white space are laid; words of a sound length, not too many.
-/
import Derived.Test.YtlodanjpkjfjiaaGreatDoorScHc
import Derived.Test.YtlodanjpkjfjiaaGreatDoorAcW
namespace Go.Proofs.YtlodanjpkjfjiaaGreatDoor
open Go.RowKit Go.Al
set_option linter.unusedVariables false

/-- an act's bytes as they lie -/
def ActAt (w : World) (a : Ac) (A : Option Addr) (c : Nat) : Prop := Rd w A (bs a.b) ∧ a.b.length ≤ c ∧ c ≤ maxLen
/-- how reader.act ends -/
def ActEnd (g : Nat) (ws : List (List UInt8)) (w : World) (e : Ending) (w' : World) : Prop :=
  ((∃ a A c, actW oneW ws = .ok a ∧ e = .returned (acV a A c) ∧ ActAt w' a A c ∧ ∀ b, blkOf A = some b → w.heap.size ≤ b) ∨ (∃ c, actW oneW ws = .error c ∧ e = .panicked (fault 0 c))) ∧ Chg (fun k => k = g) w w'
/-- what the walks of reader.act lean on -/
structure Rdy (g : Nat) (w : World) (ws : List (List UInt8)) : Prop where
  at_ : RdrAt w g ws
  err : Errs w
  far : FarE g
  tab : Lib.TabIs Tryz.prog w "strings.asciiSpace" .u8 Lib.asciiSpaceTab
  fit : FitW ws
  gap : ∀ k, Tryz.prog.globalNamed "strings.asciiSpace" = some k → k ≠ g
theorem tab_chg {P : Program} {S : Nat → Prop} {w w' : World} {name : String} {k : IntKind} {zs : List Int} (h : Lib.TabIs P w name k zs) (hc : Chg S w w') (hS : ∀ k, P.globalNamed name = some k → ¬ S k) : Lib.TabIs P w' name k zs := by
  unfold Lib.TabIs at h ⊢
  exact var_chg h hc hS
theorem Rdy.next {g : Nat} {w w' : World} {ws l : List (List UInt8)} (h : Rdy g w ws) (hc : Chg (fun k => k = g) w w') (hr : RdrAt w' g l) (hf : FitW l) : Rdy g w' l :=
  ⟨hr, h.err.chg hc (fun k hk e => h.far.1 k hk e) (fun k hk e => h.far.2 k hk e), h.far, tab_chg h.tab hc (fun k hk e => h.gap k hk e), hf, h.gap⟩
set_option maxRecDepth 100000 in
set_option maxHeartbeats 4000000 in
theorem ract_none {g : Nat} {ws : List (List UInt8)} {c : Int} (w : World) (h : Rdy g w ws) (hpw : popW ws = .error c) :
    Calls Tryz.prog 39 #[.pointer (some ⟨g, 0, none⟩)] w (ActEnd g ws w) := by
  have hgw : g < w.heap.size := by obtain ⟨A, c, hb, _⟩ := h.at_; exact hb.lt
  have Hgw := hide hgw
  have Hs0 := hide ((Chg.refl (fun _ => False) w).alloc (.cells #[.int .i64 0, .int .i64 0, .int .i64 0, .int .i64 0, .int .i64 0, .int .i64 0, .int .i64 0, .int .i64 0, .int .i64 0, .int .i64 0, .int .i64 0, .int .i64 0, .int .i64 0, .int .i64 0, .int .i64 0, .int .i64 0, .int .i64 0, .int .i64 0, .int .i64 0, .int .i64 0, .int .i64 0, .slice none 0 0] 38))
  have Hbz0 := hide (Blk.new w 38 #[.int .i64 0, .int .i64 0, .int .i64 0, .int .i64 0, .int .i64 0, .int .i64 0, .int .i64 0, .int .i64 0, .int .i64 0, .int .i64 0, .int .i64 0, .int .i64 0, .int .i64 0, .int .i64 0, .int .i64 0, .int .i64 0, .int .i64 0, .int .i64 0, .int .i64 0, .int .i64 0, .int .i64 0, .slice none 0 0])
  have HQ := hide (words_any _ (tab_sm h.tab Hs0.out))
  unfold WdsEnd at HQ
  simp only [World.size_alloc] at HQ
  have HW := hide (fun w' (hs : Same w w') => rword_err w' (h.at_.same hs) hpw)
  have HE := hide (fun w' (hs : Same w w') => (show ActEnd g ws w (.panicked (fault 0 c)) w' from ⟨.inr ⟨c, by unfold actW; rw [hpw], rfl⟩, Same.to hs⟩))
  clear h hpw
  generalize ActEnd g ws w = Q at *
  go_enter Tryz.func39, Tryz.ntmps39
  go_wp2_with (first
    | (go_at_call 55; (refine HQ.out.mono ?_); rintro e w1 ⟨rfl, hw1⟩; have Hs1 := hide (show Same w w1 from hw1 ▸ Chg.alloc Hs0.out _); have Hbz1 := hide (show Blk w1 w.heap.size 38 #[.int .i64 0, .int .i64 0, .int .i64 0, .int .i64 0, .int .i64 0, .int .i64 0, .int .i64 0, .int .i64 0, .int .i64 0, .int .i64 0, .int .i64 0, .int .i64 0, .int .i64 0, .int .i64 0, .int .i64 0, .int .i64 0, .int .i64 0, .int .i64 0, .int .i64 0, .int .i64 0, .int .i64 0, .slice none 0 0] from hw1 ▸ Blk.alloc Hbz0.out _); have Hbw1 := hide (show Blk w1 (w.heap.size + 1) 9 (wds wordsA).toArray by rw [hw1]; have h := Blk.new (w.alloc (.cells #[.int .i64 0, .int .i64 0, .int .i64 0, .int .i64 0, .int .i64 0, .int .i64 0, .int .i64 0, .int .i64 0, .int .i64 0, .int .i64 0, .int .i64 0, .int .i64 0, .int .i64 0, .int .i64 0, .int .i64 0, .int .i64 0, .int .i64 0, .int .i64 0, .int .i64 0, .int .i64 0, .int .i64 0, .slice none 0 0] 38)) 9 (wds wordsA).toArray; rw [World.size_alloc] at h; exact h); clear hw1)
    | (go_at_call 56; (refine (HW.out _ Hs1.out).mono ?_); rintro e w2 ⟨rfl, hs2⟩; have Hs2 := hide (Same.trans Hs1.out hs2); clear hs2)
    | fail)
  exact ⟨rfl, HE.out _ Hs2.out⟩
set_option maxRecDepth 100000 in
set_option maxHeartbeats 4000000 in
theorem ract_id_bad {g : Nat} {ws l : List (List UInt8)} {x : List UInt8} {c p : Int} (w : World) (h : Rdy g w ws) (hpw : popW ws = .ok (x, l)) (hp : placeOf wordsA x = p) (h4 : ¬ p = 4) (hi : popI l = .error c) :
    Calls Tryz.prog 39 #[.pointer (some ⟨g, 0, none⟩)] w (ActEnd g ws w) := by
  have hgw : g < w.heap.size := by obtain ⟨A, c, hb, _⟩ := h.at_; exact hb.lt
  have Hgw := hide hgw
  have Hs0 := hide ((Chg.refl (fun _ => False) w).alloc (.cells #[.int .i64 0, .int .i64 0, .int .i64 0, .int .i64 0, .int .i64 0, .int .i64 0, .int .i64 0, .int .i64 0, .int .i64 0, .int .i64 0, .int .i64 0, .int .i64 0, .int .i64 0, .int .i64 0, .int .i64 0, .int .i64 0, .int .i64 0, .int .i64 0, .int .i64 0, .int .i64 0, .int .i64 0, .slice none 0 0] 38))
  have Hbz0 := hide (Blk.new w 38 #[.int .i64 0, .int .i64 0, .int .i64 0, .int .i64 0, .int .i64 0, .int .i64 0, .int .i64 0, .int .i64 0, .int .i64 0, .int .i64 0, .int .i64 0, .int .i64 0, .int .i64 0, .int .i64 0, .int .i64 0, .int .i64 0, .int .i64 0, .int .i64 0, .int .i64 0, .int .i64 0, .int .i64 0, .slice none 0 0])
  have HQ := hide (words_any _ (tab_sm h.tab Hs0.out))
  unfold WdsEnd at HQ
  simp only [World.size_alloc] at HQ
  have HW := hide (fun w' (hs : Same w w') => rword_pop w' (h.at_.same hs) hpw)
  have HIx := hide (fun (w' : World) (gw : Nat) (hb : Blk w' gw 9 (wds wordsA).toArray) => index_any wordsA x gw w' hb (by decide))
  rw [hp] at HIx
  have hin := place_inA x
  rw [hp] at hin
  obtain ⟨hin0, hin5⟩ := hin
  have HI := hide (fun w' (hc : Chg (fun k => k = g) w w') (hr : RdrAt w' g l) => have r := h.next hc hr (by cases ws with | nil => simp [popW] at hpw | cons y r => (simp [popW] at hpw; obtain ⟨rfl, rfl⟩ := hpw; exact h.fit.tail)); rint_err w' r.at_ r.err r.far r.fit hi)
  have HE := hide (fun w' (hs : Chg (fun k => k = g) w w') => (show ActEnd g ws w (.panicked (fault 0 c)) w' from ⟨.inr ⟨c, by unfold actW; rw [hpw]; simp [hp, h4, hi], rfl⟩, hs⟩))
  have b4 : (p == 4) = false := by simpa using h4
  clear h hpw hp hi
  generalize ActEnd g ws w = Q at *
  go_enter Tryz.func39, Tryz.ntmps39
  go_wp2_with (first
    | (go_at_call 55; (refine HQ.out.mono ?_); rintro e w1 ⟨rfl, hw1⟩; have Hs1 := hide (show Same w w1 from hw1 ▸ Chg.alloc Hs0.out _); have Hbz1 := hide (show Blk w1 w.heap.size 38 #[.int .i64 0, .int .i64 0, .int .i64 0, .int .i64 0, .int .i64 0, .int .i64 0, .int .i64 0, .int .i64 0, .int .i64 0, .int .i64 0, .int .i64 0, .int .i64 0, .int .i64 0, .int .i64 0, .int .i64 0, .int .i64 0, .int .i64 0, .int .i64 0, .int .i64 0, .int .i64 0, .int .i64 0, .slice none 0 0] from hw1 ▸ Blk.alloc Hbz0.out _); have Hbw1 := hide (show Blk w1 (w.heap.size + 1) 9 (wds wordsA).toArray by rw [hw1]; have h := Blk.new (w.alloc (.cells #[.int .i64 0, .int .i64 0, .int .i64 0, .int .i64 0, .int .i64 0, .int .i64 0, .int .i64 0, .int .i64 0, .int .i64 0, .int .i64 0, .int .i64 0, .int .i64 0, .int .i64 0, .int .i64 0, .int .i64 0, .int .i64 0, .int .i64 0, .int .i64 0, .int .i64 0, .int .i64 0, .int .i64 0, .slice none 0 0] 38)) 9 (wds wordsA).toArray; rw [World.size_alloc] at h; exact h); clear hw1)
    | (go_at_call 56; (refine (HW.out _ Hs1.out).mono ?_); rintro e w2 ⟨rfl, hc2, hr2⟩; have Hr2 := hide hr2; have Hc2 := hide (Chg.trans (Same.to (S := fun k => k = g) Hs1.out) hc2 (fun _ _ h => h)); have Hbz2 := hide (Hbz1.out.chg hc2 (by have := Hgw.out; show ¬ w.heap.size = g; omega)); have Hbw2 := hide (Hbw1.out.chg hc2 (by have := Hgw.out; show ¬ w.heap.size + 1 = g; omega)); have hga : ¬ w2.heap.size = g := (by have := Hgw.out; have := Hc2.out.size; omega); have Hga := hide hga; have hgz : ¬ w2.heap.size = w.heap.size := (by have := Hc2.out.size; have := Hbz2.out.lt; omega); have Hgz := hide hgz; clear hr2 hc2 hga hgz)
    | (go_at_call 54; (refine (HIx.out _ _ Hbw2.out).mono ?_); rintro e w3 ⟨rfl, hw3⟩; subst hw3)
    | (refine wpList_st (by rfl) 38 _ _ rfl rfl (acW p 0 0 (rqL rqz) (.slice none 0 0)) rfl _ _ (by rw [acW_len (rqL_len rqz)]; exact infoAct) (by rw [acW_len (rqL_len rqz)]; rfl) (one_acW _ _ _ (one_rqL rqz) rfl) ?_; have hb3 := Blk.new w2 38 (acW p 0 0 (rqL rqz) (.slice none 0 0)).toArray; have hs3 := (Chg.refl (fun _ => False) w2).alloc (.cells (acW p 0 0 (rqL rqz) (.slice none 0 0)).toArray 38); generalize w2.alloc (.cells (acW p 0 0 (rqL rqz) (.slice none 0 0)).toArray 38) = w3 at hb3 hs3 ⊢; have Hb3 := hide hb3; have Hs3 := hide hs3; have hk30 := hb3.cell 0; rw [acW_get0] at hk30; clear hb3 hs3)
    | (go_at_call 57; (with_reducible refine (HI.out _ (Chg.same Hc2.out Hs3.out) (Hr2.out.same Hs3.out)).mono ?_); rintro e w4 ⟨rfl, hc4⟩; have Hc4 := hide (Chg.trans (Chg.same Hc2.out Hs3.out) hc4 (fun _ _ h => h)); clear hc4)
    | fail)
  exact ⟨rfl, HE.out _ Hc4.out⟩
set_option maxRecDepth 100000 in
set_option maxHeartbeats 4000000 in
theorem ract_clean_bad {g : Nat} {ws l : List (List UInt8)} {x : List UInt8} {c : Int} (w : World) (h : Rdy g w ws) (hpw : popW ws = .ok (x, l)) (hp : placeOf wordsA x = 4) (hi : popI l = .error c) :
    Calls Tryz.prog 39 #[.pointer (some ⟨g, 0, none⟩)] w (ActEnd g ws w) := by
  have hgw : g < w.heap.size := by obtain ⟨A, c, hb, _⟩ := h.at_; exact hb.lt
  have Hgw := hide hgw
  have Hs0 := hide ((Chg.refl (fun _ => False) w).alloc (.cells #[.int .i64 0, .int .i64 0, .int .i64 0, .int .i64 0, .int .i64 0, .int .i64 0, .int .i64 0, .int .i64 0, .int .i64 0, .int .i64 0, .int .i64 0, .int .i64 0, .int .i64 0, .int .i64 0, .int .i64 0, .int .i64 0, .int .i64 0, .int .i64 0, .int .i64 0, .int .i64 0, .int .i64 0, .slice none 0 0] 38))
  have Hbz0 := hide (Blk.new w 38 #[.int .i64 0, .int .i64 0, .int .i64 0, .int .i64 0, .int .i64 0, .int .i64 0, .int .i64 0, .int .i64 0, .int .i64 0, .int .i64 0, .int .i64 0, .int .i64 0, .int .i64 0, .int .i64 0, .int .i64 0, .int .i64 0, .int .i64 0, .int .i64 0, .int .i64 0, .int .i64 0, .int .i64 0, .slice none 0 0])
  have HQ := hide (words_any _ (tab_sm h.tab Hs0.out))
  unfold WdsEnd at HQ
  simp only [World.size_alloc] at HQ
  have HW := hide (fun w' (hs : Same w w') => rword_pop w' (h.at_.same hs) hpw)
  have HIx := hide (fun (w' : World) (gw : Nat) (hb : Blk w' gw 9 (wds wordsA).toArray) => index_any wordsA x gw w' hb (by decide))
  rw [hp] at HIx
  have HI := hide (fun w' (hc : Chg (fun k => k = g) w w') (hr : RdrAt w' g l) => have r := h.next hc hr (by cases ws with | nil => simp [popW] at hpw | cons y r => (simp [popW] at hpw; obtain ⟨rfl, rfl⟩ := hpw; exact h.fit.tail)); rint_err w' r.at_ r.err r.far r.fit hi)
  have HE := hide (fun w' (hs : Chg (fun k => k = g) w w') => (show ActEnd g ws w (.panicked (fault 0 c)) w' from ⟨.inr ⟨c, by unfold actW; rw [hpw]; simp [hp, hi], rfl⟩, hs⟩))
  clear h hpw hp hi
  generalize ActEnd g ws w = Q at *
  go_enter Tryz.func39, Tryz.ntmps39
  go_wp2_with (first
    | (go_at_call 55; (refine HQ.out.mono ?_); rintro e w1 ⟨rfl, hw1⟩; have Hs1 := hide (show Same w w1 from hw1 ▸ Chg.alloc Hs0.out _); have Hbz1 := hide (show Blk w1 w.heap.size 38 #[.int .i64 0, .int .i64 0, .int .i64 0, .int .i64 0, .int .i64 0, .int .i64 0, .int .i64 0, .int .i64 0, .int .i64 0, .int .i64 0, .int .i64 0, .int .i64 0, .int .i64 0, .int .i64 0, .int .i64 0, .int .i64 0, .int .i64 0, .int .i64 0, .int .i64 0, .int .i64 0, .int .i64 0, .slice none 0 0] from hw1 ▸ Blk.alloc Hbz0.out _); have Hbw1 := hide (show Blk w1 (w.heap.size + 1) 9 (wds wordsA).toArray by rw [hw1]; have h := Blk.new (w.alloc (.cells #[.int .i64 0, .int .i64 0, .int .i64 0, .int .i64 0, .int .i64 0, .int .i64 0, .int .i64 0, .int .i64 0, .int .i64 0, .int .i64 0, .int .i64 0, .int .i64 0, .int .i64 0, .int .i64 0, .int .i64 0, .int .i64 0, .int .i64 0, .int .i64 0, .int .i64 0, .int .i64 0, .int .i64 0, .slice none 0 0] 38)) 9 (wds wordsA).toArray; rw [World.size_alloc] at h; exact h); clear hw1)
    | (go_at_call 56; (refine (HW.out _ Hs1.out).mono ?_); rintro e w2 ⟨rfl, hc2, hr2⟩; have Hr2 := hide hr2; have Hc2 := hide (Chg.trans (Same.to (S := fun k => k = g) Hs1.out) hc2 (fun _ _ h => h)); have Hbz2 := hide (Hbz1.out.chg hc2 (by have := Hgw.out; show ¬ w.heap.size = g; omega)); have Hbw2 := hide (Hbw1.out.chg hc2 (by have := Hgw.out; show ¬ w.heap.size + 1 = g; omega)); have hga : ¬ w2.heap.size = g := (by have := Hgw.out; have := Hc2.out.size; omega); have Hga := hide hga; have hgz : ¬ w2.heap.size = w.heap.size := (by have := Hc2.out.size; have := Hbz2.out.lt; omega); have Hgz := hide hgz; clear hr2 hc2 hga hgz)
    | (go_at_call 54; (refine (HIx.out _ _ Hbw2.out).mono ?_); rintro e w3 ⟨rfl, hw3⟩; subst hw3)
    | (refine wpList_st (by rfl) 38 _ _ rfl rfl (acW 4 0 0 (rqL rqz) (.slice none 0 0)) rfl _ _ (by rw [acW_len (rqL_len rqz)]; exact infoAct) (by rw [acW_len (rqL_len rqz)]; rfl) (one_acW _ _ _ (one_rqL rqz) rfl) ?_; have hb3 := Blk.new w2 38 (acW 4 0 0 (rqL rqz) (.slice none 0 0)).toArray; have hs3 := (Chg.refl (fun _ => False) w2).alloc (.cells (acW 4 0 0 (rqL rqz) (.slice none 0 0)).toArray 38); generalize w2.alloc (.cells (acW 4 0 0 (rqL rqz) (.slice none 0 0)).toArray 38) = w3 at hb3 hs3 ⊢; have Hb3 := hide hb3; have Hs3 := hide hs3; have hk30 := hb3.cell 0; rw [acW_get0] at hk30; clear hb3 hs3)
    | (go_at_call 57; (with_reducible refine (HI.out _ (Chg.same Hc2.out Hs3.out) (Hr2.out.same Hs3.out)).mono ?_); rintro e w4 ⟨rfl, hc4⟩; have Hc4 := hide (Chg.trans (Chg.same Hc2.out Hs3.out) hc4 (fun _ _ h => h)); clear hc4)
    | fail)
  exact ⟨rfl, HE.out _ Hc4.out⟩
set_option maxRecDepth 100000 in
set_option maxHeartbeats 8000000 in
theorem ract_clean {g : Nat} {ws l l1 : List (List UInt8)} {x : List UInt8} {n : Int} (w : World) (h : Rdy g w ws) (hpw : popW ws = .ok (x, l)) (hp : placeOf wordsA x = 4) (hi : popI l = .ok (n, l1)) :
    Calls Tryz.prog 39 #[.pointer (some ⟨g, 0, none⟩)] w (ActEnd g ws w) := by
  have hgw : g < w.heap.size := by obtain ⟨A, c, hb, _⟩ := h.at_; exact hb.lt
  have Hgw := hide hgw
  have Hs0 := hide ((Chg.refl (fun _ => False) w).alloc (.cells #[.int .i64 0, .int .i64 0, .int .i64 0, .int .i64 0, .int .i64 0, .int .i64 0, .int .i64 0, .int .i64 0, .int .i64 0, .int .i64 0, .int .i64 0, .int .i64 0, .int .i64 0, .int .i64 0, .int .i64 0, .int .i64 0, .int .i64 0, .int .i64 0, .int .i64 0, .int .i64 0, .int .i64 0, .slice none 0 0] 38))
  have Hbz0 := hide (Blk.new w 38 #[.int .i64 0, .int .i64 0, .int .i64 0, .int .i64 0, .int .i64 0, .int .i64 0, .int .i64 0, .int .i64 0, .int .i64 0, .int .i64 0, .int .i64 0, .int .i64 0, .int .i64 0, .int .i64 0, .int .i64 0, .int .i64 0, .int .i64 0, .int .i64 0, .int .i64 0, .int .i64 0, .int .i64 0, .slice none 0 0])
  have HQ := hide (words_any _ (tab_sm h.tab Hs0.out))
  unfold WdsEnd at HQ
  simp only [World.size_alloc] at HQ
  have HW := hide (fun w' (hs : Same w w') => rword_pop w' (h.at_.same hs) hpw)
  have HIx := hide (fun (w' : World) (gw : Nat) (hb : Blk w' gw 9 (wds wordsA).toArray) => index_any wordsA x gw w' hb (by decide))
  rw [hp] at HIx
  have HI := hide (fun w' (hc : Chg (fun k => k = g) w w') (hr : RdrAt w' g l) => have r := h.next hc hr (by cases ws with | nil => simp [popW] at hpw | cons y r => (simp [popW] at hpw; obtain ⟨rfl, rfl⟩ := hpw; exact h.fit.tail)); rint_pop w' r.at_ r.err r.far r.fit hi)
  have HE := hide (fun w' (hs : Chg (fun k => k = g) w w') => (show ActEnd g ws w (.returned (.agg (acW 4 0 n (rqL rqz) (.slice none 0 0)).toArray)) w' from ⟨.inl ⟨⟨4, 0, n, rqz, []⟩, none, 0, by unfold actW; rw [hpw]; simp [hp, hi], rfl, ⟨Rd.nil _ _, Nat.le_refl _, by decide⟩, by simp [blkOf]⟩, hs⟩))
  have HRz1 := hide (one_rqL rqz)
  clear h hpw hp hi
  generalize ActEnd g ws w = Q at *
  go_enter Tryz.func39, Tryz.ntmps39
  go_wp2_with (first
    | (go_at_call 55; (refine HQ.out.mono ?_); rintro e w1 ⟨rfl, hw1⟩; have Hs1 := hide (show Same w w1 from hw1 ▸ Chg.alloc Hs0.out _); have Hbz1 := hide (show Blk w1 w.heap.size 38 #[.int .i64 0, .int .i64 0, .int .i64 0, .int .i64 0, .int .i64 0, .int .i64 0, .int .i64 0, .int .i64 0, .int .i64 0, .int .i64 0, .int .i64 0, .int .i64 0, .int .i64 0, .int .i64 0, .int .i64 0, .int .i64 0, .int .i64 0, .int .i64 0, .int .i64 0, .int .i64 0, .int .i64 0, .slice none 0 0] from hw1 ▸ Blk.alloc Hbz0.out _); have Hbw1 := hide (show Blk w1 (w.heap.size + 1) 9 (wds wordsA).toArray by rw [hw1]; have h := Blk.new (w.alloc (.cells #[.int .i64 0, .int .i64 0, .int .i64 0, .int .i64 0, .int .i64 0, .int .i64 0, .int .i64 0, .int .i64 0, .int .i64 0, .int .i64 0, .int .i64 0, .int .i64 0, .int .i64 0, .int .i64 0, .int .i64 0, .int .i64 0, .int .i64 0, .int .i64 0, .int .i64 0, .int .i64 0, .int .i64 0, .slice none 0 0] 38)) 9 (wds wordsA).toArray; rw [World.size_alloc] at h; exact h); clear hw1)
    | (go_at_call 56; (refine (HW.out _ Hs1.out).mono ?_); rintro e w2 ⟨rfl, hc2, hr2⟩; have Hr2 := hide hr2; have Hc2 := hide (Chg.trans (Same.to (S := fun k => k = g) Hs1.out) hc2 (fun _ _ h => h)); have Hbz2 := hide (Hbz1.out.chg hc2 (by have := Hgw.out; show ¬ w.heap.size = g; omega)); have Hbw2 := hide (Hbw1.out.chg hc2 (by have := Hgw.out; show ¬ w.heap.size + 1 = g; omega)); have hga : ¬ w2.heap.size = g := (by have := Hgw.out; have := Hc2.out.size; omega); have Hga := hide hga; have hgz : ¬ w2.heap.size = w.heap.size := (by have := Hc2.out.size; have := Hbz2.out.lt; omega); have Hgz := hide hgz; clear hr2 hc2 hga hgz)
    | (go_at_call 54; (refine (HIx.out _ _ Hbw2.out).mono ?_); rintro e w3 ⟨rfl, hw3⟩; subst hw3)
    | (refine wpList_st (by rfl) 38 _ _ rfl rfl (acW 4 0 0 (rqL rqz) (.slice none 0 0)) rfl _ _ (by rw [acW_len (rqL_len rqz)]; exact infoAct) (by rw [acW_len (rqL_len rqz)]; rfl) (one_acW _ _ _ (one_rqL rqz) rfl) ?_; have hb3 := Blk.new w2 38 (acW 4 0 0 (rqL rqz) (.slice none 0 0)).toArray; have hs3 := (Chg.refl (fun _ => False) w2).alloc (.cells (acW 4 0 0 (rqL rqz) (.slice none 0 0)).toArray 38); generalize w2.alloc (.cells (acW 4 0 0 (rqL rqz) (.slice none 0 0)).toArray 38) = w3 at hb3 hs3 ⊢; have Hb3 := hide hb3; have Hs3 := hide hs3; have hk30 := hb3.cell 0; rw [acW_get0] at hk30; clear hb3 hs3)
    | (go_at_call 57; (with_reducible refine (HI.out _ (Chg.same Hc2.out Hs3.out) (Hr2.out.same Hs3.out)).mono ?_); rintro e w4 ⟨rfl, hc4, hr4⟩; have Hr4 := hide hr4; have Hc4 := hide (Chg.trans (Chg.same Hc2.out Hs3.out) hc4 (fun _ _ h => h)); have Hba4 := hide (Hb3.out.chg hc4 Hga.out); have Hbz4 := hide ((Hbz2.out.same Hs3.out).chg hc4 (by have := Hgw.out; show ¬ w.heap.size = g; omega)); have hka0 := Hba4.out.cell 0; rw [acW_get0] at hka0; have hka1 := Hba4.out.cell 1; rw [acW_get1] at hka1; have hka2 := Hba4.out.cell 2; rw [acW_get2] at hka2; have hfa := Hba4.out.frozen; clear hr4 hc4; have Hw24 := hide (show w.heap.size ≤ w2.heap.size from Hc2.out.size); have Hba5 := hide (show Blk (w4.setCell ⟨w2.heap.size, 2, none⟩ (.int .i64 n)) w2.heap.size 38 (acW 4 0 n (rqL rqz) (.slice none 0 0)).toArray from (by have h9 := Hba4.out.set_ 2 (.int .i64 n); rwa [acW_set2] at h9)); have Hbz5 := hide (Hbz4.out.far (p := ⟨w2.heap.size, 2, none⟩) (fun e => Hgz.out e.symm) (.int .i64 n)); have Hc5 := hide (Chg.setCell Hc4.out (p := ⟨w2.heap.size, 2, none⟩) (.inr Hw24.out) (.int .i64 n)); have Hr5 := hide (RdrAt.far Hr4.out Hba4.out (acW_noStr _ _ _ (rqL_noStr rqz) rfl) Hga.out (Chg.setCell (p := ⟨w2.heap.size, 2, none⟩) (Chg.refl (fun k => k = w2.heap.size) w4) (.inl rfl) (.int .i64 n))))
    | (refine wpList_ld (by rfl) 38 _ rfl w2.heap.size 0 rfl _ _ (blk_range Hba5.out) Tryz.underlying38 rfl (by rw [acW_len (rqL_len rqz)]; exact infoAct) ?_)
    | (refine wpList_store_row (by rfl) 38 _ _ rfl w.heap.size _ rfl rfl 38 _ Hbz5.out (by rw [List.size_toArray, acW_len (rqL_len rqz)]; exact infoAct) (show (22 : Nat) = _ by rw [List.size_toArray, acW_len (rqL_len rqz)]) (all_oneCell_toArray (one_acW _ _ _ HRz1.out rfl)) ?_)
    | fail)
  refine bodyPost_ret (results_cell_row rfl _ _ _ _ _ _ _ rfl (Blk.setRow_ Hbz5.out _) Tryz.underlying38 rfl (by rw [List.size_toArray, acW_len (rqL_len rqz)]; exact infoAct)) (by rfl) ?_
  exact HE.out _ (Chg.setRow Hc5.out (.inr (Nat.le_refl _)) _)
set_option maxRecDepth 100000 in
set_option maxHeartbeats 8000000 in
theorem ract_noneword {g : Nat} {ws l l1 : List (List UInt8)} {x : List UInt8} {id : Int} (w : World) (h : Rdy g w ws) (hpw : popW ws = .ok (x, l)) (hp : placeOf wordsA x = 0) (hi : popI l = .ok (id, l1)) :
    Calls Tryz.prog 39 #[.pointer (some ⟨g, 0, none⟩)] w (ActEnd g ws w) := by
  have hgw : g < w.heap.size := by obtain ⟨A, c, hb, _⟩ := h.at_; exact hb.lt
  have Hgw := hide hgw
  have Hs0 := hide ((Chg.refl (fun _ => False) w).alloc (.cells #[.int .i64 0, .int .i64 0, .int .i64 0, .int .i64 0, .int .i64 0, .int .i64 0, .int .i64 0, .int .i64 0, .int .i64 0, .int .i64 0, .int .i64 0, .int .i64 0, .int .i64 0, .int .i64 0, .int .i64 0, .int .i64 0, .int .i64 0, .int .i64 0, .int .i64 0, .int .i64 0, .int .i64 0, .slice none 0 0] 38))
  have Hbz0 := hide (Blk.new w 38 #[.int .i64 0, .int .i64 0, .int .i64 0, .int .i64 0, .int .i64 0, .int .i64 0, .int .i64 0, .int .i64 0, .int .i64 0, .int .i64 0, .int .i64 0, .int .i64 0, .int .i64 0, .int .i64 0, .int .i64 0, .int .i64 0, .int .i64 0, .int .i64 0, .int .i64 0, .int .i64 0, .int .i64 0, .slice none 0 0])
  have HQ := hide (words_any _ (tab_sm h.tab Hs0.out))
  unfold WdsEnd at HQ
  simp only [World.size_alloc] at HQ
  have HW := hide (fun w' (hs : Same w w') => rword_pop w' (h.at_.same hs) hpw)
  have HIx := hide (fun (w' : World) (gw : Nat) (hb : Blk w' gw 9 (wds wordsA).toArray) => index_any wordsA x gw w' hb (by decide))
  rw [hp] at HIx
  have HI := hide (fun w' (hc : Chg (fun k => k = g) w w') (hr : RdrAt w' g l) => have r := h.next hc hr (by cases ws with | nil => simp [popW] at hpw | cons y r => (simp [popW] at hpw; obtain ⟨rfl, rfl⟩ := hpw; exact h.fit.tail)); rint_pop w' r.at_ r.err r.far r.fit hi)
  have HE := hide (fun w' (hs : Chg (fun k => k = g) w w') => (show ActEnd g ws w (.returned (.agg (acW 0 id 0 (rqL rqz) (.slice none 0 0)).toArray)) w' from ⟨.inl ⟨⟨0, id, 0, rqz, []⟩, none, 0, by unfold actW; rw [hpw]; simp [hp, hi], rfl, ⟨Rd.nil _ _, Nat.le_refl _, by decide⟩, by simp [blkOf]⟩, hs⟩))
  have HRz1 := hide (one_rqL rqz)
  clear h hpw hp hi
  generalize ActEnd g ws w = Q at *
  go_enter Tryz.func39, Tryz.ntmps39
  go_wp2_with (first
    | (go_at_call 55; (refine HQ.out.mono ?_); rintro e w1 ⟨rfl, hw1⟩; have Hs1 := hide (show Same w w1 from hw1 ▸ Chg.alloc Hs0.out _); have Hbz1 := hide (show Blk w1 w.heap.size 38 #[.int .i64 0, .int .i64 0, .int .i64 0, .int .i64 0, .int .i64 0, .int .i64 0, .int .i64 0, .int .i64 0, .int .i64 0, .int .i64 0, .int .i64 0, .int .i64 0, .int .i64 0, .int .i64 0, .int .i64 0, .int .i64 0, .int .i64 0, .int .i64 0, .int .i64 0, .int .i64 0, .int .i64 0, .slice none 0 0] from hw1 ▸ Blk.alloc Hbz0.out _); have Hbw1 := hide (show Blk w1 (w.heap.size + 1) 9 (wds wordsA).toArray by rw [hw1]; have h := Blk.new (w.alloc (.cells #[.int .i64 0, .int .i64 0, .int .i64 0, .int .i64 0, .int .i64 0, .int .i64 0, .int .i64 0, .int .i64 0, .int .i64 0, .int .i64 0, .int .i64 0, .int .i64 0, .int .i64 0, .int .i64 0, .int .i64 0, .int .i64 0, .int .i64 0, .int .i64 0, .int .i64 0, .int .i64 0, .int .i64 0, .slice none 0 0] 38)) 9 (wds wordsA).toArray; rw [World.size_alloc] at h; exact h); clear hw1)
    | (go_at_call 56; (refine (HW.out _ Hs1.out).mono ?_); rintro e w2 ⟨rfl, hc2, hr2⟩; have Hr2 := hide hr2; have Hc2 := hide (Chg.trans (Same.to (S := fun k => k = g) Hs1.out) hc2 (fun _ _ h => h)); have Hbz2 := hide (Hbz1.out.chg hc2 (by have := Hgw.out; show ¬ w.heap.size = g; omega)); have Hbw2 := hide (Hbw1.out.chg hc2 (by have := Hgw.out; show ¬ w.heap.size + 1 = g; omega)); have hga : ¬ w2.heap.size = g := (by have := Hgw.out; have := Hc2.out.size; omega); have Hga := hide hga; have hgz : ¬ w2.heap.size = w.heap.size := (by have := Hc2.out.size; have := Hbz2.out.lt; omega); have Hgz := hide hgz; clear hr2 hc2 hga hgz)
    | (go_at_call 54; (refine (HIx.out _ _ Hbw2.out).mono ?_); rintro e w3 ⟨rfl, hw3⟩; subst hw3)
    | (refine wpList_st (by rfl) 38 _ _ rfl rfl (acW 0 0 0 (rqL rqz) (.slice none 0 0)) rfl _ _ (by rw [acW_len (rqL_len rqz)]; exact infoAct) (by rw [acW_len (rqL_len rqz)]; rfl) (one_acW _ _ _ (one_rqL rqz) rfl) ?_; have hb3 := Blk.new w2 38 (acW 0 0 0 (rqL rqz) (.slice none 0 0)).toArray; have hs3 := (Chg.refl (fun _ => False) w2).alloc (.cells (acW 0 0 0 (rqL rqz) (.slice none 0 0)).toArray 38); generalize w2.alloc (.cells (acW 0 0 0 (rqL rqz) (.slice none 0 0)).toArray 38) = w3 at hb3 hs3 ⊢; have Hb3 := hide hb3; have Hs3 := hide hs3; have hk30 := hb3.cell 0; rw [acW_get0] at hk30; clear hb3 hs3)
    | (go_at_call 57; (with_reducible refine (HI.out _ (Chg.same Hc2.out Hs3.out) (Hr2.out.same Hs3.out)).mono ?_); rintro e w4 ⟨rfl, hc4, hr4⟩; have Hr4 := hide hr4; have Hc4 := hide (Chg.trans (Chg.same Hc2.out Hs3.out) hc4 (fun _ _ h => h)); have Hba4 := hide (Hb3.out.chg hc4 Hga.out); have Hbz4 := hide ((Hbz2.out.same Hs3.out).chg hc4 (by have := Hgw.out; show ¬ w.heap.size = g; omega)); have hka0 := Hba4.out.cell 0; rw [acW_get0] at hka0; have hka1 := Hba4.out.cell 1; rw [acW_get1] at hka1; have hka2 := Hba4.out.cell 2; rw [acW_get2] at hka2; have hfa := Hba4.out.frozen; clear hr4 hc4; have Hw24 := hide (show w.heap.size ≤ w2.heap.size from Hc2.out.size); have Hba5 := hide (show Blk (w4.setCell ⟨w2.heap.size, 1, none⟩ (.int .i64 id)) w2.heap.size 38 (acW 0 id 0 (rqL rqz) (.slice none 0 0)).toArray from (by have h9 := Hba4.out.set_ 1 (.int .i64 id); rwa [acW_set1] at h9)); have Hbz5 := hide (Hbz4.out.far (p := ⟨w2.heap.size, 1, none⟩) (fun e => Hgz.out e.symm) (.int .i64 id)); have Hc5 := hide (Chg.setCell Hc4.out (p := ⟨w2.heap.size, 1, none⟩) (.inr Hw24.out) (.int .i64 id)); have Hr5 := hide (RdrAt.far Hr4.out Hba4.out (acW_noStr _ _ _ (rqL_noStr rqz) rfl) Hga.out (Chg.setCell (p := ⟨w2.heap.size, 1, none⟩) (Chg.refl (fun k => k = w2.heap.size) w4) (.inl rfl) (.int .i64 id))))
    | (refine wpList_ld (by rfl) 38 _ rfl w2.heap.size 0 rfl _ _ (blk_range Hba5.out) Tryz.underlying38 rfl (by rw [acW_len (rqL_len rqz)]; exact infoAct) ?_)
    | (refine wpList_store_row (by rfl) 38 _ _ rfl w.heap.size _ rfl rfl 38 _ Hbz5.out (by rw [List.size_toArray, acW_len (rqL_len rqz)]; exact infoAct) (show (22 : Nat) = _ by rw [List.size_toArray, acW_len (rqL_len rqz)]) (all_oneCell_toArray (one_acW _ _ _ HRz1.out rfl)) ?_)
    | fail)
  refine bodyPost_ret (results_cell_row rfl _ _ _ _ _ _ _ rfl (Blk.setRow_ Hbz5.out _) Tryz.underlying38 rfl (by rw [List.size_toArray, acW_len (rqL_len rqz)]; exact infoAct)) (by rfl) ?_
  exact HE.out _ (Chg.setRow Hc5.out (.inr (Nat.le_refl _)) _)
set_option maxRecDepth 100000 in
set_option maxHeartbeats 8000000 in
theorem ract_abort {g : Nat} {ws l l1 : List (List UInt8)} {x : List UInt8} {id : Int} (w : World) (h : Rdy g w ws) (hpw : popW ws = .ok (x, l)) (hp : placeOf wordsA x = 3) (hi : popI l = .ok (id, l1)) :
    Calls Tryz.prog 39 #[.pointer (some ⟨g, 0, none⟩)] w (ActEnd g ws w) := by
  have hgw : g < w.heap.size := by obtain ⟨A, c, hb, _⟩ := h.at_; exact hb.lt
  have Hgw := hide hgw
  have Hs0 := hide ((Chg.refl (fun _ => False) w).alloc (.cells #[.int .i64 0, .int .i64 0, .int .i64 0, .int .i64 0, .int .i64 0, .int .i64 0, .int .i64 0, .int .i64 0, .int .i64 0, .int .i64 0, .int .i64 0, .int .i64 0, .int .i64 0, .int .i64 0, .int .i64 0, .int .i64 0, .int .i64 0, .int .i64 0, .int .i64 0, .int .i64 0, .int .i64 0, .slice none 0 0] 38))
  have Hbz0 := hide (Blk.new w 38 #[.int .i64 0, .int .i64 0, .int .i64 0, .int .i64 0, .int .i64 0, .int .i64 0, .int .i64 0, .int .i64 0, .int .i64 0, .int .i64 0, .int .i64 0, .int .i64 0, .int .i64 0, .int .i64 0, .int .i64 0, .int .i64 0, .int .i64 0, .int .i64 0, .int .i64 0, .int .i64 0, .int .i64 0, .slice none 0 0])
  have HQ := hide (words_any _ (tab_sm h.tab Hs0.out))
  unfold WdsEnd at HQ
  simp only [World.size_alloc] at HQ
  have HW := hide (fun w' (hs : Same w w') => rword_pop w' (h.at_.same hs) hpw)
  have HIx := hide (fun (w' : World) (gw : Nat) (hb : Blk w' gw 9 (wds wordsA).toArray) => index_any wordsA x gw w' hb (by decide))
  rw [hp] at HIx
  have HI := hide (fun w' (hc : Chg (fun k => k = g) w w') (hr : RdrAt w' g l) => have r := h.next hc hr (by cases ws with | nil => simp [popW] at hpw | cons y r => (simp [popW] at hpw; obtain ⟨rfl, rfl⟩ := hpw; exact h.fit.tail)); rint_pop w' r.at_ r.err r.far r.fit hi)
  have HE := hide (fun w' (hs : Chg (fun k => k = g) w w') => (show ActEnd g ws w (.returned (.agg (acW 3 id 0 (rqL rqz) (.slice none 0 0)).toArray)) w' from ⟨.inl ⟨⟨3, id, 0, rqz, []⟩, none, 0, by unfold actW; rw [hpw]; simp [hp, hi], rfl, ⟨Rd.nil _ _, Nat.le_refl _, by decide⟩, by simp [blkOf]⟩, hs⟩))
  have HRz1 := hide (one_rqL rqz)
  clear h hpw hp hi
  generalize ActEnd g ws w = Q at *
  go_enter Tryz.func39, Tryz.ntmps39
  go_wp2_with (first
    | (go_at_call 55; (refine HQ.out.mono ?_); rintro e w1 ⟨rfl, hw1⟩; have Hs1 := hide (show Same w w1 from hw1 ▸ Chg.alloc Hs0.out _); have Hbz1 := hide (show Blk w1 w.heap.size 38 #[.int .i64 0, .int .i64 0, .int .i64 0, .int .i64 0, .int .i64 0, .int .i64 0, .int .i64 0, .int .i64 0, .int .i64 0, .int .i64 0, .int .i64 0, .int .i64 0, .int .i64 0, .int .i64 0, .int .i64 0, .int .i64 0, .int .i64 0, .int .i64 0, .int .i64 0, .int .i64 0, .int .i64 0, .slice none 0 0] from hw1 ▸ Blk.alloc Hbz0.out _); have Hbw1 := hide (show Blk w1 (w.heap.size + 1) 9 (wds wordsA).toArray by rw [hw1]; have h := Blk.new (w.alloc (.cells #[.int .i64 0, .int .i64 0, .int .i64 0, .int .i64 0, .int .i64 0, .int .i64 0, .int .i64 0, .int .i64 0, .int .i64 0, .int .i64 0, .int .i64 0, .int .i64 0, .int .i64 0, .int .i64 0, .int .i64 0, .int .i64 0, .int .i64 0, .int .i64 0, .int .i64 0, .int .i64 0, .int .i64 0, .slice none 0 0] 38)) 9 (wds wordsA).toArray; rw [World.size_alloc] at h; exact h); clear hw1)
    | (go_at_call 56; (refine (HW.out _ Hs1.out).mono ?_); rintro e w2 ⟨rfl, hc2, hr2⟩; have Hr2 := hide hr2; have Hc2 := hide (Chg.trans (Same.to (S := fun k => k = g) Hs1.out) hc2 (fun _ _ h => h)); have Hbz2 := hide (Hbz1.out.chg hc2 (by have := Hgw.out; show ¬ w.heap.size = g; omega)); have Hbw2 := hide (Hbw1.out.chg hc2 (by have := Hgw.out; show ¬ w.heap.size + 1 = g; omega)); have hga : ¬ w2.heap.size = g := (by have := Hgw.out; have := Hc2.out.size; omega); have Hga := hide hga; have hgz : ¬ w2.heap.size = w.heap.size := (by have := Hc2.out.size; have := Hbz2.out.lt; omega); have Hgz := hide hgz; clear hr2 hc2 hga hgz)
    | (go_at_call 54; (refine (HIx.out _ _ Hbw2.out).mono ?_); rintro e w3 ⟨rfl, hw3⟩; subst hw3)
    | (refine wpList_st (by rfl) 38 _ _ rfl rfl (acW 3 0 0 (rqL rqz) (.slice none 0 0)) rfl _ _ (by rw [acW_len (rqL_len rqz)]; exact infoAct) (by rw [acW_len (rqL_len rqz)]; rfl) (one_acW _ _ _ (one_rqL rqz) rfl) ?_; have hb3 := Blk.new w2 38 (acW 3 0 0 (rqL rqz) (.slice none 0 0)).toArray; have hs3 := (Chg.refl (fun _ => False) w2).alloc (.cells (acW 3 0 0 (rqL rqz) (.slice none 0 0)).toArray 38); generalize w2.alloc (.cells (acW 3 0 0 (rqL rqz) (.slice none 0 0)).toArray 38) = w3 at hb3 hs3 ⊢; have Hb3 := hide hb3; have Hs3 := hide hs3; have hk30 := hb3.cell 0; rw [acW_get0] at hk30; clear hb3 hs3)
    | (go_at_call 57; (with_reducible refine (HI.out _ (Chg.same Hc2.out Hs3.out) (Hr2.out.same Hs3.out)).mono ?_); rintro e w4 ⟨rfl, hc4, hr4⟩; have Hr4 := hide hr4; have Hc4 := hide (Chg.trans (Chg.same Hc2.out Hs3.out) hc4 (fun _ _ h => h)); have Hba4 := hide (Hb3.out.chg hc4 Hga.out); have Hbz4 := hide ((Hbz2.out.same Hs3.out).chg hc4 (by have := Hgw.out; show ¬ w.heap.size = g; omega)); have hka0 := Hba4.out.cell 0; rw [acW_get0] at hka0; have hka1 := Hba4.out.cell 1; rw [acW_get1] at hka1; have hka2 := Hba4.out.cell 2; rw [acW_get2] at hka2; have hfa := Hba4.out.frozen; clear hr4 hc4; have Hw24 := hide (show w.heap.size ≤ w2.heap.size from Hc2.out.size); have Hba5 := hide (show Blk (w4.setCell ⟨w2.heap.size, 1, none⟩ (.int .i64 id)) w2.heap.size 38 (acW 3 id 0 (rqL rqz) (.slice none 0 0)).toArray from (by have h9 := Hba4.out.set_ 1 (.int .i64 id); rwa [acW_set1] at h9)); have Hbz5 := hide (Hbz4.out.far (p := ⟨w2.heap.size, 1, none⟩) (fun e => Hgz.out e.symm) (.int .i64 id)); have Hc5 := hide (Chg.setCell Hc4.out (p := ⟨w2.heap.size, 1, none⟩) (.inr Hw24.out) (.int .i64 id)); have Hr5 := hide (RdrAt.far Hr4.out Hba4.out (acW_noStr _ _ _ (rqL_noStr rqz) rfl) Hga.out (Chg.setCell (p := ⟨w2.heap.size, 1, none⟩) (Chg.refl (fun k => k = w2.heap.size) w4) (.inl rfl) (.int .i64 id))))
    | (refine wpList_ld (by rfl) 38 _ rfl w2.heap.size 0 rfl _ _ (blk_range Hba5.out) Tryz.underlying38 rfl (by rw [acW_len (rqL_len rqz)]; exact infoAct) ?_)
    | (refine wpList_store_row (by rfl) 38 _ _ rfl w.heap.size _ rfl rfl 38 _ Hbz5.out (by rw [List.size_toArray, acW_len (rqL_len rqz)]; exact infoAct) (show (22 : Nat) = _ by rw [List.size_toArray, acW_len (rqL_len rqz)]) (all_oneCell_toArray (one_acW _ _ _ HRz1.out rfl)) ?_)
    | fail)
  refine bodyPost_ret (results_cell_row rfl _ _ _ _ _ _ _ rfl (Blk.setRow_ Hbz5.out _) Tryz.underlying38 rfl (by rw [List.size_toArray, acW_len (rqL_len rqz)]; exact infoAct)) (by rfl) ?_
  exact HE.out _ (Chg.setRow Hc5.out (.inr (Nat.le_refl _)) _)
set_option maxRecDepth 100000 in
set_option maxHeartbeats 8000000 in
theorem ract_step_bad {g : Nat} {ws l l1 : List (List UInt8)} {x : List UInt8} {id c : Int} (w : World) (h : Rdy g w ws) (hpw : popW ws = .ok (x, l)) (hp : placeOf wordsA x = 2) (hi : popI l = .ok (id, l1)) (hj : popI l1 = .error c) :
    Calls Tryz.prog 39 #[.pointer (some ⟨g, 0, none⟩)] w (ActEnd g ws w) := by
  have hgw : g < w.heap.size := by obtain ⟨A, c, hb, _⟩ := h.at_; exact hb.lt
  have Hgw := hide hgw
  have Hs0 := hide ((Chg.refl (fun _ => False) w).alloc (.cells #[.int .i64 0, .int .i64 0, .int .i64 0, .int .i64 0, .int .i64 0, .int .i64 0, .int .i64 0, .int .i64 0, .int .i64 0, .int .i64 0, .int .i64 0, .int .i64 0, .int .i64 0, .int .i64 0, .int .i64 0, .int .i64 0, .int .i64 0, .int .i64 0, .int .i64 0, .int .i64 0, .int .i64 0, .slice none 0 0] 38))
  have Hbz0 := hide (Blk.new w 38 #[.int .i64 0, .int .i64 0, .int .i64 0, .int .i64 0, .int .i64 0, .int .i64 0, .int .i64 0, .int .i64 0, .int .i64 0, .int .i64 0, .int .i64 0, .int .i64 0, .int .i64 0, .int .i64 0, .int .i64 0, .int .i64 0, .int .i64 0, .int .i64 0, .int .i64 0, .int .i64 0, .int .i64 0, .slice none 0 0])
  have HQ := hide (words_any _ (tab_sm h.tab Hs0.out))
  unfold WdsEnd at HQ
  simp only [World.size_alloc] at HQ
  have HW := hide (fun w' (hs : Same w w') => rword_pop w' (h.at_.same hs) hpw)
  have HIx := hide (fun (w' : World) (gw : Nat) (hb : Blk w' gw 9 (wds wordsA).toArray) => index_any wordsA x gw w' hb (by decide))
  rw [hp] at HIx
  have HI := hide (fun w' (hc : Chg (fun k => k = g) w w') (hr : RdrAt w' g l) => have r := h.next hc hr (by cases ws with | nil => simp [popW] at hpw | cons y r => (simp [popW] at hpw; obtain ⟨rfl, rfl⟩ := hpw; exact h.fit.tail)); rint_pop w' r.at_ r.err r.far r.fit hi)
  have HJ := hide (fun w' (hc : Chg (fun k => k = g) w w') (hr : RdrAt w' g l1) => have r := h.next hc hr (FitW.popI (by cases ws with | nil => simp [popW] at hpw | cons y r => (simp [popW] at hpw; obtain ⟨rfl, rfl⟩ := hpw; exact h.fit.tail)) hi); rint_err w' r.at_ r.err r.far r.fit hj)
  have HE := hide (fun w' (hs : Chg (fun k => k = g) w w') => (show ActEnd g ws w (.panicked (fault 0 c)) w' from ⟨.inr ⟨c, by unfold actW; rw [hpw]; simp [hp, hi, hj], rfl⟩, hs⟩))
  clear h hpw hp hi hj
  generalize ActEnd g ws w = Q at *
  go_enter Tryz.func39, Tryz.ntmps39
  go_wp2_with (first
    | (go_at_call 55; (refine HQ.out.mono ?_); rintro e w1 ⟨rfl, hw1⟩; have Hs1 := hide (show Same w w1 from hw1 ▸ Chg.alloc Hs0.out _); have Hbz1 := hide (show Blk w1 w.heap.size 38 #[.int .i64 0, .int .i64 0, .int .i64 0, .int .i64 0, .int .i64 0, .int .i64 0, .int .i64 0, .int .i64 0, .int .i64 0, .int .i64 0, .int .i64 0, .int .i64 0, .int .i64 0, .int .i64 0, .int .i64 0, .int .i64 0, .int .i64 0, .int .i64 0, .int .i64 0, .int .i64 0, .int .i64 0, .slice none 0 0] from hw1 ▸ Blk.alloc Hbz0.out _); have Hbw1 := hide (show Blk w1 (w.heap.size + 1) 9 (wds wordsA).toArray by rw [hw1]; have h := Blk.new (w.alloc (.cells #[.int .i64 0, .int .i64 0, .int .i64 0, .int .i64 0, .int .i64 0, .int .i64 0, .int .i64 0, .int .i64 0, .int .i64 0, .int .i64 0, .int .i64 0, .int .i64 0, .int .i64 0, .int .i64 0, .int .i64 0, .int .i64 0, .int .i64 0, .int .i64 0, .int .i64 0, .int .i64 0, .int .i64 0, .slice none 0 0] 38)) 9 (wds wordsA).toArray; rw [World.size_alloc] at h; exact h); clear hw1)
    | (go_at_call 56; (refine (HW.out _ Hs1.out).mono ?_); rintro e w2 ⟨rfl, hc2, hr2⟩; have Hr2 := hide hr2; have Hc2 := hide (Chg.trans (Same.to (S := fun k => k = g) Hs1.out) hc2 (fun _ _ h => h)); have Hbz2 := hide (Hbz1.out.chg hc2 (by have := Hgw.out; show ¬ w.heap.size = g; omega)); have Hbw2 := hide (Hbw1.out.chg hc2 (by have := Hgw.out; show ¬ w.heap.size + 1 = g; omega)); have hga : ¬ w2.heap.size = g := (by have := Hgw.out; have := Hc2.out.size; omega); have Hga := hide hga; have hgz : ¬ w2.heap.size = w.heap.size := (by have := Hc2.out.size; have := Hbz2.out.lt; omega); have Hgz := hide hgz; clear hr2 hc2 hga hgz)
    | (go_at_call 54; (refine (HIx.out _ _ Hbw2.out).mono ?_); rintro e w3 ⟨rfl, hw3⟩; subst hw3)
    | (refine wpList_st (by rfl) 38 _ _ rfl rfl (acW 2 0 0 (rqL rqz) (.slice none 0 0)) rfl _ _ (by rw [acW_len (rqL_len rqz)]; exact infoAct) (by rw [acW_len (rqL_len rqz)]; rfl) (one_acW _ _ _ (one_rqL rqz) rfl) ?_; have hb3 := Blk.new w2 38 (acW 2 0 0 (rqL rqz) (.slice none 0 0)).toArray; have hs3 := (Chg.refl (fun _ => False) w2).alloc (.cells (acW 2 0 0 (rqL rqz) (.slice none 0 0)).toArray 38); generalize w2.alloc (.cells (acW 2 0 0 (rqL rqz) (.slice none 0 0)).toArray 38) = w3 at hb3 hs3 ⊢; have Hb3 := hide hb3; have Hs3 := hide hs3; have hk30 := hb3.cell 0; rw [acW_get0] at hk30; clear hb3 hs3)
    | (go_at_call 57; (with_reducible refine (HI.out _ (Chg.same Hc2.out Hs3.out) (Hr2.out.same Hs3.out)).mono ?_); rintro e w4 ⟨rfl, hc4, hr4⟩; have Hr4 := hide hr4; have Hc4 := hide (Chg.trans (Chg.same Hc2.out Hs3.out) hc4 (fun _ _ h => h)); have Hba4 := hide (Hb3.out.chg hc4 Hga.out); have Hbz4 := hide ((Hbz2.out.same Hs3.out).chg hc4 (by have := Hgw.out; show ¬ w.heap.size = g; omega)); have hka0 := Hba4.out.cell 0; rw [acW_get0] at hka0; have hka1 := Hba4.out.cell 1; rw [acW_get1] at hka1; have hka2 := Hba4.out.cell 2; rw [acW_get2] at hka2; have hfa := Hba4.out.frozen; clear hr4 hc4; have Hw24 := hide (show w.heap.size ≤ w2.heap.size from Hc2.out.size); have Hba5 := hide (show Blk (w4.setCell ⟨w2.heap.size, 1, none⟩ (.int .i64 id)) w2.heap.size 38 (acW 2 id 0 (rqL rqz) (.slice none 0 0)).toArray from (by have h9 := Hba4.out.set_ 1 (.int .i64 id); rwa [acW_set1] at h9)); have Hbz5 := hide (Hbz4.out.far (p := ⟨w2.heap.size, 1, none⟩) (fun e => Hgz.out e.symm) (.int .i64 id)); have Hc5 := hide (Chg.setCell Hc4.out (p := ⟨w2.heap.size, 1, none⟩) (.inr Hw24.out) (.int .i64 id)); have Hr5 := hide (RdrAt.far Hr4.out Hba4.out (acW_noStr _ _ _ (rqL_noStr rqz) rfl) Hga.out (Chg.setCell (p := ⟨w2.heap.size, 1, none⟩) (Chg.refl (fun k => k = w2.heap.size) w4) (.inl rfl) (.int .i64 id))))
    | (go_at_call 57; (with_reducible refine (HJ.out _ Hc5.out Hr5.out).mono ?_); rintro e w6 ⟨rfl, hc6⟩; have Hc6 := hide (Chg.trans Hc5.out hc6 (fun _ _ h => h)); clear hc6)
    | fail)
  exact ⟨rfl, HE.out _ Hc6.out⟩
set_option maxRecDepth 100000 in
set_option maxHeartbeats 8000000 in
theorem ract_step {g : Nat} {ws l l1 l2 : List (List UInt8)} {x : List UInt8} {id n : Int} (w : World) (h : Rdy g w ws) (hpw : popW ws = .ok (x, l)) (hp : placeOf wordsA x = 2) (hi : popI l = .ok (id, l1)) (hj : popI l1 = .ok (n, l2)) :
    Calls Tryz.prog 39 #[.pointer (some ⟨g, 0, none⟩)] w (ActEnd g ws w) := by
  have hgw : g < w.heap.size := by obtain ⟨A, c, hb, _⟩ := h.at_; exact hb.lt
  have Hgw := hide hgw
  have Hs0 := hide ((Chg.refl (fun _ => False) w).alloc (.cells #[.int .i64 0, .int .i64 0, .int .i64 0, .int .i64 0, .int .i64 0, .int .i64 0, .int .i64 0, .int .i64 0, .int .i64 0, .int .i64 0, .int .i64 0, .int .i64 0, .int .i64 0, .int .i64 0, .int .i64 0, .int .i64 0, .int .i64 0, .int .i64 0, .int .i64 0, .int .i64 0, .int .i64 0, .slice none 0 0] 38))
  have Hbz0 := hide (Blk.new w 38 #[.int .i64 0, .int .i64 0, .int .i64 0, .int .i64 0, .int .i64 0, .int .i64 0, .int .i64 0, .int .i64 0, .int .i64 0, .int .i64 0, .int .i64 0, .int .i64 0, .int .i64 0, .int .i64 0, .int .i64 0, .int .i64 0, .int .i64 0, .int .i64 0, .int .i64 0, .int .i64 0, .int .i64 0, .slice none 0 0])
  have HQ := hide (words_any _ (tab_sm h.tab Hs0.out))
  unfold WdsEnd at HQ
  simp only [World.size_alloc] at HQ
  have HW := hide (fun w' (hs : Same w w') => rword_pop w' (h.at_.same hs) hpw)
  have HIx := hide (fun (w' : World) (gw : Nat) (hb : Blk w' gw 9 (wds wordsA).toArray) => index_any wordsA x gw w' hb (by decide))
  rw [hp] at HIx
  have HI := hide (fun w' (hc : Chg (fun k => k = g) w w') (hr : RdrAt w' g l) => have r := h.next hc hr (by cases ws with | nil => simp [popW] at hpw | cons y r => (simp [popW] at hpw; obtain ⟨rfl, rfl⟩ := hpw; exact h.fit.tail)); rint_pop w' r.at_ r.err r.far r.fit hi)
  have HJ := hide (fun w' (hc : Chg (fun k => k = g) w w') (hr : RdrAt w' g l1) => have r := h.next hc hr (FitW.popI (by cases ws with | nil => simp [popW] at hpw | cons y r => (simp [popW] at hpw; obtain ⟨rfl, rfl⟩ := hpw; exact h.fit.tail)) hi); rint_pop w' r.at_ r.err r.far r.fit hj)
  have HE := hide (fun w' (hs : Chg (fun k => k = g) w w') => (show ActEnd g ws w (.returned (.agg (acW 2 id n (rqL rqz) (.slice none 0 0)).toArray)) w' from ⟨.inl ⟨⟨2, id, n, rqz, []⟩, none, 0, by unfold actW; rw [hpw]; simp [hp, hi, hj], rfl, ⟨Rd.nil _ _, Nat.le_refl _, by decide⟩, by simp [blkOf]⟩, hs⟩))
  have HRz1 := hide (one_rqL rqz)
  clear h hpw hp hi hj
  generalize ActEnd g ws w = Q at *
  go_enter Tryz.func39, Tryz.ntmps39
  go_wp2_with (first
    | (go_at_call 55; (refine HQ.out.mono ?_); rintro e w1 ⟨rfl, hw1⟩; have Hs1 := hide (show Same w w1 from hw1 ▸ Chg.alloc Hs0.out _); have Hbz1 := hide (show Blk w1 w.heap.size 38 #[.int .i64 0, .int .i64 0, .int .i64 0, .int .i64 0, .int .i64 0, .int .i64 0, .int .i64 0, .int .i64 0, .int .i64 0, .int .i64 0, .int .i64 0, .int .i64 0, .int .i64 0, .int .i64 0, .int .i64 0, .int .i64 0, .int .i64 0, .int .i64 0, .int .i64 0, .int .i64 0, .int .i64 0, .slice none 0 0] from hw1 ▸ Blk.alloc Hbz0.out _); have Hbw1 := hide (show Blk w1 (w.heap.size + 1) 9 (wds wordsA).toArray by rw [hw1]; have h := Blk.new (w.alloc (.cells #[.int .i64 0, .int .i64 0, .int .i64 0, .int .i64 0, .int .i64 0, .int .i64 0, .int .i64 0, .int .i64 0, .int .i64 0, .int .i64 0, .int .i64 0, .int .i64 0, .int .i64 0, .int .i64 0, .int .i64 0, .int .i64 0, .int .i64 0, .int .i64 0, .int .i64 0, .int .i64 0, .int .i64 0, .slice none 0 0] 38)) 9 (wds wordsA).toArray; rw [World.size_alloc] at h; exact h); clear hw1)
    | (go_at_call 56; (refine (HW.out _ Hs1.out).mono ?_); rintro e w2 ⟨rfl, hc2, hr2⟩; have Hr2 := hide hr2; have Hc2 := hide (Chg.trans (Same.to (S := fun k => k = g) Hs1.out) hc2 (fun _ _ h => h)); have Hbz2 := hide (Hbz1.out.chg hc2 (by have := Hgw.out; show ¬ w.heap.size = g; omega)); have Hbw2 := hide (Hbw1.out.chg hc2 (by have := Hgw.out; show ¬ w.heap.size + 1 = g; omega)); have hga : ¬ w2.heap.size = g := (by have := Hgw.out; have := Hc2.out.size; omega); have Hga := hide hga; have hgz : ¬ w2.heap.size = w.heap.size := (by have := Hc2.out.size; have := Hbz2.out.lt; omega); have Hgz := hide hgz; clear hr2 hc2 hga hgz)
    | (go_at_call 54; (refine (HIx.out _ _ Hbw2.out).mono ?_); rintro e w3 ⟨rfl, hw3⟩; subst hw3)
    | (refine wpList_st (by rfl) 38 _ _ rfl rfl (acW 2 0 0 (rqL rqz) (.slice none 0 0)) rfl _ _ (by rw [acW_len (rqL_len rqz)]; exact infoAct) (by rw [acW_len (rqL_len rqz)]; rfl) (one_acW _ _ _ (one_rqL rqz) rfl) ?_; have hb3 := Blk.new w2 38 (acW 2 0 0 (rqL rqz) (.slice none 0 0)).toArray; have hs3 := (Chg.refl (fun _ => False) w2).alloc (.cells (acW 2 0 0 (rqL rqz) (.slice none 0 0)).toArray 38); generalize w2.alloc (.cells (acW 2 0 0 (rqL rqz) (.slice none 0 0)).toArray 38) = w3 at hb3 hs3 ⊢; have Hb3 := hide hb3; have Hs3 := hide hs3; have hk30 := hb3.cell 0; rw [acW_get0] at hk30; clear hb3 hs3)
    | (go_at_call 57; (with_reducible refine (HI.out _ (Chg.same Hc2.out Hs3.out) (Hr2.out.same Hs3.out)).mono ?_); rintro e w4 ⟨rfl, hc4, hr4⟩; have Hr4 := hide hr4; have Hc4 := hide (Chg.trans (Chg.same Hc2.out Hs3.out) hc4 (fun _ _ h => h)); have Hba4 := hide (Hb3.out.chg hc4 Hga.out); have Hbz4 := hide ((Hbz2.out.same Hs3.out).chg hc4 (by have := Hgw.out; show ¬ w.heap.size = g; omega)); have hka0 := Hba4.out.cell 0; rw [acW_get0] at hka0; have hka1 := Hba4.out.cell 1; rw [acW_get1] at hka1; have hka2 := Hba4.out.cell 2; rw [acW_get2] at hka2; have hfa := Hba4.out.frozen; clear hr4 hc4; have Hw24 := hide (show w.heap.size ≤ w2.heap.size from Hc2.out.size); have Hba5 := hide (show Blk (w4.setCell ⟨w2.heap.size, 1, none⟩ (.int .i64 id)) w2.heap.size 38 (acW 2 id 0 (rqL rqz) (.slice none 0 0)).toArray from (by have h9 := Hba4.out.set_ 1 (.int .i64 id); rwa [acW_set1] at h9)); have Hbz5 := hide (Hbz4.out.far (p := ⟨w2.heap.size, 1, none⟩) (fun e => Hgz.out e.symm) (.int .i64 id)); have Hc5 := hide (Chg.setCell Hc4.out (p := ⟨w2.heap.size, 1, none⟩) (.inr Hw24.out) (.int .i64 id)); have Hr5 := hide (RdrAt.far Hr4.out Hba4.out (acW_noStr _ _ _ (rqL_noStr rqz) rfl) Hga.out (Chg.setCell (p := ⟨w2.heap.size, 1, none⟩) (Chg.refl (fun k => k = w2.heap.size) w4) (.inl rfl) (.int .i64 id))))
    | (go_at_call 57; (with_reducible refine (HJ.out _ Hc5.out Hr5.out).mono ?_); rintro e w6 ⟨rfl, hc6, hr6⟩; have Hc6 := hide (Chg.trans Hc5.out hc6 (fun _ _ h => h)); have Hba6 := hide (Hba5.out.chg hc6 Hga.out); have Hbz6 := hide (Hbz5.out.chg hc6 (by have := Hgw.out; show ¬ w.heap.size = g; omega)); have hkb2 := Hba6.out.cell 2; rw [acW_get2] at hkb2; have hfb := Hba6.out.frozen; have Hba7 := hide (show Blk (w6.setCell ⟨w2.heap.size, 2, none⟩ (.int .i64 n)) w2.heap.size 38 (acW 2 id n (rqL rqz) (.slice none 0 0)).toArray from (by have h9 := Hba6.out.set_ 2 (.int .i64 n); rwa [acW_set2] at h9)); have Hbz7 := hide (Hbz6.out.far (p := ⟨w2.heap.size, 2, none⟩) (fun e => Hgz.out e.symm) (.int .i64 n)); have Hc7 := hide (Chg.setCell Hc6.out (p := ⟨w2.heap.size, 2, none⟩) (.inr Hw24.out) (.int .i64 n)); clear hc6 hr6)
    | (refine wpList_ld (by rfl) 38 _ rfl w2.heap.size 0 rfl _ _ (blk_range Hba7.out) Tryz.underlying38 rfl (by rw [acW_len (rqL_len rqz)]; exact infoAct) ?_)
    | (refine wpList_store_row (by rfl) 38 _ _ rfl w.heap.size _ rfl rfl 38 _ Hbz7.out (by rw [List.size_toArray, acW_len (rqL_len rqz)]; exact infoAct) (show (22 : Nat) = _ by rw [List.size_toArray, acW_len (rqL_len rqz)]) (all_oneCell_toArray (one_acW _ _ _ HRz1.out rfl)) ?_)
    | fail)
  refine bodyPost_ret (results_cell_row rfl _ _ _ _ _ _ _ rfl (Blk.setRow_ Hbz7.out _) Tryz.underlying38 rfl (by rw [List.size_toArray, acW_len (rqL_len rqz)]; exact infoAct)) (by rfl) ?_
  exact HE.out _ (Chg.setRow Hc7.out (.inr (Nat.le_refl _)) _)
set_option maxRecDepth 100000 in
set_option maxHeartbeats 8000000 in
theorem ract_want_bad {g : Nat} {ws l l1 : List (List UInt8)} {x : List UInt8} {id c : Int} (w : World) (h : Rdy g w ws) (hpw : popW ws = .ok (x, l)) (hp : placeOf wordsA x = 1) (hi : popI l = .ok (id, l1)) (hj : reqW l1 = .error c) :
    Calls Tryz.prog 39 #[.pointer (some ⟨g, 0, none⟩)] w (ActEnd g ws w) := by
  have hgw : g < w.heap.size := by obtain ⟨A, c, hb, _⟩ := h.at_; exact hb.lt
  have Hgw := hide hgw
  have Hs0 := hide ((Chg.refl (fun _ => False) w).alloc (.cells #[.int .i64 0, .int .i64 0, .int .i64 0, .int .i64 0, .int .i64 0, .int .i64 0, .int .i64 0, .int .i64 0, .int .i64 0, .int .i64 0, .int .i64 0, .int .i64 0, .int .i64 0, .int .i64 0, .int .i64 0, .int .i64 0, .int .i64 0, .int .i64 0, .int .i64 0, .int .i64 0, .int .i64 0, .slice none 0 0] 38))
  have Hbz0 := hide (Blk.new w 38 #[.int .i64 0, .int .i64 0, .int .i64 0, .int .i64 0, .int .i64 0, .int .i64 0, .int .i64 0, .int .i64 0, .int .i64 0, .int .i64 0, .int .i64 0, .int .i64 0, .int .i64 0, .int .i64 0, .int .i64 0, .int .i64 0, .int .i64 0, .int .i64 0, .int .i64 0, .int .i64 0, .int .i64 0, .slice none 0 0])
  have HQ := hide (words_any _ (tab_sm h.tab Hs0.out))
  unfold WdsEnd at HQ
  simp only [World.size_alloc] at HQ
  have HW := hide (fun w' (hs : Same w w') => rword_pop w' (h.at_.same hs) hpw)
  have HIx := hide (fun (w' : World) (gw : Nat) (hb : Blk w' gw 9 (wds wordsA).toArray) => index_any wordsA x gw w' hb (by decide))
  rw [hp] at HIx
  have HI := hide (fun w' (hc : Chg (fun k => k = g) w w') (hr : RdrAt w' g l) => have r := h.next hc hr (by cases ws with | nil => simp [popW] at hpw | cons y r => (simp [popW] at hpw; obtain ⟨rfl, rfl⟩ := hpw; exact h.fit.tail)); rint_pop w' r.at_ r.err r.far r.fit hi)
  have HJ := hide (fun w' (hc : Chg (fun k => k = g) w w') (hr : RdrAt w' g l1) => have r := h.next hc hr (FitW.popI (by cases ws with | nil => simp [popW] at hpw | cons y r => (simp [popW] at hpw; obtain ⟨rfl, rfl⟩ := hpw; exact h.fit.tail)) hi); rreq_err w' r.at_ r.err r.far r.tab r.fit hj)
  have HE := hide (fun w' (hs : Chg (fun k => k = g) w w') => (show ActEnd g ws w (.panicked (fault 0 c)) w' from ⟨.inr ⟨c, by unfold actW; rw [hpw]; simp [hp, hi, hj], rfl⟩, hs⟩))
  clear h hpw hp hi hj
  generalize ActEnd g ws w = Q at *
  go_enter Tryz.func39, Tryz.ntmps39
  go_wp2_with (first
    | (go_at_call 55; (refine HQ.out.mono ?_); rintro e w1 ⟨rfl, hw1⟩; have Hs1 := hide (show Same w w1 from hw1 ▸ Chg.alloc Hs0.out _); have Hbz1 := hide (show Blk w1 w.heap.size 38 #[.int .i64 0, .int .i64 0, .int .i64 0, .int .i64 0, .int .i64 0, .int .i64 0, .int .i64 0, .int .i64 0, .int .i64 0, .int .i64 0, .int .i64 0, .int .i64 0, .int .i64 0, .int .i64 0, .int .i64 0, .int .i64 0, .int .i64 0, .int .i64 0, .int .i64 0, .int .i64 0, .int .i64 0, .slice none 0 0] from hw1 ▸ Blk.alloc Hbz0.out _); have Hbw1 := hide (show Blk w1 (w.heap.size + 1) 9 (wds wordsA).toArray by rw [hw1]; have h := Blk.new (w.alloc (.cells #[.int .i64 0, .int .i64 0, .int .i64 0, .int .i64 0, .int .i64 0, .int .i64 0, .int .i64 0, .int .i64 0, .int .i64 0, .int .i64 0, .int .i64 0, .int .i64 0, .int .i64 0, .int .i64 0, .int .i64 0, .int .i64 0, .int .i64 0, .int .i64 0, .int .i64 0, .int .i64 0, .int .i64 0, .slice none 0 0] 38)) 9 (wds wordsA).toArray; rw [World.size_alloc] at h; exact h); clear hw1)
    | (go_at_call 56; (refine (HW.out _ Hs1.out).mono ?_); rintro e w2 ⟨rfl, hc2, hr2⟩; have Hr2 := hide hr2; have Hc2 := hide (Chg.trans (Same.to (S := fun k => k = g) Hs1.out) hc2 (fun _ _ h => h)); have Hbz2 := hide (Hbz1.out.chg hc2 (by have := Hgw.out; show ¬ w.heap.size = g; omega)); have Hbw2 := hide (Hbw1.out.chg hc2 (by have := Hgw.out; show ¬ w.heap.size + 1 = g; omega)); have hga : ¬ w2.heap.size = g := (by have := Hgw.out; have := Hc2.out.size; omega); have Hga := hide hga; have hgz : ¬ w2.heap.size = w.heap.size := (by have := Hc2.out.size; have := Hbz2.out.lt; omega); have Hgz := hide hgz; clear hr2 hc2 hga hgz)
    | (go_at_call 54; (refine (HIx.out _ _ Hbw2.out).mono ?_); rintro e w3 ⟨rfl, hw3⟩; subst hw3)
    | (refine wpList_st (by rfl) 38 _ _ rfl rfl (acW 1 0 0 (rqL rqz) (.slice none 0 0)) rfl _ _ (by rw [acW_len (rqL_len rqz)]; exact infoAct) (by rw [acW_len (rqL_len rqz)]; rfl) (one_acW _ _ _ (one_rqL rqz) rfl) ?_; have hb3 := Blk.new w2 38 (acW 1 0 0 (rqL rqz) (.slice none 0 0)).toArray; have hs3 := (Chg.refl (fun _ => False) w2).alloc (.cells (acW 1 0 0 (rqL rqz) (.slice none 0 0)).toArray 38); generalize w2.alloc (.cells (acW 1 0 0 (rqL rqz) (.slice none 0 0)).toArray 38) = w3 at hb3 hs3 ⊢; have Hb3 := hide hb3; have Hs3 := hide hs3; have hk30 := hb3.cell 0; rw [acW_get0] at hk30; clear hb3 hs3)
    | (go_at_call 57; (with_reducible refine (HI.out _ (Chg.same Hc2.out Hs3.out) (Hr2.out.same Hs3.out)).mono ?_); rintro e w4 ⟨rfl, hc4, hr4⟩; have Hr4 := hide hr4; have Hc4 := hide (Chg.trans (Chg.same Hc2.out Hs3.out) hc4 (fun _ _ h => h)); have Hba4 := hide (Hb3.out.chg hc4 Hga.out); have Hbz4 := hide ((Hbz2.out.same Hs3.out).chg hc4 (by have := Hgw.out; show ¬ w.heap.size = g; omega)); have hka0 := Hba4.out.cell 0; rw [acW_get0] at hka0; have hka1 := Hba4.out.cell 1; rw [acW_get1] at hka1; have hka2 := Hba4.out.cell 2; rw [acW_get2] at hka2; have hfa := Hba4.out.frozen; clear hr4 hc4; have Hw24 := hide (show w.heap.size ≤ w2.heap.size from Hc2.out.size); have Hba5 := hide (show Blk (w4.setCell ⟨w2.heap.size, 1, none⟩ (.int .i64 id)) w2.heap.size 38 (acW 1 id 0 (rqL rqz) (.slice none 0 0)).toArray from (by have h9 := Hba4.out.set_ 1 (.int .i64 id); rwa [acW_set1] at h9)); have Hbz5 := hide (Hbz4.out.far (p := ⟨w2.heap.size, 1, none⟩) (fun e => Hgz.out e.symm) (.int .i64 id)); have Hc5 := hide (Chg.setCell Hc4.out (p := ⟨w2.heap.size, 1, none⟩) (.inr Hw24.out) (.int .i64 id)); have Hr5 := hide (RdrAt.far Hr4.out Hba4.out (acW_noStr _ _ _ (rqL_noStr rqz) rfl) Hga.out (Chg.setCell (p := ⟨w2.heap.size, 1, none⟩) (Chg.refl (fun k => k = w2.heap.size) w4) (.inl rfl) (.int .i64 id))))
    | (go_at_call 58; (with_reducible refine (HJ.out _ Hc5.out Hr5.out).mono ?_); rintro e w6 ⟨rfl, hc6⟩; have Hc6 := hide (Chg.trans Hc5.out hc6 (fun _ _ h => h)); clear hc6)
    | fail)
  exact ⟨rfl, HE.out _ Hc6.out⟩
set_option maxRecDepth 100000 in
set_option maxHeartbeats 8000000 in
theorem ract_want {g : Nat} {ws l l1 : List (List UInt8)} {x : List UInt8} {r : Rq} {id : Int} (w : World) (h : Rdy g w ws) (hpw : popW ws = .ok (x, l)) (hp : placeOf wordsA x = 1) (hi : popI l = .ok (id, l1)) (hj : reqW l1 = .ok r) :
    Calls Tryz.prog 39 #[.pointer (some ⟨g, 0, none⟩)] w (ActEnd g ws w) := by
  have hgw : g < w.heap.size := by obtain ⟨A, c, hb, _⟩ := h.at_; exact hb.lt
  have Hgw := hide hgw
  have Hs0 := hide ((Chg.refl (fun _ => False) w).alloc (.cells #[.int .i64 0, .int .i64 0, .int .i64 0, .int .i64 0, .int .i64 0, .int .i64 0, .int .i64 0, .int .i64 0, .int .i64 0, .int .i64 0, .int .i64 0, .int .i64 0, .int .i64 0, .int .i64 0, .int .i64 0, .int .i64 0, .int .i64 0, .int .i64 0, .int .i64 0, .int .i64 0, .int .i64 0, .slice none 0 0] 38))
  have Hbz0 := hide (Blk.new w 38 #[.int .i64 0, .int .i64 0, .int .i64 0, .int .i64 0, .int .i64 0, .int .i64 0, .int .i64 0, .int .i64 0, .int .i64 0, .int .i64 0, .int .i64 0, .int .i64 0, .int .i64 0, .int .i64 0, .int .i64 0, .int .i64 0, .int .i64 0, .int .i64 0, .int .i64 0, .int .i64 0, .int .i64 0, .slice none 0 0])
  have HQ := hide (words_any _ (tab_sm h.tab Hs0.out))
  unfold WdsEnd at HQ
  simp only [World.size_alloc] at HQ
  have HW := hide (fun w' (hs : Same w w') => rword_pop w' (h.at_.same hs) hpw)
  have HIx := hide (fun (w' : World) (gw : Nat) (hb : Blk w' gw 9 (wds wordsA).toArray) => index_any wordsA x gw w' hb (by decide))
  rw [hp] at HIx
  have HI := hide (fun w' (hc : Chg (fun k => k = g) w w') (hr : RdrAt w' g l) => have r := h.next hc hr (by cases ws with | nil => simp [popW] at hpw | cons y r => (simp [popW] at hpw; obtain ⟨rfl, rfl⟩ := hpw; exact h.fit.tail)); rint_pop w' r.at_ r.err r.far r.fit hi)
  have HJ := hide (fun w' (hc : Chg (fun k => k = g) w w') (hr : RdrAt w' g l1) => have r := h.next hc hr (FitW.popI (by cases ws with | nil => simp [popW] at hpw | cons y r => (simp [popW] at hpw; obtain ⟨rfl, rfl⟩ := hpw; exact h.fit.tail)) hi); rreq_ok w' r.at_ r.err r.far r.tab r.fit hj)
  have HE := hide (fun w' (hs : Chg (fun k => k = g) w w') => (show ActEnd g ws w (.returned (.agg (acW 1 id 0 (rqL r) (.slice none 0 0)).toArray)) w' from ⟨.inl ⟨⟨1, id, 0, r, []⟩, none, 0, by unfold actW; rw [hpw]; simp [hp, hi, hj], rfl, ⟨Rd.nil _ _, Nat.le_refl _, by decide⟩, by simp [blkOf]⟩, hs⟩))
  have HRl := hide (rqL_len r)
  have HRo := hide (one_rqL r)
  unfold rqV at HJ
  clear h hpw hp hi hj
  generalize ActEnd g ws w = Q at *
  generalize rqL r = R at *
  go_enter Tryz.func39, Tryz.ntmps39
  go_wp2_with (first
    | (go_at_call 55; (refine HQ.out.mono ?_); rintro e w1 ⟨rfl, hw1⟩; have Hs1 := hide (show Same w w1 from hw1 ▸ Chg.alloc Hs0.out _); have Hbz1 := hide (show Blk w1 w.heap.size 38 #[.int .i64 0, .int .i64 0, .int .i64 0, .int .i64 0, .int .i64 0, .int .i64 0, .int .i64 0, .int .i64 0, .int .i64 0, .int .i64 0, .int .i64 0, .int .i64 0, .int .i64 0, .int .i64 0, .int .i64 0, .int .i64 0, .int .i64 0, .int .i64 0, .int .i64 0, .int .i64 0, .int .i64 0, .slice none 0 0] from hw1 ▸ Blk.alloc Hbz0.out _); have Hbw1 := hide (show Blk w1 (w.heap.size + 1) 9 (wds wordsA).toArray by rw [hw1]; have h := Blk.new (w.alloc (.cells #[.int .i64 0, .int .i64 0, .int .i64 0, .int .i64 0, .int .i64 0, .int .i64 0, .int .i64 0, .int .i64 0, .int .i64 0, .int .i64 0, .int .i64 0, .int .i64 0, .int .i64 0, .int .i64 0, .int .i64 0, .int .i64 0, .int .i64 0, .int .i64 0, .int .i64 0, .int .i64 0, .int .i64 0, .slice none 0 0] 38)) 9 (wds wordsA).toArray; rw [World.size_alloc] at h; exact h); clear hw1)
    | (go_at_call 56; (refine (HW.out _ Hs1.out).mono ?_); rintro e w2 ⟨rfl, hc2, hr2⟩; have Hr2 := hide hr2; have Hc2 := hide (Chg.trans (Same.to (S := fun k => k = g) Hs1.out) hc2 (fun _ _ h => h)); have Hbz2 := hide (Hbz1.out.chg hc2 (by have := Hgw.out; show ¬ w.heap.size = g; omega)); have Hbw2 := hide (Hbw1.out.chg hc2 (by have := Hgw.out; show ¬ w.heap.size + 1 = g; omega)); have hga : ¬ w2.heap.size = g := (by have := Hgw.out; have := Hc2.out.size; omega); have Hga := hide hga; have hgz : ¬ w2.heap.size = w.heap.size := (by have := Hc2.out.size; have := Hbz2.out.lt; omega); have Hgz := hide hgz; clear hr2 hc2 hga hgz)
    | (go_at_call 54; (refine (HIx.out _ _ Hbw2.out).mono ?_); rintro e w3 ⟨rfl, hw3⟩; subst hw3)
    | (refine wpList_st (by rfl) 38 _ _ rfl rfl (acW 1 0 0 (rqL rqz) (.slice none 0 0)) rfl _ _ (by rw [acW_len (rqL_len rqz)]; exact infoAct) (by rw [acW_len (rqL_len rqz)]; rfl) (one_acW _ _ _ (one_rqL rqz) rfl) ?_; have hb3 := Blk.new w2 38 (acW 1 0 0 (rqL rqz) (.slice none 0 0)).toArray; have hs3 := (Chg.refl (fun _ => False) w2).alloc (.cells (acW 1 0 0 (rqL rqz) (.slice none 0 0)).toArray 38); generalize w2.alloc (.cells (acW 1 0 0 (rqL rqz) (.slice none 0 0)).toArray 38) = w3 at hb3 hs3 ⊢; have Hb3 := hide hb3; have Hs3 := hide hs3; have hk30 := hb3.cell 0; rw [acW_get0] at hk30; clear hb3 hs3)
    | (go_at_call 57; (with_reducible refine (HI.out _ (Chg.same Hc2.out Hs3.out) (Hr2.out.same Hs3.out)).mono ?_); rintro e w4 ⟨rfl, hc4, hr4⟩; have Hr4 := hide hr4; have Hc4 := hide (Chg.trans (Chg.same Hc2.out Hs3.out) hc4 (fun _ _ h => h)); have Hba4 := hide (Hb3.out.chg hc4 Hga.out); have Hbz4 := hide ((Hbz2.out.same Hs3.out).chg hc4 (by have := Hgw.out; show ¬ w.heap.size = g; omega)); have hka0 := Hba4.out.cell 0; rw [acW_get0] at hka0; have hka1 := Hba4.out.cell 1; rw [acW_get1] at hka1; have hka2 := Hba4.out.cell 2; rw [acW_get2] at hka2; have hfa := Hba4.out.frozen; clear hr4 hc4; have Hw24 := hide (show w.heap.size ≤ w2.heap.size from Hc2.out.size); have Hba5 := hide (show Blk (w4.setCell ⟨w2.heap.size, 1, none⟩ (.int .i64 id)) w2.heap.size 38 (acW 1 id 0 (rqL rqz) (.slice none 0 0)).toArray from (by have h9 := Hba4.out.set_ 1 (.int .i64 id); rwa [acW_set1] at h9)); have Hbz5 := hide (Hbz4.out.far (p := ⟨w2.heap.size, 1, none⟩) (fun e => Hgz.out e.symm) (.int .i64 id)); have Hc5 := hide (Chg.setCell Hc4.out (p := ⟨w2.heap.size, 1, none⟩) (.inr Hw24.out) (.int .i64 id)); have Hr5 := hide (RdrAt.far Hr4.out Hba4.out (acW_noStr _ _ _ (rqL_noStr rqz) rfl) Hga.out (Chg.setCell (p := ⟨w2.heap.size, 1, none⟩) (Chg.refl (fun k => k = w2.heap.size) w4) (.inl rfl) (.int .i64 id))))
    | (go_at_call 58; (with_reducible refine (HJ.out _ Hc5.out Hr5.out).mono ?_); rintro e w6 ⟨rfl, hc6⟩; have Hc6 := hide (Chg.trans Hc5.out hc6 (fun _ _ h => h)); have Hba6 := hide (Hba5.out.chg hc6 Hga.out); have Hbz6 := hide (Hbz5.out.chg hc6 (by have := Hgw.out; show ¬ w.heap.size = g; omega)); have Hba7 := hide (acW_setR (R' := R) Hba6.out (by rw [HRl.out]; rfl)); have Hbz7 := hide (Blk.far_cells Hbz6.out (fun e => Hgz.out e.symm) 3 R); have Hc7 := hide (Chg.setCells R 3 Hc6.out (.inr Hw24.out)); clear hc6)
    | (refine wpList_store_mid (by rfl) 35 _ _ rfl w2.heap.size 3 R.toArray rfl rfl (acW_there Hba6.out _ (by rw [List.size_toArray, HRl.out]; rfl)) (by rw [List.size_toArray, HRl.out]; exact infoRqE) (all_oneCell_toArray HRo.out) ?_)
    | (refine wpList_ld (by rfl) 38 _ rfl w2.heap.size 0 rfl _ _ (blk_range Hba7.out) Tryz.underlying38 rfl (by rw [acW_len HRl.out]; exact infoAct) ?_)
    | (refine wpList_store_row (by rfl) 38 _ _ rfl w.heap.size _ rfl rfl 38 _ Hbz7.out (by rw [List.size_toArray, acW_len HRl.out]; exact infoAct) (show (22 : Nat) = _ by rw [List.size_toArray, acW_len HRl.out]) (all_oneCell_toArray (one_acW _ _ _ HRo.out rfl)) ?_)
    | fail)
  refine bodyPost_ret (results_cell_row rfl _ _ _ _ _ _ _ rfl (Blk.setRow_ Hbz7.out _) Tryz.underlying38 rfl (by rw [List.size_toArray, acW_len HRl.out]; exact infoAct)) (by rfl) ?_
  exact HE.out _ (Chg.setRow Hc7.out (.inr (Nat.le_refl _)) _)
set_option maxRecDepth 100000 in
set_option maxHeartbeats 8000000 in
theorem ract_send_bad {g : Nat} {ws l l1 : List (List UInt8)} {x : List UInt8} {id c : Int} (w : World) (h : Rdy g w ws) (hpw : popW ws = .ok (x, l)) (hp : placeOf wordsA x = 5) (hi : popI l = .ok (id, l1)) (hj : popW l1 = .error c) :
    Calls Tryz.prog 39 #[.pointer (some ⟨g, 0, none⟩)] w (ActEnd g ws w) := by
  have hgw : g < w.heap.size := by obtain ⟨A, c, hb, _⟩ := h.at_; exact hb.lt
  have Hgw := hide hgw
  have Hs0 := hide ((Chg.refl (fun _ => False) w).alloc (.cells #[.int .i64 0, .int .i64 0, .int .i64 0, .int .i64 0, .int .i64 0, .int .i64 0, .int .i64 0, .int .i64 0, .int .i64 0, .int .i64 0, .int .i64 0, .int .i64 0, .int .i64 0, .int .i64 0, .int .i64 0, .int .i64 0, .int .i64 0, .int .i64 0, .int .i64 0, .int .i64 0, .int .i64 0, .slice none 0 0] 38))
  have Hbz0 := hide (Blk.new w 38 #[.int .i64 0, .int .i64 0, .int .i64 0, .int .i64 0, .int .i64 0, .int .i64 0, .int .i64 0, .int .i64 0, .int .i64 0, .int .i64 0, .int .i64 0, .int .i64 0, .int .i64 0, .int .i64 0, .int .i64 0, .int .i64 0, .int .i64 0, .int .i64 0, .int .i64 0, .int .i64 0, .int .i64 0, .slice none 0 0])
  have HQ := hide (words_any _ (tab_sm h.tab Hs0.out))
  unfold WdsEnd at HQ
  simp only [World.size_alloc] at HQ
  have HW := hide (fun w' (hs : Same w w') => rword_pop w' (h.at_.same hs) hpw)
  have HIx := hide (fun (w' : World) (gw : Nat) (hb : Blk w' gw 9 (wds wordsA).toArray) => index_any wordsA x gw w' hb (by decide))
  rw [hp] at HIx
  have HI := hide (fun w' (hc : Chg (fun k => k = g) w w') (hr : RdrAt w' g l) => have r := h.next hc hr (by cases ws with | nil => simp [popW] at hpw | cons y r => (simp [popW] at hpw; obtain ⟨rfl, rfl⟩ := hpw; exact h.fit.tail)); rint_pop w' r.at_ r.err r.far r.fit hi)
  have HJ := hide (fun w' (hc : Chg (fun k => k = g) w w') (hr : RdrAt w' g l1) => have r := h.next hc hr (FitW.popI (by cases ws with | nil => simp [popW] at hpw | cons y r => (simp [popW] at hpw; obtain ⟨rfl, rfl⟩ := hpw; exact h.fit.tail)) hi); rbytes_err w' r.at_ hj)
  have HE := hide (fun w' (hs : Chg (fun k => k = g) w w') => (show ActEnd g ws w (.panicked (fault 0 c)) w' from ⟨.inr ⟨c, by unfold actW; rw [hpw]; simp [hp, hi, hj], rfl⟩, hs⟩))
  clear h hpw hp hi hj
  generalize ActEnd g ws w = Q at *
  go_enter Tryz.func39, Tryz.ntmps39
  go_wp2_with (first
    | (go_at_call 55; (refine HQ.out.mono ?_); rintro e w1 ⟨rfl, hw1⟩; have Hs1 := hide (show Same w w1 from hw1 ▸ Chg.alloc Hs0.out _); have Hbz1 := hide (show Blk w1 w.heap.size 38 #[.int .i64 0, .int .i64 0, .int .i64 0, .int .i64 0, .int .i64 0, .int .i64 0, .int .i64 0, .int .i64 0, .int .i64 0, .int .i64 0, .int .i64 0, .int .i64 0, .int .i64 0, .int .i64 0, .int .i64 0, .int .i64 0, .int .i64 0, .int .i64 0, .int .i64 0, .int .i64 0, .int .i64 0, .slice none 0 0] from hw1 ▸ Blk.alloc Hbz0.out _); have Hbw1 := hide (show Blk w1 (w.heap.size + 1) 9 (wds wordsA).toArray by rw [hw1]; have h := Blk.new (w.alloc (.cells #[.int .i64 0, .int .i64 0, .int .i64 0, .int .i64 0, .int .i64 0, .int .i64 0, .int .i64 0, .int .i64 0, .int .i64 0, .int .i64 0, .int .i64 0, .int .i64 0, .int .i64 0, .int .i64 0, .int .i64 0, .int .i64 0, .int .i64 0, .int .i64 0, .int .i64 0, .int .i64 0, .int .i64 0, .slice none 0 0] 38)) 9 (wds wordsA).toArray; rw [World.size_alloc] at h; exact h); clear hw1)
    | (go_at_call 56; (refine (HW.out _ Hs1.out).mono ?_); rintro e w2 ⟨rfl, hc2, hr2⟩; have Hr2 := hide hr2; have Hc2 := hide (Chg.trans (Same.to (S := fun k => k = g) Hs1.out) hc2 (fun _ _ h => h)); have Hbz2 := hide (Hbz1.out.chg hc2 (by have := Hgw.out; show ¬ w.heap.size = g; omega)); have Hbw2 := hide (Hbw1.out.chg hc2 (by have := Hgw.out; show ¬ w.heap.size + 1 = g; omega)); have hga : ¬ w2.heap.size = g := (by have := Hgw.out; have := Hc2.out.size; omega); have Hga := hide hga; have hgz : ¬ w2.heap.size = w.heap.size := (by have := Hc2.out.size; have := Hbz2.out.lt; omega); have Hgz := hide hgz; clear hr2 hc2 hga hgz)
    | (go_at_call 54; (refine (HIx.out _ _ Hbw2.out).mono ?_); rintro e w3 ⟨rfl, hw3⟩; subst hw3)
    | (refine wpList_st (by rfl) 38 _ _ rfl rfl (acW 5 0 0 (rqL rqz) (.slice none 0 0)) rfl _ _ (by rw [acW_len (rqL_len rqz)]; exact infoAct) (by rw [acW_len (rqL_len rqz)]; rfl) (one_acW _ _ _ (one_rqL rqz) rfl) ?_; have hb3 := Blk.new w2 38 (acW 5 0 0 (rqL rqz) (.slice none 0 0)).toArray; have hs3 := (Chg.refl (fun _ => False) w2).alloc (.cells (acW 5 0 0 (rqL rqz) (.slice none 0 0)).toArray 38); generalize w2.alloc (.cells (acW 5 0 0 (rqL rqz) (.slice none 0 0)).toArray 38) = w3 at hb3 hs3 ⊢; have Hb3 := hide hb3; have Hs3 := hide hs3; have hk30 := hb3.cell 0; rw [acW_get0] at hk30; clear hb3 hs3)
    | (go_at_call 57; (with_reducible refine (HI.out _ (Chg.same Hc2.out Hs3.out) (Hr2.out.same Hs3.out)).mono ?_); rintro e w4 ⟨rfl, hc4, hr4⟩; have Hr4 := hide hr4; have Hc4 := hide (Chg.trans (Chg.same Hc2.out Hs3.out) hc4 (fun _ _ h => h)); have Hba4 := hide (Hb3.out.chg hc4 Hga.out); have Hbz4 := hide ((Hbz2.out.same Hs3.out).chg hc4 (by have := Hgw.out; show ¬ w.heap.size = g; omega)); have hka0 := Hba4.out.cell 0; rw [acW_get0] at hka0; have hka1 := Hba4.out.cell 1; rw [acW_get1] at hka1; have hka2 := Hba4.out.cell 2; rw [acW_get2] at hka2; have hfa := Hba4.out.frozen; clear hr4 hc4; have Hw24 := hide (show w.heap.size ≤ w2.heap.size from Hc2.out.size); have Hba5 := hide (show Blk (w4.setCell ⟨w2.heap.size, 1, none⟩ (.int .i64 id)) w2.heap.size 38 (acW 5 id 0 (rqL rqz) (.slice none 0 0)).toArray from (by have h9 := Hba4.out.set_ 1 (.int .i64 id); rwa [acW_set1] at h9)); have Hbz5 := hide (Hbz4.out.far (p := ⟨w2.heap.size, 1, none⟩) (fun e => Hgz.out e.symm) (.int .i64 id)); have Hc5 := hide (Chg.setCell Hc4.out (p := ⟨w2.heap.size, 1, none⟩) (.inr Hw24.out) (.int .i64 id)); have Hr5 := hide (RdrAt.far Hr4.out Hba4.out (acW_noStr _ _ _ (rqL_noStr rqz) rfl) Hga.out (Chg.setCell (p := ⟨w2.heap.size, 1, none⟩) (Chg.refl (fun k => k = w2.heap.size) w4) (.inl rfl) (.int .i64 id))))
    | (go_at_call 59; (with_reducible refine (HJ.out _ Hc5.out Hr5.out).mono ?_); rintro e w6 ⟨rfl, hc6⟩; have Hc6 := hide (Chg.same Hc5.out hc6); clear hc6)
    | fail)
  exact ⟨rfl, HE.out _ Hc6.out⟩
set_option maxRecDepth 100000 in
set_option maxHeartbeats 8000000 in
theorem ract_send {g : Nat} {ws l l1 l2 : List (List UInt8)} {x y : List UInt8} {id : Int} (w : World) (h : Rdy g w ws) (hpw : popW ws = .ok (x, l)) (hp : placeOf wordsA x = 5) (hi : popI l = .ok (id, l1)) (hj : popW l1 = .ok (y, l2)) :
    Calls Tryz.prog 39 #[.pointer (some ⟨g, 0, none⟩)] w (ActEnd g ws w) := by
  have hgw : g < w.heap.size := by obtain ⟨A, c, hb, _⟩ := h.at_; exact hb.lt
  have Hgw := hide hgw
  have Hs0 := hide ((Chg.refl (fun _ => False) w).alloc (.cells #[.int .i64 0, .int .i64 0, .int .i64 0, .int .i64 0, .int .i64 0, .int .i64 0, .int .i64 0, .int .i64 0, .int .i64 0, .int .i64 0, .int .i64 0, .int .i64 0, .int .i64 0, .int .i64 0, .int .i64 0, .int .i64 0, .int .i64 0, .int .i64 0, .int .i64 0, .int .i64 0, .int .i64 0, .slice none 0 0] 38))
  have Hbz0 := hide (Blk.new w 38 #[.int .i64 0, .int .i64 0, .int .i64 0, .int .i64 0, .int .i64 0, .int .i64 0, .int .i64 0, .int .i64 0, .int .i64 0, .int .i64 0, .int .i64 0, .int .i64 0, .int .i64 0, .int .i64 0, .int .i64 0, .int .i64 0, .int .i64 0, .int .i64 0, .int .i64 0, .int .i64 0, .int .i64 0, .slice none 0 0])
  have HQ := hide (words_any _ (tab_sm h.tab Hs0.out))
  unfold WdsEnd at HQ
  simp only [World.size_alloc] at HQ
  have HW := hide (fun w' (hs : Same w w') => rword_pop w' (h.at_.same hs) hpw)
  have HIx := hide (fun (w' : World) (gw : Nat) (hb : Blk w' gw 9 (wds wordsA).toArray) => index_any wordsA x gw w' hb (by decide))
  rw [hp] at HIx
  have HI := hide (fun w' (hc : Chg (fun k => k = g) w w') (hr : RdrAt w' g l) => have r := h.next hc hr (by cases ws with | nil => simp [popW] at hpw | cons y r => (simp [popW] at hpw; obtain ⟨rfl, rfl⟩ := hpw; exact h.fit.tail)); rint_pop w' r.at_ r.err r.far r.fit hi)
  have HJ := hide (fun w' (hc : Chg (fun k => k = g) w w') (hr : RdrAt w' g l1) => have r := h.next hc hr (FitW.popI (by cases ws with | nil => simp [popW] at hpw | cons y r => (simp [popW] at hpw; obtain ⟨rfl, rfl⟩ := hpw; exact h.fit.tail)) hi); rbytes_pop w' r.at_ r.fit hj)
  have HE := hide (fun w' (A : Option Addr) (c : Nat) (hs : Chg (fun k => k = g) w w') (k1 : Rd w' A (bs (bytesW oneW y))) (k2 : ∀ b, blkOf A = some b → w.heap.size ≤ b) (k3 : (bytesW oneW y).length ≤ c) (k4 : c ≤ maxLen) => (show ActEnd g ws w (.returned (.agg (acW 5 id 0 (rqL rqz) (.slice A (bytesW oneW y).length c)).toArray)) w' from ⟨.inl ⟨⟨5, id, 0, rqz, bytesW oneW y⟩, A, c, by unfold actW; rw [hpw]; simp [hp, hi, hj], rfl, ⟨k1, k3, k4⟩, k2⟩, hs⟩))
  have HRz1 := hide (one_rqL rqz)
  unfold BytesEnd at HJ
  clear h hpw hp hi hj
  generalize ActEnd g ws w = Q at *
  generalize bytesW oneW y = B at *
  go_enter Tryz.func39, Tryz.ntmps39
  go_wp2_with (first
    | (go_at_call 55; (refine HQ.out.mono ?_); rintro e w1 ⟨rfl, hw1⟩; have Hs1 := hide (show Same w w1 from hw1 ▸ Chg.alloc Hs0.out _); have Hbz1 := hide (show Blk w1 w.heap.size 38 #[.int .i64 0, .int .i64 0, .int .i64 0, .int .i64 0, .int .i64 0, .int .i64 0, .int .i64 0, .int .i64 0, .int .i64 0, .int .i64 0, .int .i64 0, .int .i64 0, .int .i64 0, .int .i64 0, .int .i64 0, .int .i64 0, .int .i64 0, .int .i64 0, .int .i64 0, .int .i64 0, .int .i64 0, .slice none 0 0] from hw1 ▸ Blk.alloc Hbz0.out _); have Hbw1 := hide (show Blk w1 (w.heap.size + 1) 9 (wds wordsA).toArray by rw [hw1]; have h := Blk.new (w.alloc (.cells #[.int .i64 0, .int .i64 0, .int .i64 0, .int .i64 0, .int .i64 0, .int .i64 0, .int .i64 0, .int .i64 0, .int .i64 0, .int .i64 0, .int .i64 0, .int .i64 0, .int .i64 0, .int .i64 0, .int .i64 0, .int .i64 0, .int .i64 0, .int .i64 0, .int .i64 0, .int .i64 0, .int .i64 0, .slice none 0 0] 38)) 9 (wds wordsA).toArray; rw [World.size_alloc] at h; exact h); clear hw1)
    | (go_at_call 56; (refine (HW.out _ Hs1.out).mono ?_); rintro e w2 ⟨rfl, hc2, hr2⟩; have Hr2 := hide hr2; have Hc2 := hide (Chg.trans (Same.to (S := fun k => k = g) Hs1.out) hc2 (fun _ _ h => h)); have Hbz2 := hide (Hbz1.out.chg hc2 (by have := Hgw.out; show ¬ w.heap.size = g; omega)); have Hbw2 := hide (Hbw1.out.chg hc2 (by have := Hgw.out; show ¬ w.heap.size + 1 = g; omega)); have hga : ¬ w2.heap.size = g := (by have := Hgw.out; have := Hc2.out.size; omega); have Hga := hide hga; have hgz : ¬ w2.heap.size = w.heap.size := (by have := Hc2.out.size; have := Hbz2.out.lt; omega); have Hgz := hide hgz; clear hr2 hc2 hga hgz)
    | (go_at_call 54; (refine (HIx.out _ _ Hbw2.out).mono ?_); rintro e w3 ⟨rfl, hw3⟩; subst hw3)
    | (refine wpList_st (by rfl) 38 _ _ rfl rfl (acW 5 0 0 (rqL rqz) (.slice none 0 0)) rfl _ _ (by rw [acW_len (rqL_len rqz)]; exact infoAct) (by rw [acW_len (rqL_len rqz)]; rfl) (one_acW _ _ _ (one_rqL rqz) rfl) ?_; have hb3 := Blk.new w2 38 (acW 5 0 0 (rqL rqz) (.slice none 0 0)).toArray; have hs3 := (Chg.refl (fun _ => False) w2).alloc (.cells (acW 5 0 0 (rqL rqz) (.slice none 0 0)).toArray 38); generalize w2.alloc (.cells (acW 5 0 0 (rqL rqz) (.slice none 0 0)).toArray 38) = w3 at hb3 hs3 ⊢; have Hb3 := hide hb3; have Hs3 := hide hs3; have hk30 := hb3.cell 0; rw [acW_get0] at hk30; clear hb3 hs3)
    | (go_at_call 57; (with_reducible refine (HI.out _ (Chg.same Hc2.out Hs3.out) (Hr2.out.same Hs3.out)).mono ?_); rintro e w4 ⟨rfl, hc4, hr4⟩; have Hr4 := hide hr4; have Hc4 := hide (Chg.trans (Chg.same Hc2.out Hs3.out) hc4 (fun _ _ h => h)); have Hba4 := hide (Hb3.out.chg hc4 Hga.out); have Hbz4 := hide ((Hbz2.out.same Hs3.out).chg hc4 (by have := Hgw.out; show ¬ w.heap.size = g; omega)); have hka0 := Hba4.out.cell 0; rw [acW_get0] at hka0; have hka1 := Hba4.out.cell 1; rw [acW_get1] at hka1; have hka2 := Hba4.out.cell 2; rw [acW_get2] at hka2; have hfa := Hba4.out.frozen; clear hr4 hc4; have Hw24 := hide (show w.heap.size ≤ w2.heap.size from Hc2.out.size); have Hba5 := hide (show Blk (w4.setCell ⟨w2.heap.size, 1, none⟩ (.int .i64 id)) w2.heap.size 38 (acW 5 id 0 (rqL rqz) (.slice none 0 0)).toArray from (by have h9 := Hba4.out.set_ 1 (.int .i64 id); rwa [acW_set1] at h9)); have Hbz5 := hide (Hbz4.out.far (p := ⟨w2.heap.size, 1, none⟩) (fun e => Hgz.out e.symm) (.int .i64 id)); have Hc5 := hide (Chg.setCell Hc4.out (p := ⟨w2.heap.size, 1, none⟩) (.inr Hw24.out) (.int .i64 id)); have Hr5 := hide (RdrAt.far Hr4.out Hba4.out (acW_noStr _ _ _ (rqL_noStr rqz) rfl) Hga.out (Chg.setCell (p := ⟨w2.heap.size, 1, none⟩) (Chg.refl (fun k => k = w2.heap.size) w4) (.inl rfl) (.int .i64 id))))
    | (go_at_call 59; (with_reducible refine (HJ.out _ Hc5.out Hr5.out).mono ?_); rintro e w6 ⟨A6, c6, rfl, k1, k2, k3, k4, hc6, hr6⟩; have Hc6 := hide (Chg.trans Hc5.out hc6 (fun _ _ h => h)); have Hba6 := hide (Hba5.out.chg hc6 Hga.out); have Hbz6 := hide (Hbz5.out.chg hc6 (by have := Hgw.out; show ¬ w.heap.size = g; omega)); have hkb21 := Hba6.out.cell 21; rw [acW_get21 _ _ _ (rqL_len rqz)] at hkb21; have hfb := Hba6.out.frozen; have Hba7 := hide (show Blk (w6.setCell ⟨w2.heap.size, 21, none⟩ (.slice A6 B.length c6)) w2.heap.size 38 (acW 5 id 0 (rqL rqz) (.slice A6 B.length c6)).toArray from (by have h9 := Hba6.out.set_ 21 (.slice A6 B.length c6); rwa [acW_set21 _ _ _ (rqL_len rqz)] at h9)); have Hbz7 := hide (Hbz6.out.far (p := ⟨w2.heap.size, 21, none⟩) (fun e => Hgz.out e.symm) (.slice A6 B.length c6)); have Hc7 := hide (Chg.setCell Hc6.out (p := ⟨w2.heap.size, 21, none⟩) (.inr Hw24.out) (.slice A6 B.length c6)); have K1 := hide k1; have K2 := hide (fun b hb => (show w2.heap.size < b from Nat.lt_of_lt_of_le (show w2.heap.size < (w4.setCell ⟨w2.heap.size, 1, none⟩ (.int .i64 id)).heap.size by have := Hba5.out.lt; exact this) (k2 b hb))); have K3 := hide k3; have K4 := hide k4; clear hc6 hr6 k1 k2 k3 k4)
    | (refine wpList_ld (by rfl) 38 _ rfl w2.heap.size 0 rfl _ _ (blk_range Hba7.out) Tryz.underlying38 rfl (by rw [acW_len (rqL_len rqz)]; exact infoAct) ?_)
    | (refine wpList_store_row (by rfl) 38 _ _ rfl w.heap.size _ rfl rfl 38 _ Hbz7.out (by rw [List.size_toArray, acW_len (rqL_len rqz)]; exact infoAct) (show (22 : Nat) = _ by rw [List.size_toArray, acW_len (rqL_len rqz)]) (all_oneCell_toArray (one_acW _ _ _ HRz1.out rfl)) ?_)
    | fail)
  refine bodyPost_ret (results_cell_row rfl _ _ _ _ _ _ _ rfl (Blk.setRow_ Hbz7.out _) Tryz.underlying38 rfl (by rw [List.size_toArray, acW_len (rqL_len rqz)]; exact infoAct)) (by rfl) ?_
  refine HE.out _ _ _ (Chg.setRow Hc7.out (.inr (Nat.le_refl _)) _) ?_ (fun b hb => by have := K2.out b hb; have := Hw24.out; omega) K3.out K4.out
  exact (K1.out.setCell (p := ⟨w2.heap.size, 21, none⟩) (fun e => by have := K2.out _ e; exact absurd this (Nat.lt_irrefl _)) _).chg (Chg.setRow (S := fun k => k = w.heap.size) (Chg.refl _ _) (.inl rfl) _) (fun b hb _ e => by have h1 := K2.out b hb; have h2 := Hw24.out; have e' : b = w.heap.size := e; omega)
theorem ract_any {g : Nat} {ws : List (List UInt8)} (w : World) (h : Rdy g w ws) :
    Calls Tryz.prog 39 #[.pointer (some ⟨g, 0, none⟩)] w (ActEnd g ws w) := by
  cases hpw : popW ws with
  | error c => exact ract_none w h hpw
  | ok q =>
    obtain ⟨x, l⟩ := q
    have hin := place_inA x
    by_cases h4 : placeOf wordsA x = 4
    · cases hi : popI l with
      | error c => exact ract_clean_bad w h hpw h4 hi
      | ok q => exact ract_clean w h hpw h4 hi
    · cases hi : popI l with
      | error c => exact ract_id_bad w h hpw rfl h4 hi
      | ok q =>
        obtain ⟨id, l1⟩ := q
        by_cases h1 : placeOf wordsA x = 1
        · cases hj : reqW l1 with
          | error c => exact ract_want_bad w h hpw h1 hi hj
          | ok r => exact ract_want w h hpw h1 hi hj
        · by_cases h2 : placeOf wordsA x = 2
          · cases hj : popI l1 with
            | error c => exact ract_step_bad w h hpw h2 hi hj
            | ok q => exact ract_step w h hpw h2 hi hj
          · by_cases h5 : placeOf wordsA x = 5
            · cases hj : popW l1 with
              | error c => exact ract_send_bad w h hpw h5 hi hj
              | ok q => exact ract_send w h hpw h5 hi hj
            · by_cases h3 : placeOf wordsA x = 3
              · exact ract_abort w h hpw h3 hi
              · exact ract_noneword w h hpw (by omega) hi
end Go.Proofs.YtlodanjpkjfjiaaGreatDoor
