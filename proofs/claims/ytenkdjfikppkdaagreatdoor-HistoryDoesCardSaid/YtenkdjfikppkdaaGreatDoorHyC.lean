/-
  Plain law: an operation adds one entry at most, and keeps lists rising. No conditions.
  A table and the document's set side by side, while requests are done to both. Condition: at most 1048576 entries for the table, at most 30000 in all.
  A row of integers that was read while the document's set was written: it is as it was. No conditions.
-/
import Derived.Test.YtenkdjfikppkdaaGreatDoorTbE
import Derived.Test.YtenkdjfikppkdaaGreatDoorQyP
import Derived.Test.YtenkdjfikppkdaaGreatDoorRfG
import Derived.Test.YtenkdjfikppkdaaGreatDoorHsD
import Derived.Test.YtenkdjfikppkdaaGreatDoorTdE
import Derived.Test.YtenkdjfikppkdaaGreatDoorTcA
/-! DoL -/
namespace Go.Proofs.YtenkdjfikppkdaaGreatDoor
open Go.RowKit Go.Al
set_option linter.unusedVariables false

/-- an operation adds one entry at most, and keeps lists rising -/
theorem len_put (q : P3) (l : List P3) : (put3 q l).length ≤ l.length + 1 := by
  have h1 : (put3 q l).length = (del3 q.1 l).length + 1 := by
    unfold put3
    induction del3 q.1 l with
    | nil => rfl
    | cons x r ih =>
      unfold ins3
      split
      · rfl
      · simp only [List.length_cons, ih]
  have h2 : (del3 q.1 l).length ≤ l.length := List.length_filter_le _ _
  omega
theorem does_len (r : Rq) (p s : List P3) (most : Int) : (doesP r p s most).length ≤ p.length + 1 ∧ (doesS r p s most).length ≤ s.length + 1 := by
  unfold doesP doesS
  cases goodR r && decide (r.k = 1)
  · exact ⟨Nat.le_succ _, Nat.le_succ _⟩
  · rw [if_pos rfl, if_pos rfl]
    unfold doP' doS'
    by_cases hm : mayE p s most r.c = 0
    · rw [if_pos hm, if_pos hm]
      obtain ⟨hk, _⟩ := may_zero hm
      obtain ⟨rk, ⟨k, q, x⟩, rq⟩ := r
      simp only at hk
      rcases hk with rfl | rfl | rfl | rfl
      · exact ⟨len_put _ _, Nat.le_succ _⟩
      · exact ⟨Nat.le_succ_of_le (List.length_filter_le _ _), Nat.le_succ _⟩
      · exact ⟨Nat.le_succ _, len_put _ _⟩
      · exact ⟨Nat.le_succ _, Nat.le_succ_of_le (List.length_filter_le _ _)⟩
    · rw [if_neg hm, if_neg hm]
      exact ⟨Nat.le_succ _, Nat.le_succ _⟩
theorem does_srt (r : Rq) {p s : List P3} (most : Int) (sp : Srt p) (ss : Srt s) : Srt (doesP r p s most) ∧ Srt (doesS r p s most) := by
  unfold doesP doesS
  cases goodR r && decide (r.k = 1)
  · exact ⟨sp, ss⟩
  · rw [if_pos rfl, if_pos rfl]
    unfold doP' doS'
    by_cases hm : mayE p s most r.c = 0
    · rw [if_pos hm, if_pos hm]
      obtain ⟨hk, _⟩ := may_zero hm
      obtain ⟨rk, ⟨k, q, x⟩, rq⟩ := r
      simp only at hk
      rcases hk with rfl | rfl | rfl | rfl
      · exact ⟨sp.put _, ss⟩
      · exact ⟨sp.del _, ss⟩
      · exact ⟨sp, ss.put _⟩
      · exact ⟨sp, ss.del _⟩
    · rw [if_neg hm, if_neg hm]
      exact ⟨sp, ss⟩
end Go.Proofs.YtenkdjfikppkdaaGreatDoor
/-! HyB -/
namespace Go.Proofs.YtenkdjfikppkdaaGreatDoor
open Go.RowKit Go.Al
set_option linter.unusedVariables false

theorem SetR.past_maps {w w' : World} {g cp cs pm sm : Nat} {AP AS : Option Addr} {most : Int} {p s p2 s2 : List P3} (h : SetR w g AP cp AS cs most p2 s2) (hp : MapI w pm p) (hs : MapI w sm s) (hc : Chg (fun k => k = pm ∨ k = sm) w w') : SetR w' g AP cp AS cs most p2 s2 := by
  have hg : ¬ (g = pm ∨ g = sm) := by
    have h0 := h.blk.cell 0
    simp at h0
    rintro (rfl | rfl)
    · exact no_map h0 hp
    · exact no_map h0 hs
  refine ⟨h.blk.chg hc hg, ⟨Rd.past_maps h.rp.1 hp hs hc, h.rp.2.1, h.rp.2.2.1, h.rp.2.2.2.1, fun b hb => Nat.lt_of_lt_of_le (h.rp.2.2.2.2 b hb) hc.size⟩, ⟨Rd.past_maps h.rs.1 hp hs hc, h.rs.2.1, h.rs.2.2.1, h.rs.2.2.2.1, fun b hb => Nat.lt_of_lt_of_le (h.rs.2.2.2.2 b hb) hc.size⟩, h.np, h.ns⟩
/-- a table with p and s, and a set with p2 and s2 -/
structure Sd (w0 w : World) (g pm sm h : Nat) (most : Int) (p s p2 s2 : List P3) : Prop where
  same : Same w0 w
  tab : Tab w g pm sm most p s
  set : ∃ AP cp AS cs, SetR w h AP cp AS cs most p2 s2
  srtP : Srt p2
  srtS : Srt s2
  fp : w0.heap.size ≤ pm
  fs : w0.heap.size ≤ sm
  fh : w0.heap.size ≤ h
  gh : g ≠ h
theorem Sd.apart {w0 w : World} {g pm sm h : Nat} {most : Int} {p s p2 s2 : List P3} (d : Sd w0 w g pm sm h most p s p2 s2) : pm ≠ h ∧ sm ≠ h := by
  obtain ⟨AP, cp, AS, cs, hR⟩ := d.set
  have h0 := hR.blk.cell 0
  simp at h0
  exact ⟨fun e => by subst e; exact no_map h0 d.tab.mp, fun e => by subst e; exact no_map h0 d.tab.ms⟩
theorem Sd.go {w0 w w' : World} {g pm sm h : Nat} {most : Int} {p s p2 s2 : List P3} (d : Sd w0 w g pm sm h most p s p2 s2) (hs : Same w w') : Sd w0 w' g pm sm h most p s p2 s2 :=
  ⟨Same.trans d.same hs, d.tab.same hs, d.set.imp fun AP ⟨cp, AS, cs, hR⟩ => ⟨cp, AS, cs, hR.same hs⟩, d.srtP, d.srtS, d.fp, d.fs, d.fh, d.gh⟩
theorem sd_table {w0 w w' : World} {g pm sm h : Nat} {most : Int} {p s p2 s2 p' s' : List P3} (d : Sd w0 w g pm sm h most p s p2 s2) (ht : Tab w' g pm sm most p' s') (hc : Chg (fun k => k = pm ∨ k = sm) w w') : Sd w0 w' g pm sm h most p' s' p2 s2 := by
  obtain ⟨AP, cp, AS, cs, hR⟩ := d.set
  refine ⟨Chg.fresh (S := fun k => w0.heap.size ≤ k) (Chg.trans (d.same.to) hc fun k _ e => ?_) fun _ h => h, ht, ⟨AP, cp, AS, cs, hR.past_maps d.tab.mp d.tab.ms hc⟩, d.srtP, d.srtS, d.fp, d.fs, d.fh, d.gh⟩
  rcases e with e | e
  · subst e; exact d.fp
  · subst e; exact d.fs
theorem sd_set {w0 w w' : World} {g pm sm h : Nat} {most : Int} {p s p2 s2 p' s' : List P3} (d : Sd w0 w g pm sm h most p s p2 s2) (hr : ∃ AP cp AS cs, SetR w' h AP cp AS cs most p' s') (sp : Srt p') (ss : Srt s') (hc : Chg (fun k => k = h) w w') : Sd w0 w' g pm sm h most p s p' s' :=
  ⟨Chg.fresh (S := fun k => w0.heap.size ≤ k) (Chg.trans (d.same.to) hc fun k _ e => by subst e; exact d.fh) fun _ h => h, d.tab.chg hc d.gh d.apart.1 d.apart.2, hr, sp, ss, d.fp, d.fs, d.fh, d.gh⟩
end Go.Proofs.YtenkdjfikppkdaaGreatDoor
/-! HyC -/
namespace Go.Proofs.YtenkdjfikppkdaaGreatDoor
open Go.RowKit Go.Al
set_option linter.unusedVariables false

/-- the set's own block holds no integer but 'most', and keeps that -/
theorem Rd.past_set {w w' : World} {A AP AS AP' AS' : Option Addr} {l : List Int} {h cp cs cp' cs' : Nat} {most : Int} {p s p' s' : List P3} (hr : Rd w A (is l)) (h1 : SetR w h AP cp AS cs most p s) (h2 : SetR w' h AP' cp' AS' cs' most p' s') (hc : Chg (fun k => k = h) w w') : Rd w' A (is l) := by
  intro hx
  obtain ⟨b, off, e, hcell⟩ := hr hx
  refine ⟨b, off, e, fun i x hi => ?_⟩
  have hw := hcell i x hi
  by_cases hb : b = h
  · subst hb
    obtain ⟨n, rfl⟩ : ∃ n, x = .int .i64 n := by
      unfold is at hi
      rw [List.getElem?_map] at hi
      cases hn : l[i]? with
      | none => rw [hn] at hi; cases hi
      | some n => rw [hn] at hi; exact ⟨n, (Option.some.inj hi).symm⟩
    have k1 := h1.blk.cell (off + i)
    have k2 := h2.blk.cell (off + i)
    rw [k1] at hw
    rw [k2]
    generalize off + i = j at *
    match j with
    | 0 => simp at hw
    | 1 => simp at hw
    | 2 => simpa using hw
    | j + 3 => simp at hw
  · exact (hc.cell (p := ⟨b, off + i, none⟩) (World.block_lt_of_cell? (a := ⟨b, off + i, none⟩) w hw) hb).trans hw
theorem RpAt.past_set {w w' : World} {t : Rp} {AP AS AP' AS' : Option Addr} {h cp cs cp' cs' : Nat} {most : Int} {p s p' s' : List P3} (hr : RpAt w t) (h1 : SetR w h AP cp AS cs most p s) (h2 : SetR w' h AP' cp' AS' cs' most p' s') (hc : Chg (fun k => k = h) w w') : RpAt w' t :=
  hr.keep (Rd.past_set hr.rd h1 h2 hc)
/-- what each operation of the loop's last region changes: the ninth writes the document's set -/
def EffD (h : Nat) : Nat → World → World → Prop
  | 9 => Chg fun k => k = h
  | _ => Same
theorem EffD.to {h i : Nat} {w w' : World} (he : EffD h i w w') : Chg (fun k => k = h) w w' := by
  unfold EffD at he
  split at he
  · exact he
  · exact Same.to he
theorem EffD.same {h i : Nat} {w w' : World} (hi : i ≠ 9) (he : EffD h i w w') : Same w w' := by
  unfold EffD at he
  split at he
  · exact absurd rfl hi
  · exact he
theorem EffD.refl (h i : Nat) (w : World) : EffD h i w w := by
  unfold EffD
  split
  · exact Chg.refl _ w
  · exact Chg.refl _ w
/-- what is known, when operation k begins, of what came before: of the ninth, that it has not run -/
def RelD (h : Nat) : Nat → World → World → Prop
  | 9 => Same
  | _ => Chg fun k => k = h
theorem RelD.to {h i : Nat} {w w' : World} (he : RelD h i w w') : Chg (fun k => k = h) w w' := by
  unfold RelD at he
  split at he
  · exact Same.to he
  · exact he
theorem RelD.of {h k i : Nat} {w w' : World} (hik : i ≠ k) (he : EffD h i w w') : RelD h k w w' := by
  unfold RelD
  split
  · exact EffD.same hik he
  · exact EffD.to he
theorem RelD.other {h k : Nat} (hk : k ≠ 9) : RelD h k = Chg fun k => k = h := by
  unfold RelD
  split
  · exact absurd rfl hk
  · rfl
theorem RelD.trans {h k : Nat} {a b c : World} (h1 : RelD h k a b) (h2 : RelD h k b c) : RelD h k a c := by
  by_cases hk : k = 9
  · subst hk
    exact Same.trans (show Same a b from h1) (show Same b c from h2)
  · rw [RelD.other hk] at *
    exact Chg.trans h1 h2 fun _ _ h => h
theorem RelD.drew {h k : Nat} (w : World) : RelD h k w w.drew := by
  unfold RelD
  split
  · exact (Chg.refl _ w).drew
  · exact (Chg.refl _ w).drew
end Go.Proofs.YtenkdjfikppkdaaGreatDoor
