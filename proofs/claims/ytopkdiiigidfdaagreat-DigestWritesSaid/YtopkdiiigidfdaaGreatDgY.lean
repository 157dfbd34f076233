/-
  digest.well, Write; digest's reader: int, many. Conditions: at most 2000 points and intervals to write; at most 1048576 bytes to read.
-/
import Derived.Test.YtopkdiiigidfdaaGreatDgX
import Derived.Test.YtopkdiiigidfdaaGreatDgB
import Derived.Test.YtopkdiiigidfdaaGreatDgC
import Derived.Test.YtopkdiiigidfdaaGreatDgR
import Derived.Test.YtopkdiiigidfdaaGreatTrA
namespace Go.Proofs.YtopkdiiigidfdaaGreat
open Go.RowKit Go.Al
set_option linter.unusedVariables false

set_option maxRecDepth 100000 in
set_option maxHeartbeats 4000000 in
theorem well_any {A1 A2 : Option Addr} {n1 c1 n2 c2 : Nat} (p s : List P3) (w : World) (h1 : Row3 w A1 n1 c1 p) (h2 : Row3 w A2 n2 c2 s) (hb1 : n1 ≤ 500000) (hb2 : n2 ≤ 500000) :
    Calls Tryz.prog 47 #[.slice A1 n1 c1, .slice A2 n2 c2] w fun e w' => e = .returned (.bool (wellB p s)) ∧ Same w w' := by
  have HP := hide (risP_any p w h1 (by omega))
  have HS := hide (fun w' (hs : Same w w') => risS_any s w' (h2.same hs) (by omega))
  unfold wellB
  generalize risB goodPB p = a at *
  generalize risB fairB s = b at *
  clear h1 h2
  have hw : IntKind.i64.wrap (1048576 - (n2 : Int)) = 1048576 - (n2 : Int) := IntWalk.i64_in _ (by omega)
  have hle : (n1 : Int) ≤ 1048576 - (n2 : Int) := by omega
  cases a
  all_goals cases b
  all_goals
    go_enter Tryz.func47, Tryz.ntmps47
    go_wp2_with (first
      | (go_at_call 78; (with_reducible refine HP.out.mono ?_); rintro e w1 ⟨rfl, hs⟩; have Hs1 := hide hs; clear hs)
      | (go_at_call 81; (with_reducible refine (HS.out _ Hs1.out).mono ?_); rintro e w2 ⟨rfl, hs⟩; have Hs2 := hide (Same.trans Hs1.out hs); clear hs)
      | fail)
    go_ret
    exact ⟨rfl, by first | exact Hs2.out | exact Hs1.out⟩
/-- how Write ends -/
def WrEnd (w : World) (p s : List P3) (e : Ending) (w' : World) : Prop :=
  Same w w' ∧ ((wellB p s = false ∧ e = .returned (.tuple #[.slice none 0 0, .int .i64 8])) ∨
    (wellB p s = true ∧ ∃ A c, e = .returned (.tuple #[.slice A (wrtD p s).length c, .int .i64 0]) ∧ w'.ownsRow w.heap.size 5 1 (.slice A (wrtD p s).length c) (wrtD p s).length (bs (wrtD p s))))
set_option maxRecDepth 100000 in
set_option maxHeartbeats 4000000 in
theorem Write_any {A1 A2 : Option Addr} {n1 c1 n2 c2 : Nat} (p s : List P3) (w : World) (h1 : Row3 w A1 n1 c1 p) (h2 : Row3 w A2 n2 c2 s) (hb1 : n1 ≤ 2000) (hb2 : n2 ≤ 2000) :
    Calls Tryz.prog 20 #[.slice A1 n1 c1, .slice A2 n2 c2] w (WrEnd w p s) := by
  have HW := hide (well_any p s w h1 h2 (by omega) (by omega))
  cases hv : wellB p s
  · rw [hv] at HW
    have HE0 : Hid (∀ w1, Same w w1 → WrEnd w p s (.returned (.tuple #[.slice none 0 0, .int .i64 8])) w1) := hide fun w1 h => ⟨h, .inl ⟨hv, rfl⟩⟩
    clear h1 h2 hv
    go_enter Tryz.func20, Tryz.ntmps20
    go_wp2_with (first
      | (go_at_call 47; (with_reducible refine HW.out.mono ?_); rintro e w1 ⟨rfl, hs⟩; have Hs1 := hide hs; clear hs)
      | fail)
    go_ret2
    exact HE0.out _ Hs1.out
  · rw [hv] at HW
    have HX := hide (fun w' (hs : Same w w') => written_any p s w' (h1.same hs) (h2.same hs) hv hb1 hb2)
    have HE : Hid (∀ w1 e w', Same w w1 → WritEnd w1 (wrtD p s) e w' → ∃ A c, e = .returned (.slice A (wrtD p s).length c) ∧ WrEnd w p s (.returned (.tuple #[.slice A (wrtD p s).length c, .int .i64 0])) w') := hide fun w1 e w' hs h => by
      obtain ⟨A, c, he, ho, hs2⟩ := h
      exact ⟨A, c, he, Same.trans hs hs2, .inr ⟨hv, A, c, rfl, own_mono ho fun b hb => Nat.le_trans hs.size (ho.lt b hb).1⟩⟩
    clear h1 h2 hv
    go_enter Tryz.func20, Tryz.ntmps20
    go_wp2_with (first
      | (go_at_call 47; (with_reducible refine HW.out.mono ?_); rintro e w1 ⟨rfl, hs⟩; have Hs1 := hide hs; clear hs)
      | (go_at_call 48; (with_reducible refine (HX.out _ Hs1.out).mono ?_); rintro e w2 h; obtain ⟨A, c, rfl, ho⟩ := HE.out _ _ _ Hs1.out h; have Ho := hide ho; clear h ho)
      | fail)
    go_ret2
    exact Ho.out
theorem infoAll : (Tryz.prog.info? 113).map (·.size) = some 2 := by kernel_rfl
/-- the reader: its block holds the bytes that are left -/
structure Rdr (w : World) (g B : Nat) (l : List UInt8) : Prop where
  st : ∃ A n c, Blk w g 176 #[.slice A n c] ∧ Rd w A (bs l) ∧ l.length = n ∧ n ≤ c ∧ c ≤ maxLen ∧ (∀ b, blkOf A = some b → ¬ b = g ∧ b < B)
  le : B ≤ w.heap.size
theorem Rdr.chg {S : Nat → Prop} {w w' : World} {g B : Nat} {l : List UInt8} (h : Rdr w g B l) (hc : Chg S w w') (hS : ∀ k, S k → B ≤ k ∧ ¬ k = g) : Rdr w' g B l := by
  obtain ⟨A, n, c, hb, hr, hl, hn, hm, hd⟩ := h.st
  exact ⟨⟨A, n, c, hb.chg hc (fun e => (hS g e).2 rfl), hr.chg hc (fun b e _ hb => by have := (hS b hb).1; have := (hd b e).2; omega), hl, hn, hm, hd⟩, Nat.le_trans h.le hc.size⟩
theorem Rdr.same {w w' : World} {g B : Nat} {l : List UInt8} (h : Rdr w g B l) (hs : Same w w') : Rdr w' g B l := h.chg hs fun _ f => f.elim
theorem Rdr.lt {w : World} {g B : Nat} {l : List UInt8} (h : Rdr w g B l) : g < w.heap.size := by
  obtain ⟨A, n, c, hb, _⟩ := h.st
  exact hb.lt
/-- how a number's reading ends -/
def RdEnd (w : World) (g B : Nat) (q : Option (Int × List UInt8)) (wh : Int) (e : Ending) (w' : World) : Prop :=
  Chg (fun k => k = g) w w' ∧ match q with
  | none => e = .panicked (fault wh 8)
  | some q => e = .returned (.int .i64 q.1) ∧ Rdr w' g B q.2
set_option maxRecDepth 100000 in
set_option maxHeartbeats 8000000 in
theorem rint_any {g B : Nat} (l : List UInt8) (w : World) (h : Rdr w g B l) (hl : l.length ≤ 1048576) :
    Calls Tryz.prog 150 #[.pointer (some ⟨g, 0, none⟩)] w (RdEnd w g B (rdI l) 0) := by
  obtain ⟨A, n, c, hb, hr, hln, hnc, hcm, hd⟩ := h.st
  have HR := hide (Read_any l w hr hln hnc hcm)
  have hkb := hb.cell
  unfold rdI
  cases hq : rdN l with
  | none =>
    rw [hq] at HR
    simp only [rdV] at HR
    clear hb hr hln hnc hcm hd h
    simp only [Option.bind_none]
    go_enter Tryz.func150, Tryz.ntmps150
    go_wp2_with (first
      | (go_at_call 197; (with_reducible refine HR.out.mono ?_); rintro e w1 ⟨rfl, hs⟩; have Hs1 := hide hs; clear hs)
      | (go_at_call 57; (with_reducible refine (Throw_bad _ _ _ (by decide)).mono ?_); rintro e w2 ⟨rfl, rfl⟩)
      | fail)
    exact ⟨rfl, Same.to Hs1.out, rfl⟩
  | some q =>
    obtain ⟨x, r⟩ := q
    obtain ⟨hx, hlr⟩ := rdN_some hq
    rw [hq] at HR
    simp only [rdV] at HR
    have hm : l.length - r.length = (encI x).length := by rw [hlr, List.length_append, Nat.add_sub_cancel]
    have hpos := encI_pos x
    rw [hm] at HR
    have hmn : (encI x).length ≤ n := by rw [← hln, hlr, List.length_append]; omega
    have hrl : r.length = n - (encI x).length := by rw [← hln, hlr, List.length_append]; omega
    have hdrop : (bs l).drop ((encI x).length * 1) = bs r := by rw [hlr, Nat.mul_one]; unfold bs; rw [List.map_append]; exact List.drop_left' (by simp)
    have hbsl : (bs l).length = n * 1 := by simp [bs, hln]
    obtain ⟨m, hm0⟩ : ∃ m, (encI x).length = m := ⟨_, rfl⟩
    rw [hm0] at HR hmn hrl hdrop hpos
    have hm1 : ¬ (m : Int) = 0 := by omega
    have hm2 : ((m : Int) == 0) = false := by simpa using hm1
    have hm3 : ¬ m = 0 := by omega
    simp only [Option.bind_some]
    by_cases hfar : x < -2199023255552 ∨ 2199023255552 < x
    · rw [if_pos hfar]
      clear hb hr hln hnc hcm hd h hq hlr hm hrl hdrop hbsl hm0 hpos hmn
      rcases hfar with hf | hf
      · go_enter Tryz.func150, Tryz.ntmps150
        go_wp2_with (first
          | (go_at_call 197; (with_reducible refine HR.out.mono ?_); rintro e w1 ⟨rfl, hs⟩; have Hs1 := hide hs; clear hs)
          | (go_at_call 57; (with_reducible refine (Throw_bad _ _ _ (by decide)).mono ?_); rintro e w2 ⟨rfl, rfl⟩)
          | fail)
        exact ⟨rfl, Same.to Hs1.out, rfl⟩
      · have hf2 : ¬ x < -2199023255552 := by omega
        go_enter Tryz.func150, Tryz.ntmps150
        go_wp2_with (first
          | (go_at_call 197; (with_reducible refine HR.out.mono ?_); rintro e w1 ⟨rfl, hs⟩; have Hs1 := hide hs; clear hs)
          | (go_at_call 57; (with_reducible refine (Throw_bad _ _ _ (by decide)).mono ?_); rintro e w2 ⟨rfl, rfl⟩)
          | fail)
        exact ⟨rfl, Same.to Hs1.out, rfl⟩
    · rw [if_neg hfar]
      have hf1 : ¬ x < -2199023255552 := by omega
      have hf2 : ¬ (2199023255552 : Int) < x := by omega
      obtain ⟨A2, hcut, hrd2, hbk2⟩ := cut_lo (P := Tryz.prog) (n := n) slB hr hbsl hnc .i64 (m : Int) m rfl hmn
      rw [hdrop] at hrd2
      have HB := hide hb
      have HE : Hid (∀ w1, Same w w1 → Rdr (w1.setCell ⟨g, 0, none⟩ (.slice A2 (n - m) (c - m))) g B r) := hide fun w1 hs => by
        refine ⟨⟨A2, n - m, c - m, by have := (hb.same hs).set_ 0 (.slice A2 (n - m) (c - m)); simpa using this, (hrd2.same hs).setCell (fun e => ?_) _, hrl, by omega, by omega, fun b e => hd b (hbk2.symm.trans e)⟩, by have h8 := h.le; have h9 := hs.size; simp; omega⟩
        · exact (hd g (hbk2.symm.trans e)).1 rfl
      clear hr hln hnc hd h hq hlr hm hrl hdrop hbsl hm0 hfar hrd2 hbk2 hb hx
      go_enter Tryz.func150, Tryz.ntmps150
      go_wp2_with (first
        | (go_at_call 197; (with_reducible refine HR.out.mono ?_); rintro e w1 ⟨rfl, hs⟩; have Hs1 := hide hs; have hk1 := (HB.out.same hs).cell; have hf1 := (HB.out.same hs).frozen; clear hs)
        | fail)
      go_ret
      exact ⟨(Same.to Hs1.out : Chg (fun k => k = g) w w1).setCell (p := ⟨g, 0, none⟩) (.inl rfl) _, rfl, HE.out _ Hs1.out⟩
open Classical in
/-- where many throws -/
noncomputable def whM (l : List UInt8) : Int := if rdI l = none then 0 else 1
theorem whM_none {l : List UInt8} (h : rdI l = none) : whM l = 0 := if_pos h
theorem whM_some {l : List UInt8} {q : Int × List UInt8} (h : rdI l = some q) : whM l = 1 := if_neg (by rw [h]; exact fun e => by cases e)
set_option maxRecDepth 100000 in
set_option maxHeartbeats 8000000 in
theorem many_any {g B : Nat} (l : List UInt8) (w : World) (h : Rdr w g B l) (hl : l.length ≤ 1048576) :
    Calls Tryz.prog 149 #[.pointer (some ⟨g, 0, none⟩)] w (RdEnd w g B (rdM l) (whM l)) := by
  have HI := hide (rint_any l w h hl)
  unfold rdM
  cases hq : rdI l with
  | none =>
    rw [hq] at HI
    rw [whM_none hq]
    simp only [Option.bind_none]
    clear h hq
    go_enter Tryz.func149, Tryz.ntmps149
    go_wp2_with (first
      | (go_at_call 150; (with_reducible refine HI.out.mono ?_); rintro e w1 ⟨hc1, h1⟩; have h2 : e = .panicked (fault 0 8) := h1; subst h2; have Hc1 := hide hc1; clear hc1 h1)
      | fail)
    exact ⟨rfl, Hc1.out, rfl⟩
  | some q =>
    obtain ⟨x, r⟩ := q
    rw [hq] at HI
    rw [whM_some hq]
    have hrl : r.length ≤ l.length := by
      unfold rdI at hq
      cases hn : rdN l with
      | none => rw [hn] at hq; cases hq
      | some z =>
        rw [hn, Option.bind_some] at hq
        split at hq
        · cases hq
        · cases hq
          have := (rdN_some hn).2
          have e := congrArg List.length this
          rw [List.length_append] at e
          omega
    simp only [Option.bind_some]
    have hq3 : IntKind.i64.wrap ((r.length : Int) / 3) = ((r.length / 3 : Nat) : Int) := by rw [show (r.length : Int) / 3 = ((r.length / 3 : Nat) : Int) by omega]; exact IntWalk.i64_in _ (by omega)
    obtain ⟨d, hd⟩ : ∃ d, r.length / 3 = d := ⟨_, rfl⟩
    rw [hd] at hq3 ⊢
    have Hd := hide hd
    clear hd hq h hrl
    by_cases h0 : x < 0
    · rw [if_pos (.inl h0)]
      go_enter Tryz.func149, Tryz.ntmps149
      go_wp2_with (first
        | (go_at_call 150; (with_reducible refine HI.out.mono ?_); rintro e w1 ⟨hc1, h1⟩; obtain ⟨rfl, h2⟩ := h1; have Hc1 := hide hc1; have Hr1 := hide h2; obtain ⟨A1, n1, cc1, hb1, _, hln1, _⟩ := h2.st; have hk1 := hb1.cell; have hq1 := hq3; rw [hln1] at hq1; clear hc1 h2 hb1 hln1)
        | (go_at_call 57; (with_reducible refine (Throw_bad _ _ _ (by decide)).mono ?_); rintro e w2 ⟨rfl, rfl⟩)
        | fail)
      exact ⟨rfl, Hc1.out, rfl⟩
    · have H0 : NotLt x 0 := ⟨h0⟩
      by_cases h1 : (d : Int) < x
      · rw [if_pos (.inr h1)]
        go_enter Tryz.func149, Tryz.ntmps149
        go_wp2_with (first
          | (go_at_call 150; (with_reducible refine HI.out.mono ?_); rintro e w1 ⟨hc1, h1⟩; obtain ⟨rfl, h2⟩ := h1; have Hc1 := hide hc1; have Hr1 := hide h2; obtain ⟨A1, n1, cc1, hb1, _, hln1, _⟩ := h2.st; have hk1 := hb1.cell; have hq1 := hq3; rw [hln1] at hq1; clear hc1 h2 hb1 hln1)
          | (go_at_call 57; (with_reducible refine (Throw_bad _ _ _ (by decide)).mono ?_); rintro e w2 ⟨rfl, rfl⟩)
          | fail)
        exact ⟨rfl, Hc1.out, rfl⟩
      · rw [if_neg (by omega)]
        go_enter Tryz.func149, Tryz.ntmps149
        go_wp2_with (first
          | (go_at_call 150; (with_reducible refine HI.out.mono ?_); rintro e w1 ⟨hc1, h1⟩; obtain ⟨rfl, h2⟩ := h1; have Hc1 := hide hc1; have Hr1 := hide h2; obtain ⟨A1, n1, cc1, hb1, _, hln1, _⟩ := h2.st; have hk1 := hb1.cell; have hq1 := hq3; rw [hln1] at hq1; clear hc1 h2 hb1 hln1)
          | (go_at_call 57; (with_reducible refine (Throw_bad _ _ _ (by decide)).mono ?_); rintro e w2 ⟨rfl, rfl⟩)
          | fail)
        go_ret
        exact ⟨Hc1.out, rfl, Hr1.out⟩
end Go.Proofs.YtopkdiiigidfdaaGreat
