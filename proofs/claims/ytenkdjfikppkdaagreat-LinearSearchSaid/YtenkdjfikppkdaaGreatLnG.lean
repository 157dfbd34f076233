/-
  One turn of the seeker: goes, when what lies deeper is known. Condition: at most 64 operations.
-/
import Derived.Test.YtenkdjfikppkdaaGreatLnF
import Derived.Test.YtenkdjfikppkdaaGreatTdA
import Derived.IntWalk
import Derived.RegionTactic
namespace Go.Proofs.YtenkdjfikppkdaaGreat
open Go.RowKit Go.Al
set_option linter.unusedVariables false

/-- a table that lies apart from the seeker -/
def Apart (sk : Nat) (V : Option Addr) (g pm sm : Nat) : Prop := (g ≠ sk ∧ pm ≠ sk ∧ sm ≠ sk) ∧ ∀ b, blkOf V = some b → b ≠ g ∧ b ≠ pm ∧ b ≠ sm
theorem Tab.far {S : Nat → Prop} {w w' : World} {sk : Nat} {V : Option Addr} {g pm sm : Nat} {most : Int} {p s : List P3} (h : Tab w g pm sm most p s) (ha : Apart sk V g pm sm) (hc : Chg S w w') (hS : ∀ k, S k → k = sk ∨ blkOf V = some k) : Tab w' g pm sm most p s :=
  h.chg hc (fun e => by rcases hS _ e with e | e; exact ha.1.1 e; exact (ha.2 _ e).1 rfl) (fun e => by rcases hS _ e with e | e; exact ha.1.2.1 e; exact (ha.2 _ e).2.1 rfl) (fun e => by rcases hS _ e with e | e; exact ha.1.2.2 e; exact (ha.2 _ e).2.2 rfl)

/-- one more operation is laid -/
theorem seek_push {w4 w5 : World} {sk : Nat} {A : Option Addr} {n c base : Nat} {V' : Option Addr} {cv' : Nat} {done : List Int} {i : Int} {V5 : Option Addr} {c5 : Nat} {o : Obj} (h : Seek w4 sk A n c base V' cv' done)
    (hown : w5.ownsRow base 3 1 (.slice V5 (done.length + 1) c5) (done.length + 1) (is done ++ [.int .i64 i])) (hc : Chg (fun k => blkOf V' = some k) (w4.alloc o) w5) (hb : blkOf V5 = blkOf V' ∨ blkOf V5 = some (w4.alloc o).heap.size) :
    Seek (w5.setCell ⟨sk, 1, none⟩ (.slice V5 (done.length + 1) c5)) sk A n c base V5 c5 (done ++ [i]) ∧ Chg (fun k => k = sk ∨ blkOf V' = some k) w4 (w5.setCell ⟨sk, 1, none⟩ (.slice V5 (done.length + 1) c5)) := by
  have hskl := h.blk.lt
  have hne : ∀ b, blkOf V5 = some b → b ≠ sk := fun b hb' e => by
    subst e
    rcases hb with hb | hb
    · exact h.ne _ (by rw [← hb]; exact hb') rfl
    · rw [hb] at hb'
      simp at hb'
      omega
  have hb5 : Blk w5 sk 80 #[.slice A n c, .slice V' done.length cv'] := (h.blk.alloc o).chg hc (fun e => h.ne _ e rfl)
  refine ⟨⟨?_, ?_, hne⟩, ?_⟩
  · have := hb5.set_ 1 (.slice V5 (done.length + 1) c5)
    rw [List.length_append]
    simpa using this
  · rw [List.length_append, is_append]
    exact own_chg hown ((Chg.refl (fun k => k = sk) w5).set1 1 _) (fun b hb' e => hne b (by rw [ownBlock_slice] at hb'; exact hb') e)
  · exact (((Chg.refl (fun k => k = sk ∨ blkOf V' = some k) w4).alloc o).trans hc (fun k _ hk => .inr hk)).setCell (p := ⟨sk, 1, none⟩) (.inl (.inl rfl)) _
theorem apart_push {w4 : World} {sk : Nat} {V' V5 : Option Addr} {g pm sm : Nat} {o : Obj} (ha : Apart sk V' g pm sm) (h1 : g < w4.heap.size) (h2 : pm < w4.heap.size) (h3 : sm < w4.heap.size) (hb : blkOf V5 = blkOf V' ∨ blkOf V5 = some (w4.alloc o).heap.size) : Apart sk V5 g pm sm :=
  ⟨ha.1, fun b hb' => by
    rcases hb with hb | hb
    · exact ha.2 b (by rw [← hb]; exact hb')
    · rw [hb] at hb'
      simp at hb'
      omega⟩
/-- the operation laid last is taken away -/
theorem seek_pop {w7 w8 : World} {sk : Nat} {A : Option Addr} {n c base : Nat} {V7 : Option Addr} {c7 : Nat} {done : List Int} {i : Int} (h : Seek w7 sk A n c base V7 c7 (done ++ [i])) (hs : Same w7 w8) :
    Seek (w8.setCell ⟨sk, 1, none⟩ (.slice V7 done.length c7)) sk A n c base V7 c7 done := by
  refine ⟨?_, ?_, h.ne⟩
  · have := (h.blk.same hs).set_ 1 (.slice V7 done.length c7)
    simpa using this
  · have h1 := own_chg h.own hs (fun _ _ h => h)
    rw [List.length_append, is_append] at h1
    have h2 := own_shrink (n := done.length) (xs := is done) (x := .int .i64 i) h1 (by simp)
    exact own_chg h2 ((Chg.refl (fun k => k = sk) w8).set1 1 _) (fun b hb' e => h.ne b (by rw [ownBlock_slice] at hb'; exact hb') e)

theorem wrap_dd {d : Nat} (h : d ≤ 64) : IntKind.i64.wrap (d : Int) = (d : Int) := IntWalk.i64_in _ (by omega)
theorem wrap_eq (x : Int) : IntKind.i64.wrap x = wrap64 x := by rw [IntKind.wrap_i64]; unfold wrap64; first | rfl | omega
theorem wrap64_dd {d : Nat} (h : d ≤ 64) : wrap64 (d : Int) = (d : Int) := by
  rw [← wrap_eq]
  exact wrap_dd h
set_option maxRecDepth 100000 in
set_option maxHeartbeats 16000000 in
theorem goes_step {A : Option Addr} {c base : Nat} {l : List Dd} {most : Int} (hl : l.length ≤ 64) (hlc : l.length ≤ c) (hfar : FarD base A l) (p s : List P3) (done : List Int) (gS : Int → Option (List Int)) (res : Option (List Int))
    (h1 : explainsB l done = true → res = some done) (h2 : explainsB l done = false → res = (allL l done).findSome? gS)
    (sk : Nat) (hbk : base ≤ sk) (hdl : done.length ≤ 64)
    (HTl : ∀ (k : Nat) (hk : k < l.length) (w' : World) (g pm sm : Nat), Dds w' A l → Tab w' g pm sm most p s → Calls Tryz.prog 21 #[.pointer (some ⟨g, 0, none⟩), ddV l[k]] w' fun e w'' => e = .returned (.bool (tellsB p s most l[k])) ∧ Tab w'' g pm sm most (doesP l[k].r p s most) (doesS l[k].r p s most) ∧ Chg (fun k => k = pm ∨ k = sm) w' w'')
    (h3 : ∀ (k : Nat) (hk : k < l.length), freeB l done k = true → tellsB p s most l[k] = false → gS k = none)
    (h4 : ∀ (k : Nat) (hk : k < l.length), freeB l done k = true → tellsB p s most l[k] = true → ∀ (w' : World) (V' : Option Addr) (cv' g pm sm : Nat), Dds w' A l → Seek w' sk A l.length c base V' cv' (done ++ [(k : Int)]) → Tab w' g pm sm most (doesP l[k].r p s most) (doesS l[k].r p s most) → Apart sk V' g pm sm →
      Calls Tryz.prog 28 #[.pointer (some ⟨sk, 0, none⟩), .pointer (some ⟨g, 0, none⟩)] w' (GoesEnd w' sk A l.length c base V' (done ++ [(k : Int)]) (gS k)))
    (w : World) (V : Option Addr) (cv g pm sm : Nat) (hD : Dds w A l) (hK : Seek w sk A l.length c base V cv done) (hT : Tab w g pm sm most p s) (hA : Apart sk V g pm sm) :
    Calls Tryz.prog 28 #[.pointer (some ⟨sk, 0, none⟩), .pointer (some ⟨g, 0, none⟩)] w (GoesEnd w sk A l.length c base V done res) := by
  have HD := hide hD
  have HK := hide hK
  have HT := hide hT
  have HA := hide hA
  have HFar := hide hfar
  have Hbk := hide hbk
  have HDl := hide hdl
  have HTl' := hide HTl
  have H3 := hide h3
  have H4 := hide h4
  have H1 := hide h1
  have H2 := hide h2
  have HEx := hide (fun w' (hs : Same w w') => explains_any (c := c) (c2 := cv) w' (hD.same hs) (own_rd (own_chg hK.own hs fun _ _ h => h)) (by omega) (by unfold maxLen; omega))
  have HAll := hide (fun w' (hs : Same w w') => allI_any (c := c) (c2 := cv) w' (hD.same hs) (own_rd (own_chg hK.own hs fun _ _ h => h)) (by omega) (by unfold maxLen; omega) hlc)
  have hm64 : (allL l done).length ≤ 64 := by
    have := allUp_len l done l.length
    rw [allUp_all] at this
    omega
  have Hm64 := hide hm64
  obtain ⟨n, hn⟩ : ∃ n, l.length = n := ⟨_, rfl⟩
  obtain ⟨dn, hdn⟩ : ∃ dn, done.length = dn := ⟨_, rfl⟩
  rw [hn] at HEx HAll hl hlc
  rw [hdn] at HEx HAll
  have Hn := hide hn
  have Hdn := hide hdn
  have hks : ∀ q : SameW w, q.x.cell? ⟨sk, 0, none⟩ = some (.slice A n c) := fun q => by have := (hK.same q.h).blk.cell 0; rw [hn] at this; exact this
  have hkd : ∀ q : SameW w, q.x.cell? ⟨sk, 1, none⟩ = some (.slice V dn cv) := fun q => by have := (hK.same q.h).blk.cell 1; rw [hdn] at this; exact this
  obtain ⟨ex, hex⟩ : ∃ ex, explainsB l done = ex := ⟨_, rfl⟩
  rw [hex] at HEx H1 H2
  clear hD hK hT hA hfar hbk hdl HTl h3 h4 h1 h2 hm64 hn hdn hex
  go_enter Tryz.func28, Tryz.ntmps28
  go_wp2_with fail
  refine wp_region_quiet_same (by kernel_rfl) (by kernel_rfl) ?_
  repeat (quiet_step ((go_at_call 22; exact quiet_sameW (HEx.out _ (SameW.h _)))))
  refine wpQuiet_nil ?_
  rintro W1 ⟨q1, hq1⟩
  have hw1 : Same w W1 := hq1 ▸ q1.h
  clear hq1 q1
  have HW1 := hide hw1
  clear hw1 hks hkd
  cases ex
  · have HR2 := hide (H2.out rfl)
    clear H1 H2
    have HK1 : Hid (∀ w', Same W1 w' → w'.cell? ⟨sk, 0, none⟩ = some (.slice A n c) ∧ w'.cell? ⟨sk, 1, none⟩ = some (.slice V dn cv)) := hide fun w' hs => by
      have h0 := (HK.out.same (Same.trans HW1.out hs)).blk.cell 0
      have h1 := (HK.out.same (Same.trans HW1.out hs)).blk.cell 1
      rw [Hn.out] at h0
      rw [Hdn.out] at h1
      exact ⟨h0, h1⟩
    go_wp2_with fail
    go_region_held3 (fun w' => w'.cell? ⟨sk, 0, none⟩ = some (.slice A n c) ∧ w'.cell? ⟨sk, 1, none⟩ = some (.slice V dn cv))
      (first | exact HK1.out _ Hs2.out | exact HK1.out _ (Chg.drew (Chg.refl _ _)))
      ((go_at_call 44; have hF := HAll.out; refine (hF W1.drew (Chg.drew HW1.out)).mono ?_; rintro e w2 ⟨A2, c2, rfl, hr, hlc2, hcm, hs, hfr⟩; have HRd := hide hr; have Hlc2 := hide hlc2; have Hfr := hide hfr; have Hs2 : Hid (Same W1 w2) := hide (Chg.undrew hs); clear hr hlc2 hcm hs hfr hF))
    go_wp2_with fail
    have HW2 : Hid (Same w w2) := hide (Same.trans HW1.out Hs2.out)
    have HMem := hide (fun x (hx : x ∈ allL l done) => mem_allL.1 hx)
    clear HK1 HEx HAll Hs2
    obtain ⟨xs, hxs⟩ : ∃ xs, allL l done = xs := ⟨_, rfl⟩
    rw [hxs] at HR2 HRd Hlc2 HMem Hm64 ⊢
    clear hxs
    have hm64 : xs.length ≤ 64 := Hm64.out
    go_loopg [6, 7, 27] xs.length (fun k u1 u2 vi wr => ∃ (j : Nat) (V' : Option Addr) (cv' : Nat), j ≤ xs.length ∧ k = xs.length - j ∧ vi = .int .i64 j ∧ Seek wr sk A l.length c base V' cv' done ∧ Chg (fun k => k = sk ∨ blkOf V = some k) w2 wr ∧ (blkOf V' = blkOf V ∨ ∀ b, blkOf V' = some b → w2.heap.size ≤ b) ∧ ∀ x ∈ xs.take j, gS x = none)
    case atStart => exact ⟨0, V, cv, Nat.zero_le _, rfl, rfl, HK.out.same HW2.out, Chg.refl _ _, .inl rfl, by simp⟩
    case round =>
      obtain ⟨j, V', cv', hj, hkk, rfl, hsk, hch, hv, hall⟩ := hrel
      have Hk := hide hkk
      have HSk := hide hsk
      have HCh := hide hch
      have HV := hide hv
      have Hall := hide hall
      clear hkk hsk hch hv hall
      by_cases hlt : j < xs.length
      · obtain ⟨k0, hk0, hx0, hfr0⟩ := HMem.out xs[j] (List.getElem_mem hlt)
        have hDr := (HD.out.same HW2.out).far HFar.out HCh.out (fun k hk => by rcases hk with rfl | hk; exact Hbk.out; exact (HK.out.vlt k hk).1)
        have hTr := (HT.out.same HW2.out).far HA.out HCh.out (fun k hk => hk)
        obtain ⟨b, off, rfl, hbl, hra, hrp⟩ := hDr.at_ hk0
        have hr2 : Rd wr A2 (is xs) := HRd.out.chg HCh.out (fun b' hb' _ hS => by
          have h7 : W1.heap.size ≤ b' := Hfr.out b' hb'
          have h8 := HW1.out.size
          rcases hS with rfl | hS
          · have := HK.out.blk.lt; omega
          · have := (HK.out.vlt b' hS).2; omega)
        obtain ⟨b2, off2, rfl, hc2⟩ := hr2.at_ (i := j) (by simpa using hlt)
        simp only [is, List.getElem_map] at hc2
        rw [hx0] at hc2
        have hgx : gS xs[j] = gS (k0 : Int) := by rw [hx0]
        have hTake : ∀ x ∈ xs.take (j + 1), x ∈ xs.take j ∨ x = (k0 : Int) := fun x hx => by
          rw [List.take_succ_eq_append_getElem hlt, List.mem_append, hx0] at hx
          simpa using hx
        have HTk := hide hTake
        have HGx := hide hgx
        have HDr := hide hDr
        have HTr := hide hTr
        have HRr := hide hra
        have HTd := hide (HTl'.out k0 hk0)
        have HF3 := hide (H3.out k0 hk0 hfr0)
        have HF4 := hide (H4.out k0 hk0 hfr0)
        obtain ⟨d, hd⟩ : ∃ d, l[k0] = d := ⟨_, rfl⟩
        rw [hd] at HRr HTd HF3 HF4
        have Hll := hide (ddL_length d)
        unfold ddV at HTd
        generalize ddL d = L at *
        have hkn : k0 < n := by rw [← Hn.out]; exact hk0
        have hskr : wr.heap.size ≤ wr.heap.size := Nat.le_refl _
        have hskl := HSk.out.blk.lt
        have Hskl := hide hskl
        have h2r := HCh.out.size
        have H2r := hide h2r
        clear hDr hTr hra hrp hr2 hgx hTake hd hskr hskl h2r hx0
        cases htl : tellsB p s most d
        · have HTd0 := hide (fun w' g pm sm h1 h2 => by have := HTd.out w' g pm sm h1 h2; rw [htl] at this; exact this)
          have HF3b := hide (HF3.out htl)
          clear HTd HF3 HF4 htl
          go_wp2_with (first
            | (go_at_call 45; refine (clone_any wr HTr.out).mono ?_; rintro e w3 ⟨g2, rfl, pm2, sm2, ht, hs, z1, z2, z3⟩; have HT3 := hide ht; have Hs3 : Hid (Same wr w3) := hide hs; have Hz3 := hide (And.intro z1 (And.intro z2 z3)); have hk3 := (HSk.out.same hs).blk.cell; rw [Hn.out] at hk3; have Hr3 := hide (rangeAt_same HRr.out hs); clear ht hs z1 z2 z3)
            | (refine wpList_ld (by rfl) 45 _ rfl b (off + k0 * 29) rfl L _ Hr3.out Tryz.underlying45 rfl (by rw [Hll.out]; exact infoDeed) ?_)
            | (go_at_call 21; refine (HTd0.out w3 g2 pm2 sm2 (HDr.out.same Hs3.out) HT3.out).mono ?_; rintro e w4 ⟨rfl, ht, hc⟩; have HT4 := hide ht; have HC4 := hide hc; clear ht hc))
          go_roundg (xs.length - (j + 1))
          case measure => have := Hk.out; omega
          case rel =>
            have z := Hz3.out
            have zl := Hskl.out
            have zr := H2r.out
            refine ⟨j + 1, V', cv', by omega, rfl, by go_num, ?_, ?_, HV.out, ?_⟩
            · exact (HSk.out.same Hs3.out).chg HC4.out (fun e => by rcases e with e | e <;> omega) (fun b hb e => by have := (HSk.out.vlt b hb).2; rcases e with e | e <;> omega)
            · exact (Chg.same HCh.out Hs3.out).trans HC4.out (fun k hk e => by rcases e with e | e <;> omega)
            · intro x hx
              rcases HTk.out x hx with h | h
              · exact Hall.out x h
              · rw [h]; exact HF3b.out
        · have HTd0 := hide (fun w' g pm sm h1 h2 => by have := HTd.out w' g pm sm h1 h2; rw [htl] at this; exact this)
          have HF4a := hide (HF4.out htl)
          clear HTd HF3 HF4 htl
          cases hgs : gS (k0 : Int)
          · have HF4b := hide (fun w' V' cv' g pm sm h1 h2 h3 h4 => by have := HF4a.out w' V' cv' g pm sm h1 h2 h3 h4; rw [hgs] at this; exact this)
            have Hgs := hide hgs
            clear HF4a hgs
            go_wp2_with (first
              | (go_at_call 45; refine (clone_any wr HTr.out).mono ?_; rintro e w3 ⟨g2, rfl, pm2, sm2, ht, hs, z1, z2, z3⟩; have HT3 := hide ht; have Hs3 : Hid (Same wr w3) := hide hs; have Hz3 := hide (And.intro z1 (And.intro z2 z3)); have hk3 := (HSk.out.same hs).blk.cell; rw [Hn.out] at hk3; have Hr3 := hide (rangeAt_same HRr.out hs); clear ht hs z1 z2 z3)
              | (refine wpList_ld (by rfl) 45 _ rfl b (off + k0 * 29) rfl L _ Hr3.out Tryz.underlying45 rfl (by rw [Hll.out]; exact infoDeed) ?_)
              | (go_at_call 21; refine (HTd0.out w3 g2 pm2 sm2 (HDr.out.same Hs3.out) HT3.out).mono ?_; rintro e w4 ⟨rfl, ht, hc⟩; have HT4 := hide ht; have HC4 := hide hc; have HSk4 : Hid (Seek w4 sk (some ⟨b, off, none⟩) l.length c base V' cv' done) := hide ((HSk.out.same Hs3.out).chg hc (fun e => by have z := Hz3.out; have zl := Hskl.out; rcases e with e | e <;> omega) (fun b hb e => by have z := Hz3.out; have zl := (HSk.out.vlt b hb).2; rcases e with e | e <;> omega)); have hk4 := HSk4.out.blk.cell; have hskw4 := HSk4.out.blk.lt; clear ht hc)
              | (at_builtin; refine wpList_appS (by rfl) (.tmp 47) (.tmp 49) _ (by rfl) slI (by rfl) (base := base) (by exact own_chg HSk4.out.own ((Chg.refl (fun _ => False) w4).alloc _) (fun _ _ h => h)) (by rfl) (by rfl) (by exact rd_new w4 _ _) (one_is [(k0 : Int)]) (by have := HDl.out; omega) (by have := HDl.out; omega) (by have := HSk4.out.blk.lt; have := Hbk.out; simp; omega) ?_; intro V5 c5 w5 hown hc hb; have HPu := hide (seek_push HSk4.out hown hc hb); have HB5 := hide hb; have hb5 : Blk w5 sk 80 #[.slice (some ⟨b, off, none⟩) l.length c, .slice V' done.length cv'] := (HSk4.out.blk.alloc _).chg hc (fun e => HSk4.out.ne _ e rfl); have hk5 := hb5.cell; have hf5 := hb5.frozen; clear hown hc hb hb5)
              | (go_at_call 28; have hAp : Apart sk V' g2 pm2 sm2 := ⟨(by have z := Hz3.out; have zl := Hskl.out; omega), fun b hb => by have z := Hz3.out; have zl := (HSk.out.vlt b hb).2; omega⟩; have hD6 := (HDr.out.same Hs3.out).far HFar.out HC4.out (fun k hk => by have z := Hz3.out; have zl := Hskl.out; have := Hbk.out; rcases hk with rfl | rfl <;> omega); have hD7 := hD6.far HFar.out HPu.out.2 (fun k hk => by rcases hk with rfl | hk; exact Hbk.out; exact (HSk.out.vlt k hk).1); have hT6 := HT4.out.far hAp HPu.out.2 (fun k hk => hk); have hAp5 := apart_push hAp HT4.out.blk.lt HT4.out.mp.lt HT4.out.ms.lt HB5.out; have hF := HF4b.out _ V5 c5 g2 pm2 sm2 hD7 HPu.out.1 hT6 hAp5; refine hF.mono ?_; rintro e w7 ⟨rfl, V7, c7, hsk7, hc7, hv7⟩; have HSk7 := hide hsk7; have HC7 := hide hc7; have HV7 := hide hv7; clear hAp hD6 hD7 hT6 hAp5 hF hsk7 hc7 hv7))
            have hsk7 : Seek w7 sk (some ⟨b, off, none⟩) l.length c base V7 c7 (done ++ [(k0 : Int)]) := HSk7.out
            have HK7 := hide hsk7
            have e7 : (done ++ [(k0 : Int)]).length = done.length + 1 := by simp
            have g1 := hsk7.blk.cell 1
            have hf7 := hsk7.blk.frozen 1
            obtain ⟨_, _, hvv, hle, _⟩ := own_form hsk7.own
            cases hvv
            rw [e7] at g1 hle
            obtain ⟨dd, hdd⟩ : ∃ dd, done.length = dd := ⟨_, rfl⟩
            rw [hdd] at g1 hle
            have Hdd := hide hdd
            have hd64 : dd ≤ 64 := by rw [← hdd]; exact HDl.out
            have g2 : w7.cell? ⟨sk, 1, none⟩ = some (.slice V7 (dd + 1) c7) := g1
            have hcut := cut_hi (P := Tryz.prog) slI V7 (dd + 1) c7 .i64 (dd : Int) dd rfl (by omega)
            have hw5 : (0 : Int) ≤ (dd : Int) := by omega
            have hw6 : (dd : Int) ≤ (c7 : Int) := by omega
            have hw3 := wrap_dd hd64
            have hw4 := wrap64_dd hd64
            clear hsk7 e7 g1 hdd hle hd64 hk4 hk5 hf5 hk3
            go_region
            go_wp2_with fail
            have z := Hz3.out
            have zl := Hskl.out
            have zr := H2r.out
            have hch7 : Chg (fun k => k = sk ∨ blkOf V = some k) w2 w7 := by
              have a1 : Chg (fun k => k = sk ∨ blkOf V = some k) w2 w4 := (Chg.same HCh.out Hs3.out).trans HC4.out (fun k hk e => by rcases e with e | e <;> omega)
              have a2 := a1.trans HPu.out.2 (fun k hk e => by
                rcases e with e | e
                · exact .inl e
                · rcases HV.out with h | h
                  · exact .inr (by rw [← h]; exact e)
                  · have := h k e; omega)
              refine a2.trans HC7.out (fun k hk e => ?_)
              rcases e with e | e
              · exact .inl e
              · rcases HB5.out with h5 | h5
                · rw [h5] at e
                  rcases HV.out with h | h
                  · exact .inr (by rw [← h]; exact e)
                  · have := h k e; omega
                · rw [h5] at e
                  simp at e
                  have := a1.size
                  omega
            have hv7 : blkOf V7 = blkOf V ∨ ∀ b, blkOf V7 = some b → w2.heap.size ≤ b := by
              have s4 : w2.heap.size ≤ w4.heap.size := ((Chg.same HCh.out Hs3.out).trans (S' := fun k => k = pm2 ∨ k = sm2) HC4.out (fun k hk e => by rcases e with e | e <;> omega)).size
              rcases HV7.out with h7 | h7
              · rw [h7]
                rcases HB5.out with h5 | h5
                · rw [h5]; exact HV.out
                · right
                  intro b hb
                  rw [h5] at hb
                  simp at hb
                  omega
              · right
                intro b hb
                have := h7 b hb
                have := HPu.out.2.size
                omega
            go_roundg (xs.length - (j + 1))
            case measure => have := Hk.out; omega
            case rel =>
              have hp := seek_pop HK7.out ((Chg.refl (fun _ => False) w7).drew)
              rw [Hdd.out] at hp
              refine ⟨j + 1, V7, c7, by omega, rfl, by go_num, hp, (hch7.drew).setCell (p := ⟨sk, 1, none⟩) (.inl (.inl rfl)) _, hv7, ?_⟩
              intro x hx
              rcases HTk.out x hx with h | h
              · exact Hall.out x h
              · rw [h]; exact Hgs.out
          · rename_i r
            have HF4b := hide (fun w' V' cv' g pm sm h1 h2 h3 h4 => by have := HF4a.out w' V' cv' g pm sm h1 h2 h3 h4; rw [hgs] at this; exact this)
            have Hgs := hide hgs
            clear HF4a hgs
            go_wp2_with (first
              | (go_at_call 45; refine (clone_any wr HTr.out).mono ?_; rintro e w3 ⟨g2, rfl, pm2, sm2, ht, hs, z1, z2, z3⟩; have HT3 := hide ht; have Hs3 : Hid (Same wr w3) := hide hs; have Hz3 := hide (And.intro z1 (And.intro z2 z3)); have hk3 := (HSk.out.same hs).blk.cell; rw [Hn.out] at hk3; have Hr3 := hide (rangeAt_same HRr.out hs); clear ht hs z1 z2 z3)
              | (refine wpList_ld (by rfl) 45 _ rfl b (off + k0 * 29) rfl L _ Hr3.out Tryz.underlying45 rfl (by rw [Hll.out]; exact infoDeed) ?_)
              | (go_at_call 21; refine (HTd0.out w3 g2 pm2 sm2 (HDr.out.same Hs3.out) HT3.out).mono ?_; rintro e w4 ⟨rfl, ht, hc⟩; have HT4 := hide ht; have HC4 := hide hc; have HSk4 : Hid (Seek w4 sk (some ⟨b, off, none⟩) l.length c base V' cv' done) := hide ((HSk.out.same Hs3.out).chg hc (fun e => by have z := Hz3.out; have zl := Hskl.out; rcases e with e | e <;> omega) (fun b hb e => by have z := Hz3.out; have zl := (HSk.out.vlt b hb).2; rcases e with e | e <;> omega)); have hk4 := HSk4.out.blk.cell; have hskw4 := HSk4.out.blk.lt; clear ht hc)
              | (at_builtin; refine wpList_appS (by rfl) (.tmp 47) (.tmp 49) _ (by rfl) slI (by rfl) (base := base) (by exact own_chg HSk4.out.own ((Chg.refl (fun _ => False) w4).alloc _) (fun _ _ h => h)) (by rfl) (by rfl) (by exact rd_new w4 _ _) (one_is [(k0 : Int)]) (by have := HDl.out; omega) (by have := HDl.out; omega) (by have := HSk4.out.blk.lt; have := Hbk.out; simp; omega) ?_; intro V5 c5 w5 hown hc hb; have HPu := hide (seek_push HSk4.out hown hc hb); have HB5 := hide hb; have hb5 : Blk w5 sk 80 #[.slice (some ⟨b, off, none⟩) l.length c, .slice V' done.length cv'] := (HSk4.out.blk.alloc _).chg hc (fun e => HSk4.out.ne _ e rfl); have hk5 := hb5.cell; have hf5 := hb5.frozen; clear hown hc hb hb5)
              | (go_at_call 28; have hAp : Apart sk V' g2 pm2 sm2 := ⟨(by have z := Hz3.out; have zl := Hskl.out; omega), fun b hb => by have z := Hz3.out; have zl := (HSk.out.vlt b hb).2; omega⟩; have hD6 := (HDr.out.same Hs3.out).far HFar.out HC4.out (fun k hk => by have z := Hz3.out; have zl := Hskl.out; have := Hbk.out; rcases hk with rfl | rfl <;> omega); have hD7 := hD6.far HFar.out HPu.out.2 (fun k hk => by rcases hk with rfl | hk; exact Hbk.out; exact (HSk.out.vlt k hk).1); have hT6 := HT4.out.far hAp HPu.out.2 (fun k hk => hk); have hAp5 := apart_push hAp HT4.out.blk.lt HT4.out.mp.lt HT4.out.ms.lt HB5.out; have hF := HF4b.out _ V5 c5 g2 pm2 sm2 hD7 HPu.out.1 hT6 hAp5; refine hF.mono ?_; rintro e w7 ⟨rfl, V7, c7, hsk7, hc7, hv7⟩; have HSk7 := hide hsk7; have HC7 := hide hc7; have HV7 := hide hv7; clear hAp hD6 hD7 hT6 hAp5 hF hsk7 hc7 hv7))
            go_ret
            have z := Hz3.out
            have zl := Hskl.out
            have zr := H2r.out
            have hch7 : Chg (fun k => k = sk ∨ blkOf V = some k) w2 w7 := by
              have a1 : Chg (fun k => k = sk ∨ blkOf V = some k) w2 w4 := (Chg.same HCh.out Hs3.out).trans HC4.out (fun k hk e => by rcases e with e | e <;> omega)
              have a2 := a1.trans HPu.out.2 (fun k hk e => by
                rcases e with e | e
                · exact .inl e
                · rcases HV.out with h | h
                  · exact .inr (by rw [← h]; exact e)
                  · have := h k e; omega)
              refine a2.trans HC7.out (fun k hk e => ?_)
              rcases e with e | e
              · exact .inl e
              · rcases HB5.out with h5 | h5
                · rw [h5] at e
                  rcases HV.out with h | h
                  · exact .inr (by rw [← h]; exact e)
                  · have := h k e; omega
                · rw [h5] at e
                  simp at e
                  have := a1.size
                  omega
            have hv7 : blkOf V7 = blkOf V ∨ ∀ b, blkOf V7 = some b → w2.heap.size ≤ b := by
              have s4 : w2.heap.size ≤ w4.heap.size := ((Chg.same HCh.out Hs3.out).trans (S' := fun k => k = pm2 ∨ k = sm2) HC4.out (fun k hk e => by rcases e with e | e <;> omega)).size
              rcases HV7.out with h7 | h7
              · rw [h7]
                rcases HB5.out with h5 | h5
                · rw [h5]; exact HV.out
                · right
                  intro b hb
                  rw [h5] at hb
                  simp at hb
                  omega
              · right
                intro b hb
                have := h7 b hb
                have := HPu.out.2.size
                omega
            have hsome : res = some r := by rw [HR2.out]; exact find_some hlt Hall.out (by rw [HGx.out]; exact Hgs.out)
            refine ⟨by rw [hsome]; rfl, V7, c7, by rw [hsome]; exact HSk7.out, Chg.of_same HW2.out hch7, ?_⟩
            rcases hv7 with h | h
            · exact .inl h
            · exact .inr fun b hb => Nat.le_trans HW2.out.size (h b hb)
      · have hje : xs.length = j := by omega
        go_wp2_with fail
        go_ret
        have hnone : res = none := by rw [HR2.out]; exact find_none (fun x hx => Hall.out x (by rw [List.take_of_length_le (by omega)]; exact hx))
        refine ⟨by rw [hnone]; rfl, V', cv', by rw [hnone]; exact HSk.out, Chg.of_same HW2.out HCh.out, ?_⟩
        rcases HV.out with h | h
        · exact .inl h
        · exact .inr fun b hb => Nat.le_trans HW2.out.size (h b hb)
  · have HR1 := hide (H1.out rfl)
    clear H1 H2
    go_wp2_with fail
    go_ret
    exact ⟨by rw [HR1.out]; rfl, V, cv, by rw [HR1.out]; exact HK.out.same HW1.out, HW1.out.to, .inl rfl⟩
end Go.Proofs.YtenkdjfikppkdaaGreat
