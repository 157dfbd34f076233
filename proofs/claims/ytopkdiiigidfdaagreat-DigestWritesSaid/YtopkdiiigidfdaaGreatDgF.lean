/-
  The document's Write. Conditions: points and intervals that are well; at most 2000 of each.
-/
import Derived.Test.YtopkdiiigidfdaaGreatDgD
import Derived.Test.YtopkdiiigidfdaaGreatDgX
import Derived.Test.YtopkdiiigidfdaaGreatMz
namespace Go.Proofs.YtopkdiiigidfdaaGreat
open Go.RowKit Go.Al
set_option linter.unusedVariables false

set_option maxRecDepth 100000 in
set_option maxHeartbeats 16000000 in
theorem rwrite_any {A1 A2 : Option Addr} {n1 c1 n2 c2 : Nat} (p s : List P3) (w : World) (h1 : Row3 w A1 n1 c1 p) (h2 : Row3 w A2 n2 c2 s) (hw : wellB p s = true) (hb1 : n1 ≤ 2000) (hb2 : n2 ≤ 2000) :
    Calls Tryz.prog 24 #[.slice A1 n1 c1, .slice A2 n2 c2] w (WritEnd w (wrtD p s)) := by
  simp only [wellB, Bool.and_eq_true] at hw
  have hgp := ((ris_iff goodPB p).1 hw.1).1
  have hgs := ((ris_iff fairB s).1 hw.2).1
  have hip := fun i hi => ptG_in hgp i hi
  have his := fun i hi => spG_in hgs i hi
  have hpl := h1.2.1
  have hsl := h2.2.1
  have Hip := hide hip
  have His := hide his
  have hone : ∀ m : Nat, m ≤ 2000 → (encD [(m : Int)]).length ≤ 10 := fun m hm => by
    have := encD_len [(m : Int)] (fun x hx => by simp at hx; subst hx; exact ⟨by omega, by omega⟩)
    simpa using this
  have h10 := hone n1 hb1
  have h20 := hone n2 hb2
  have Hmp : Hid (∀ n, n ≤ n1 → (encD ([(n1 : Int)] ++ nums ptG 0 (p.take n))).length + 30 ≤ 1048576) := hide fun n hn => mid_len ptG (fun _ _ => rfl) (by omega) hip (by omega) n (by omega)
  have hall := encD_nums_len ptG (fun _ _ => rfl) (inI_nums ptG hip p.length (Nat.le_refl _))
  rw [List.take_length] at hall
  have h4 : (encD ([(n1 : Int)] ++ nums ptG 0 p)).length ≤ 60010 := by rw [encD_append, List.length_append]; omega
  have h5 : (encD (([(n1 : Int)] ++ nums ptG 0 p) ++ [(n2 : Int)])).length ≤ 60020 := by rw [encD_append, List.length_append]; omega
  have Hms : Hid (∀ n, n ≤ n2 → (encD ((([(n1 : Int)] ++ nums ptG 0 p) ++ [(n2 : Int)]) ++ nums spG 0 (s.take n))).length + 30 ≤ 1048576) := hide fun n hn => mid_len spG (fun _ _ => rfl) h5 his (by omega) n (by omega)
  have H4 := hide h4
  have Hn1 := hide hpl
  have Hn2 := hide hsl
  have HR1 := hide h1
  have HR2 := hide h2
  have HInt := hide (fun (x : Int) (base : Nat) (w' : World) (A' : Option Addr) (n' c' : Nat) (l' : List UInt8) (v : Value) (hv : v = .slice A' n' c') (hx : inI x) (ho : w'.ownsRow base 5 1 (.slice A' n' c') n' (bs l')) (hb : base ≤ w'.heap.size) (hn : n' ≤ 1048576) => (show Calls Tryz.prog 54 #[v, .int .i64 x] w' (PutEnd w' base A' (n' + (encI x).length) (l' ++ encI x)) from by subst hv; exact intRf_any x w' hx.1 hx.2 ho hb hn))
  have HV : Hid (encD ((([(n1 : Int)] ++ nums ptG 0 p) ++ [(n2 : Int)]) ++ nums spG 0 s) = wrtD p s) := hide (by rw [wrtD, hpl, hsl]; simp)
  clear hw hgp hgs hip his hpl hsl hone h10 h20 hall h4 h5 h1 h2
  go_enter Tryz.func24, Tryz.ntmps24
  have HI0 := hide (HInt.out (n1 : Int) w.heap.size (w.alloc (.cells #[] 5)) (some ⟨w.heap.size, 0, none⟩) 0 0 [] _ rfl ⟨by omega, by omega⟩ (own_lit w w.heap.size 5 1 #[] 0 (Nat.le_refl _) (by decide) rfl) (by simp) (by decide))
  go_wp2_with (first
    | (go_at_call 54; (with_reducible refine HI0.out.mono ?_); rintro e w1 ⟨A, c, rfl, ho, hc, _⟩; have Ho := hide ho; have Hs : Hid (Same w w1) := hide (Chg.fresh (S := fun b => w.heap.size ≤ b) (Chg.trans ((Chg.refl _ w).alloc (.cells #[] 5)) hc fun b hb e => by cases e; exact Nat.le_refl _) fun _ h => h); clear ho hc)
    | fail)
  clear HI0
  have HW0 : Hid (w1.ownsRow w.heap.size 5 1 (.slice A (encD ([(n1 : Int)] ++ nums ptG 0 (p.take 0))).length c) (encD ([(n1 : Int)] ++ nums ptG 0 (p.take 0))).length (bs (encD ([(n1 : Int)] ++ nums ptG 0 (p.take 0))))) := hide (by have := Ho.out; simpa [nums, encD] using this)
  have hl0 : (encI (n1 : Int)).length = (encD ([(n1 : Int)] ++ nums ptG 0 (p.take 0))).length := by simp [nums, encD]
  rw [hl0]
  clear Ho hl0
  go_loopg [5, 6, 7] n1 (fun kk vb vl vi wr => ∃ (i : Nat) (A0 : Option Addr) (c0 : Nat), i ≤ n1 ∧ kk = n1 - i ∧ vb = .slice A0 (encD ([(n1 : Int)] ++ nums ptG 0 (p.take i))).length c0 ∧ vl = .int .i64 (lastAt p i) ∧ vi = .int .i64 i ∧ wr.ownsRow w.heap.size 5 1 (.slice A0 (encD ([(n1 : Int)] ++ nums ptG 0 (p.take i))).length c0) (encD ([(n1 : Int)] ++ nums ptG 0 (p.take i))).length (bs (encD ([(n1 : Int)] ++ nums ptG 0 (p.take i)))) ∧ Same w wr)
  case atStart => exact ⟨0, A, c, Nat.zero_le _, rfl, rfl, rfl, rfl, HW0.out, Hs.out⟩
  case round =>
    obtain ⟨i, A0, c0, hi, hkk, rfl, rfl, rfl, hown, hsm⟩ := hrel
    have Hk := hide hkk
    have Hown' := hide hown
    have Hsm := hide hsm
    clear hkk hown hsm
    by_cases hlt : i < n1
    · have hil : i < p.length := by rw [Hn1.out]; exact hlt
      obtain ⟨b, off, rfl, hbl, hc0, hc1, hc2⟩ := HR1.out.at_ hil
      have hin := Hip.out i hil
      have hnx := nums_take ptG hil
      have hls := lastAt_succ hil
      have hml := Hmp.out i (by omega)
      obtain ⟨la, hla⟩ : ∃ v, lastAt p i = v := ⟨_, rfl⟩
      obtain ⟨⟨y1, y2, y3⟩, hy⟩ : ∃ y, p[i] = y := ⟨_, rfl⟩
      rw [hla, hy] at hin hnx
      rw [hy] at hc0 hc1 hc2 hls
      simp only at hc0 hc1 hc2 hls
      rw [hla]
      have Hnx := hide hnx
      have Hls := hide hls
      have hd1 := hin (y1 - la) (by simp [ptG])
      have hd2 := hin y2 (by simp [ptG])
      have hd3 := hin (y3) (by simp [ptG])
      have Hx1 := hide hd1
      have Hx2 := hide hd2
      have Hx3 := hide hd3
      have hs1 : IntKind.i64.wrap (y1 - la) = y1 - la := IntWalk.i64_in _ hd1
      have hs3 : IntKind.i64.wrap (y3) = y3 := IntWalk.i64_in _ hd3
      have hwi : IntKind.i64.wrap ((i : Int) + 1) = (i : Int) + 1 := IntWalk.i64_in _ (by omega)
      have he1 := encI_len hd1.1 hd1.2
      have he2 := encI_len hd2.1 hd2.2
      have hin' : (i : Int) < (n1 : Int) := by omega
      have hi0 : ¬ (i : Int) < 0 := by omega
      have HC : Hid (∀ w', Chg (fun b => w.heap.size ≤ b) wr w' → w'.cell? ⟨b, off + i * 3, none⟩ = some (.int .i64 y1) ∧ w'.cell? ⟨b, off + i * 3 + 1, none⟩ = some (.int .i64 y2) ∧ w'.cell? ⟨b, off + i * 3 + 2, none⟩ = some (.int .i64 y3)) := hide fun w' h => by
        have hz := Hsm.out.size
        have hb1 : b < wr.heap.size := by omega
        have hn1 : ¬ w.heap.size ≤ b := by omega
        exact ⟨((h.cell (p := ⟨b, off + i * 3, none⟩) hb1 hn1).trans (Hsm.out.cell (p := ⟨b, off + i * 3, none⟩) hbl fun f => f)).trans hc0, ((h.cell (p := ⟨b, off + i * 3 + 1, none⟩) hb1 hn1).trans (Hsm.out.cell (p := ⟨b, off + i * 3 + 1, none⟩) hbl fun f => f)).trans hc1, ((h.cell (p := ⟨b, off + i * 3 + 2, none⟩) hb1 hn1).trans (Hsm.out.cell (p := ⟨b, off + i * 3 + 2, none⟩) hbl fun f => f)).trans hc2⟩
      obtain ⟨l, hl⟩ : ∃ l, encD ([(n1 : Int)] ++ nums ptG 0 (p.take i)) = l := ⟨_, rfl⟩
      rw [hl] at hml
      have Hown : Hid (wr.ownsRow w.heap.size 5 1 (.slice A0 l.length c0) l.length (bs l)) := hide (by have := Hown'.out; rw [hl] at this; exact this)
      rw [hl]
      have Hl := hide hl
      have Hlen : Hid (l.length + 30 ≤ 1048576 ∧ (encI (y1 - la)).length ≤ 10 ∧ (encI y2).length ≤ 10) := hide ⟨hml, he1, he2⟩
      clear Hown' hla hy hin hnx hls hml hd1 hd2 hd3 he1 he2 hc0 hc1 hc2 hl
      go_wp2_with fail
      refine Mz.wp_region_mixG (fun k => Chg (fun b => k ≠ 8 ∧ w.heap.size ≤ b)) (fun i => Chg (fun b => (i = 8 ∨ i = 14 ∨ i = 20) ∧ w.heap.size ≤ b)) 21 (fun k i w1 w2 hik han h => ?_) (fun k w => Chg.refl _ w) (fun k a b c h1 h2 => Chg.trans h1 h2 fun _ _ e => e) (fun k => (Chg.refl _ _).drew) (by kernel_rfl) (by kernel_rfl) fun Fin hFin => ?_
      · refine h.mono fun b _ hb => ⟨?_, hb.2⟩
        rintro rfl
        rcases hb.1 with rfl | rfl | rfl
        · exact hik rfl
        · exact Bool.noConfusion (Eq.trans (han (by decide)).symm (by kernel_rfl : _ = true))
        · exact Bool.noConfusion (Eq.trans (han (by decide)).symm (by kernel_rfl : _ = true))
      simp only [List.take_succ_cons, List.take_zero]
      refine Mz.mix_lit ?_ ?_ (fun w => Chg.refl _ w) ?_ ?_ ?_ ?_
      rotate_left; rotate_left
      · intro e w1 hR hF K hK; (obtain ⟨hc0, hc1, hc2⟩ := HC.out w1 (hR.mono fun _ _ h => h.2)); go_simp; (refine hK _ _ (Chg.refl _ _) ?_; rfl)
      · intro e; simp only [Act.put, List.setIfInBounds_toArray, List.set_cons_zero, List.set_cons_succ]; rfl
      · exact Loc.const _ _
      refine Mz.mix_lit ?_ ?_ (fun w => Chg.refl _ w) ?_ ?_ ?_ ?_
      rotate_left; rotate_left
      · intro e w1 hR hF K hK; (obtain ⟨hc0, hc1, hc2⟩ := HC.out w1 (hR.mono fun _ _ h => h.2)); go_simp; (refine hK _ _ (Chg.refl _ _) ?_; rfl)
      · intro e; simp only [Act.put, List.setIfInBounds_toArray, List.set_cons_zero, List.set_cons_succ]; rfl
      · exact Loc.const _ _
      refine Mz.mix_lit ?_ ?_ (fun w => Chg.refl _ w) ?_ ?_ ?_ ?_
      rotate_left; rotate_left
      · intro e w1 hR hF K hK; (obtain ⟨hc0, hc1, hc2⟩ := HC.out w1 (hR.mono fun _ _ h => h.2)); go_simp; (refine hK _ _ (Chg.refl _ _) ?_; rfl)
      · intro e; simp only [Act.put, List.setIfInBounds_toArray, List.set_cons_zero, List.set_cons_succ]; rfl
      · exact Loc.const _ _
      refine Mz.mix_lit ?_ ?_ (fun w => Chg.refl _ w) ?_ ?_ ?_ ?_
      rotate_left; rotate_left
      · intro e w1 hR hF K hK; (obtain ⟨hc0, hc1, hc2⟩ := HC.out w1 (hR.mono fun _ _ h => h.2)); go_simp; (refine hK _ _ (Chg.refl _ _) ?_; rfl)
      · intro e; simp only [Act.put, List.setIfInBounds_toArray, List.set_cons_zero, List.set_cons_succ]; rfl
      · exact Loc.const _ _
      refine Mz.mix_lit ?_ ?_ (fun w => Chg.refl _ w) ?_ ?_ ?_ ?_
      rotate_left; rotate_left
      · intro e w1 hR hF K hK; (obtain ⟨hc0, hc1, hc2⟩ := HC.out w1 (hR.mono fun _ _ h => h.2)); go_simp; (refine hK _ _ (Chg.refl _ _) ?_; rfl)
      · intro e; simp only [Act.put, List.setIfInBounds_toArray, List.set_cons_zero, List.set_cons_succ]; rfl
      · exact Loc.const _ _
      refine Mz.mix_lit ?_ ?_ (fun w => Chg.refl _ w) ?_ ?_ ?_ ?_
      rotate_left; rotate_left
      · intro e w1 hR hF K hK; (obtain ⟨hc0, hc1, hc2⟩ := HC.out w1 (hR.mono fun _ _ h => h.2)); go_simp; (refine hK _ _ (Chg.refl _ _) ?_; rfl)
      · intro e; simp only [Act.put, List.setIfInBounds_toArray, List.set_cons_zero, List.set_cons_succ]; rfl
      · exact Loc.const _ _
      refine Mz.mix_lit ?_ ?_ (fun w => Chg.refl _ w) ?_ ?_ ?_ ?_
      rotate_left; rotate_left
      · intro e w1 hR hF K hK; (obtain ⟨hc0, hc1, hc2⟩ := HC.out w1 (hR.mono fun _ _ h => h.2)); go_simp; (refine hK _ _ (Chg.refl _ _) ?_; rfl)
      · intro e; simp only [Act.put, List.setIfInBounds_toArray, List.set_cons_zero, List.set_cons_succ]; rfl
      · exact Loc.const _ _
      refine Mz.mix_lit ?_ ?_ (fun w => Chg.refl _ w) ?_ ?_ ?_ ?_
      rotate_left; rotate_left
      · intro e w1 hR hF K hK; (obtain ⟨hc0, hc1, hc2⟩ := HC.out w1 (hR.mono fun _ _ h => h.2)); go_simp; (refine hK _ _ (Chg.refl _ _) ?_; rfl)
      · intro e; simp only [Act.put, List.setIfInBounds_toArray, List.set_cons_zero, List.set_cons_succ]; rfl
      · exact Loc.const _ _
      refine Mz.mix_let (fun _ v w' => ∃ A c, v = .slice A (l ++ encI (y1 - la)).length c ∧ w'.ownsRow w.heap.size 5 1 (.slice A (l ++ encI (y1 - la)).length c) (l ++ encI (y1 - la)).length (bs (l ++ encI (y1 - la)))) ?_ (by exact Loc.const _ _) ?_ ?_ ?_ ?_ ?_
      rotate_left
      · rintro i hi h1 h2 e u w1 w2 hs ⟨A', c', rfl, h3⟩
        have hq : ¬ (i = 8 ∨ i = 14 ∨ i = 20) := by
          rintro (rfl | rfl | rfl)
          · exact hi rfl
          · exact Bool.noConfusion (Eq.trans h2.symm (by kernel_rfl : _ = true))
          · exact Bool.noConfusion (Eq.trans h2.symm (by kernel_rfl : _ = true))
        exact ⟨A', c', rfl, own_chg h3 hs fun _ _ h => hq h.1⟩
      · intro e; rfl
      · intro e w1 hR hF K hK
        go_simp
        go_at_call 54
        (with_reducible refine (HInt.out _ _ w1 _ _ _ _ _ rfl Hx1.out (own_chg Hown.out hR (fun _ _ h => absurd rfl h.1)) (by have := hR.size; have := Hsm.out.size; omega) (by have := Hlen.out; omega)).mono ?_)
        rintro _ w4 ⟨A', c', rfl, ho, hc, _⟩
        exact hK _ _ _ (hc.mono fun b _ h => ⟨.inl rfl, (Hown.out.lt b (by rw [ownBlock_slice]; exact h)).1⟩) ⟨A', c', (by rw [List.length_append]), (by rw [List.length_append]; exact ho)⟩ (by simp only [Act.put, List.setIfInBounds_toArray, List.set_cons_zero, List.set_cons_succ])
      · intro e; simp only [Act.put, List.setIfInBounds_toArray, List.set_cons_zero, List.set_cons_succ]; rfl
      refine Mz.mix_lit ?_ ?_ (fun w => Chg.refl _ w) ?_ ?_ ?_ ?_
      rotate_left; rotate_left
      · intro e w1 hR hF K hK; (obtain ⟨hc0, hc1, hc2⟩ := HC.out w1 (hR.mono fun _ _ h => h.2)); go_simp; (refine hK _ _ (Chg.refl _ _) ?_; rfl)
      · intro e; simp only [Act.put, List.setIfInBounds_toArray, List.set_cons_zero, List.set_cons_succ]; rfl
      · exact Loc.const _ _
      refine Mz.mix_lit ?_ ?_ (fun w => Chg.refl _ w) ?_ ?_ ?_ ?_
      rotate_left; rotate_left
      · intro e w1 hR hF K hK; (obtain ⟨hc0, hc1, hc2⟩ := HC.out w1 (hR.mono fun _ _ h => h.2)); go_simp; (refine hK _ _ (Chg.refl _ _) ?_; rfl)
      · intro e; simp only [Act.put, List.setIfInBounds_toArray, List.set_cons_zero, List.set_cons_succ]; rfl
      · exact Loc.const _ _
      refine Mz.mix_lit ?_ ?_ (fun w => Chg.refl _ w) ?_ ?_ ?_ ?_
      rotate_left; rotate_left
      · intro e w1 hR hF K hK; (obtain ⟨hc0, hc1, hc2⟩ := HC.out w1 (hR.mono fun _ _ h => h.2)); go_simp; (refine hK _ _ (Chg.refl _ _) ?_; rfl)
      · intro e; simp only [Act.put, List.setIfInBounds_toArray, List.set_cons_zero, List.set_cons_succ]; rfl
      · exact Loc.const _ _
      refine Mz.mix_lit ?_ ?_ (fun w => Chg.refl _ w) ?_ ?_ ?_ ?_
      rotate_left; rotate_left
      · intro e w1 hR hF K hK; (obtain ⟨hc0, hc1, hc2⟩ := HC.out w1 (hR.mono fun _ _ h => h.2)); go_simp; (refine hK _ _ (Chg.refl _ _) ?_; rfl)
      · intro e; simp only [Act.put, List.setIfInBounds_toArray, List.set_cons_zero, List.set_cons_succ]; rfl
      · exact Loc.const _ _
      refine Mz.mix_lit ?_ ?_ (fun w => Chg.refl _ w) ?_ ?_ ?_ ?_
      rotate_left; rotate_left
      · intro e w1 hR hF K hK; (obtain ⟨hc0, hc1, hc2⟩ := HC.out w1 (hR.mono fun _ _ h => h.2)); go_simp; (refine hK _ _ (Chg.refl _ _) ?_; rfl)
      · intro e; simp only [Act.put, List.setIfInBounds_toArray, List.set_cons_zero, List.set_cons_succ]; rfl
      · exact Loc.const _ _
      refine Mz.mix_let (fun _ v w' => ∃ A c, v = .slice A (l ++ encI (y1 - la) ++ encI y2).length c ∧ w'.ownsRow w.heap.size 5 1 (.slice A (l ++ encI (y1 - la) ++ encI y2).length c) (l ++ encI (y1 - la) ++ encI y2).length (bs (l ++ encI (y1 - la) ++ encI y2))) ?_ (by exact Loc.const _ _) ?_ ?_ ?_ ?_ ?_
      rotate_left
      · rintro i hi h1 h2 e u w1 w2 hs ⟨A', c', rfl, h3⟩
        have hq : ¬ (i = 8 ∨ i = 14 ∨ i = 20) := by
          rintro (rfl | rfl | rfl)
          · exact Bool.noConfusion (Eq.trans h1.symm (by kernel_rfl : _ = true))
          · exact hi rfl
          · exact Bool.noConfusion (Eq.trans h2.symm (by kernel_rfl : _ = true))
        exact ⟨A', c', rfl, own_chg h3 hs fun _ _ h => hq h.1⟩
      · intro e; rfl
      · intro e w1 hR hF K hK
        go_simp
        obtain ⟨A1, c1, hv1, ho1⟩ := (show ∃ A c, e 8 = .slice A (l ++ encI (y1 - la)).length c ∧ w1.ownsRow w.heap.size 5 1 (.slice A (l ++ encI (y1 - la)).length c) (l ++ encI (y1 - la)).length (bs (l ++ encI (y1 - la))) from hF 8 (by kernel_rfl) (by kernel_rfl))
        go_at_call 54
        (with_reducible refine (HInt.out _ _ w1 _ _ _ _ _ hv1 Hx2.out ho1 (by have := hR.size; have := Hsm.out.size; omega) (by have := Hlen.out; simp only [List.length_append]; omega)).mono ?_)
        rintro _ w4 ⟨A', c', rfl, ho, hc, _⟩
        exact hK _ _ _ (hc.mono fun b _ h => ⟨.inr (.inl rfl), (ho1.lt b (by rw [ownBlock_slice]; exact h)).1⟩) ⟨A', c', (by rw [@List.length_append _ (l ++ encI (y1 - la))]), (by rw [@List.length_append _ (l ++ encI (y1 - la))]; exact ho)⟩ (by simp only [Act.put, List.setIfInBounds_toArray, List.set_cons_zero, List.set_cons_succ])
      · intro e; simp only [Act.put, List.setIfInBounds_toArray, List.set_cons_zero, List.set_cons_succ]; rfl
      refine Mz.mix_lit ?_ ?_ (fun w => Chg.refl _ w) ?_ ?_ ?_ ?_
      rotate_left; rotate_left
      · intro e w1 hR hF K hK; (obtain ⟨hc0, hc1, hc2⟩ := HC.out w1 (hR.mono fun _ _ h => h.2)); go_simp; (refine hK _ _ (Chg.refl _ _) ?_; rfl)
      · intro e; simp only [Act.put, List.setIfInBounds_toArray, List.set_cons_zero, List.set_cons_succ]; rfl
      · exact Loc.const _ _
      refine Mz.mix_lit ?_ ?_ (fun w => Chg.refl _ w) ?_ ?_ ?_ ?_
      rotate_left; rotate_left
      · intro e w1 hR hF K hK; (obtain ⟨hc0, hc1, hc2⟩ := HC.out w1 (hR.mono fun _ _ h => h.2)); go_simp; (refine hK _ _ (Chg.refl _ _) ?_; rfl)
      · intro e; simp only [Act.put, List.setIfInBounds_toArray, List.set_cons_zero, List.set_cons_succ]; rfl
      · exact Loc.const _ _
      refine Mz.mix_lit ?_ ?_ (fun w => Chg.refl _ w) ?_ ?_ ?_ ?_
      rotate_left; rotate_left
      · intro e w1 hR hF K hK; (obtain ⟨hc0, hc1, hc2⟩ := HC.out w1 (hR.mono fun _ _ h => h.2)); go_simp; (refine hK _ _ (Chg.refl _ _) ?_; rfl)
      · intro e; simp only [Act.put, List.setIfInBounds_toArray, List.set_cons_zero, List.set_cons_succ]; rfl
      · exact Loc.const _ _
      refine Mz.mix_lit ?_ ?_ (fun w => Chg.refl _ w) ?_ ?_ ?_ ?_
      rotate_left; rotate_left
      · intro e w1 hR hF K hK; (obtain ⟨hc0, hc1, hc2⟩ := HC.out w1 (hR.mono fun _ _ h => h.2)); go_simp; (refine hK _ _ (Chg.refl _ _) ?_; rfl)
      · intro e; simp only [Act.put, List.setIfInBounds_toArray, List.set_cons_zero, List.set_cons_succ]; rfl
      · exact Loc.const _ _
      refine Mz.mix_lit ?_ ?_ (fun w => Chg.refl _ w) ?_ ?_ ?_ ?_
      rotate_left; rotate_left
      · intro e w1 hR hF K hK; (obtain ⟨hc0, hc1, hc2⟩ := HC.out w1 (hR.mono fun _ _ h => h.2)); go_simp; (refine hK _ _ (Chg.refl _ _) ?_; rfl)
      · intro e; simp only [Act.put, List.setIfInBounds_toArray, List.set_cons_zero, List.set_cons_succ]; rfl
      · exact Loc.const _ _
      refine Mz.mix_let (fun _ v w' => ∃ A c, v = .slice A (l ++ encI (y1 - la) ++ encI y2 ++ encI (y3)).length c ∧ w'.ownsRow w.heap.size 5 1 (.slice A (l ++ encI (y1 - la) ++ encI y2 ++ encI (y3)).length c) (l ++ encI (y1 - la) ++ encI y2 ++ encI (y3)).length (bs (l ++ encI (y1 - la) ++ encI y2 ++ encI (y3)))) ?_ (by exact Loc.const _ _) ?_ ?_ ?_ ?_ ?_
      rotate_left
      · rintro i hi h1 h2 e u w1 w2 hs ⟨A', c', rfl, h3⟩
        have hq : ¬ (i = 8 ∨ i = 14 ∨ i = 20) := by
          rintro (rfl | rfl | rfl)
          · exact Bool.noConfusion (Eq.trans h1.symm (by kernel_rfl : _ = true))
          · exact Bool.noConfusion (Eq.trans h1.symm (by kernel_rfl : _ = true))
          · exact hi rfl
        exact ⟨A', c', rfl, own_chg h3 hs fun _ _ h => hq h.1⟩
      · intro e; rfl
      · intro e w1 hR hF K hK
        go_simp
        obtain ⟨A1, c1, hv1, ho1⟩ := (show ∃ A c, e 14 = .slice A (l ++ encI (y1 - la) ++ encI y2).length c ∧ w1.ownsRow w.heap.size 5 1 (.slice A (l ++ encI (y1 - la) ++ encI y2).length c) (l ++ encI (y1 - la) ++ encI y2).length (bs (l ++ encI (y1 - la) ++ encI y2)) from hF 14 (by kernel_rfl) (by kernel_rfl))
        go_at_call 54
        (with_reducible refine (HInt.out _ _ w1 _ _ _ _ _ hv1 Hx3.out ho1 (by have := hR.size; have := Hsm.out.size; omega) (by have := Hlen.out; simp only [List.length_append]; omega)).mono ?_)
        rintro _ w4 ⟨A', c', rfl, ho, hc, _⟩
        exact hK _ _ _ (hc.mono fun b _ h => ⟨.inr (.inr rfl), (ho1.lt b (by rw [ownBlock_slice]; exact h)).1⟩) ⟨A', c', (by rw [@List.length_append _ (l ++ encI (y1 - la) ++ encI y2)]), (by rw [@List.length_append _ (l ++ encI (y1 - la) ++ encI y2)]; exact ho)⟩ (by simp only [Act.put, List.setIfInBounds_toArray, List.set_cons_zero, List.set_cons_succ])
      · intro e; simp only [Act.put, List.setIfInBounds_toArray, List.set_cons_zero, List.set_cons_succ]; rfl
      refine Mz.mix_nil fun e wq hR hF => hFin _ _ ?_
      simp only [List.drop_succ_cons, List.drop_zero]
      obtain ⟨A9, c9, hv9, ho9⟩ := (show ∃ A c, e 20 = .slice A (l ++ encI (y1 - la) ++ encI y2 ++ encI (y3)).length c ∧ wq.ownsRow w.heap.size 5 1 (.slice A (l ++ encI (y1 - la) ++ encI y2 ++ encI (y3)).length c) (l ++ encI (y1 - la) ++ encI y2 ++ encI (y3)).length (bs (l ++ encI (y1 - la) ++ encI y2 ++ encI (y3))) from hF 20 (by decide) (by kernel_rfl))
      rw [show e (0 + 1 + 1 + 1 + 1 + 1 + 1 + 1 + 1 + 1 + 1 + 1 + 1 + 1 + 1 + 1 + 1 + 1 + 1 + 1 + 1) = _ from hv9]
      have Ho9 := hide ho9
      obtain ⟨hc0, hc1, hc2⟩ := HC.out wq (hR.mono fun _ _ h => h.2)
      have HS9 : Hid (Same w wq) := hide (Chg.fresh (S := fun b => w.heap.size ≤ b) (Hsm.out.to.trans hR fun _ _ h => h.2) fun _ h => h)
      clear hF hFin hR hv9 ho9
      go_wp2_with fail
      go_roundg (n1 - (i + 1))
      case measure => have := Hk.out; omega
      case rel =>
        have ho := Ho9.out
        have hnx := Hnx.out
        have hl := Hl.out
        have e9 : encD ([(n1 : Int)] ++ nums ptG 0 (p.take (i + 1))) = l ++ encI (y1 - la) ++ encI y2 ++ encI (y3) := by rw [hnx, ← List.append_assoc, encD_append, hl]; simp [ptG, encD]
        exact ⟨i + 1, A9, c9, by omega, rfl, by rw [e9], by rw [Hls.out], by first | rfl | go_num, by rw [e9]; exact ho, HS9.out⟩
    · have hin : i = n1 := by omega
      subst hin
      have etk : p.take i = p := List.take_of_length_le (Nat.le_of_eq Hn1.out)
      have hown := Hown'.out
      rw [etk] at hown ⊢
      have Hown2 := hide hown
      clear hown Hown' etk
      obtain ⟨l1, hl1⟩ : ∃ l1, encD ([(i : Int)] ++ nums ptG 0 p) = l1 := ⟨_, rfl⟩
      have HI1 := hide (HInt.out (n2 : Int) w.heap.size wr A0 _ c0 _ _ rfl ⟨by omega, by omega⟩ Hown2.out (by have := Hsm.out.size; omega) (by have := H4.out; omega))
      have hsz := Hsm.out
      have Hlt2 := hide (fun b hb => (Hown2.out.lt b hb).1)
      rw [hl1] at HI1 Hlt2 ⊢
      have Hl1 := hide hl1
      clear Hown2 hl1
      go_wp2_with (first
        | (go_at_call 54; (with_reducible refine HI1.out.mono ?_); rintro e w3 ⟨A', c', rfl, ho, hc, _⟩; have Ho := hide ho; have Hs3 : Hid (Same w w3) := hide (Chg.fresh (S := fun b => w.heap.size ≤ b) (Chg.trans hsz.to hc fun b hb e => Hlt2.out b (by rw [ownBlock_slice]; exact e)) fun _ h => h); clear ho hc)
        | fail)
      have He : Hid (encD (([(i : Int)] ++ nums ptG 0 p ++ [(n2 : Int)]) ++ nums spG 0 (s.take 0)) = l1 ++ encI (n2 : Int)) := hide (by rw [← Hl1.out]; simp [nums, encD])
      have HW3 : Hid (w3.ownsRow w.heap.size 5 1 (.slice A' (encD (([(i : Int)] ++ nums ptG 0 p ++ [(n2 : Int)]) ++ nums spG 0 (s.take 0))).length c') (encD (([(i : Int)] ++ nums ptG 0 p ++ [(n2 : Int)]) ++ nums spG 0 (s.take 0))).length (bs (encD (([(i : Int)] ++ nums ptG 0 p ++ [(n2 : Int)]) ++ nums spG 0 (s.take 0))))) := hide (by
        have := Ho.out
        rw [He.out, List.length_append]
        exact this)
      have hl3 : l1.length + (encI (n2 : Int)).length = (encD (([(i : Int)] ++ nums ptG 0 p ++ [(n2 : Int)]) ++ nums spG 0 (s.take 0))).length := by rw [He.out, List.length_append]
      generalize hz48 : Value.slice A' (l1.length + (encI (n2 : Int)).length) c' = z48
      rw [hl3] at hz48
      have Hz48 := hide hz48
      clear HI1 Ho hl3 He hsz Hlt2 hz48
      go_loopg [5, 6, 8] n2 (fun kk vb vl vi wr => ∃ (k : Nat) (A0 : Option Addr) (c0 : Nat), k ≤ n2 ∧ kk = n2 - k ∧ vb = .slice A0 (encD (([(i : Int)] ++ nums ptG 0 p ++ [(n2 : Int)]) ++ nums spG 0 (s.take k))).length c0 ∧ vl = .int .i64 (lastAt s k) ∧ vi = .int .i64 k ∧ wr.ownsRow w.heap.size 5 1 (.slice A0 (encD (([(i : Int)] ++ nums ptG 0 p ++ [(n2 : Int)]) ++ nums spG 0 (s.take k))).length c0) (encD (([(i : Int)] ++ nums ptG 0 p ++ [(n2 : Int)]) ++ nums spG 0 (s.take k))).length (bs (encD (([(i : Int)] ++ nums ptG 0 p ++ [(n2 : Int)]) ++ nums spG 0 (s.take k)))) ∧ Same w wr)
      case atStart => exact ⟨0, A', c', Nat.zero_le _, rfl, Hz48.out.symm, rfl, rfl, HW3.out, Hs3.out⟩
      case round =>
        obtain ⟨k, A0, c0, hi, hkk, rfl, rfl, rfl, hown, hsm⟩ := hrel
        have Hk := hide hkk
        have Hown' := hide hown
        have Hsm := hide hsm
        clear hkk hown hsm
        by_cases hlt : k < n2
        · have hil : k < s.length := by rw [Hn2.out]; exact hlt
          obtain ⟨b, off, rfl, hbl, hc0, hc1, hc2⟩ := HR2.out.at_ hil
          have hin := His.out k hil
          have hnx := nums_take spG hil
          have hls := lastAt_succ hil
          have hml := Hms.out k (by omega)
          obtain ⟨la, hla⟩ : ∃ v, lastAt s k = v := ⟨_, rfl⟩
          obtain ⟨⟨y1, y2, y3⟩, hy⟩ : ∃ y, s[k] = y := ⟨_, rfl⟩
          rw [hla, hy] at hin hnx
          rw [hy] at hc0 hc1 hc2 hls
          simp only at hc0 hc1 hc2 hls
          rw [hla]
          have Hnx := hide hnx
          have Hls := hide hls
          have hd1 := hin (y1 - la) (by simp [spG])
          have hd2 := hin y2 (by simp [spG])
          have hd3 := hin (y3 - y2) (by simp [spG])
          have Hx1 := hide hd1
          have Hx2 := hide hd2
          have Hx3 := hide hd3
          have hs1 : IntKind.i64.wrap (y1 - la) = y1 - la := IntWalk.i64_in _ hd1
          have hs3 : IntKind.i64.wrap (y3 - y2) = y3 - y2 := IntWalk.i64_in _ hd3
          have hwi : IntKind.i64.wrap ((k : Int) + 1) = (k : Int) + 1 := IntWalk.i64_in _ (by omega)
          have he1 := encI_len hd1.1 hd1.2
          have he2 := encI_len hd2.1 hd2.2
          have hin' : (k : Int) < (n2 : Int) := by omega
          have hi0 : ¬ (k : Int) < 0 := by omega
          have HC : Hid (∀ w', Chg (fun b => w.heap.size ≤ b) wr w' → w'.cell? ⟨b, off + k * 3, none⟩ = some (.int .i64 y1) ∧ w'.cell? ⟨b, off + k * 3 + 1, none⟩ = some (.int .i64 y2) ∧ w'.cell? ⟨b, off + k * 3 + 2, none⟩ = some (.int .i64 y3)) := hide fun w' h => by
            have hz := Hsm.out.size
            have hb1 : b < wr.heap.size := by omega
            have hn1 : ¬ w.heap.size ≤ b := by omega
            exact ⟨((h.cell (p := ⟨b, off + k * 3, none⟩) hb1 hn1).trans (Hsm.out.cell (p := ⟨b, off + k * 3, none⟩) hbl fun f => f)).trans hc0, ((h.cell (p := ⟨b, off + k * 3 + 1, none⟩) hb1 hn1).trans (Hsm.out.cell (p := ⟨b, off + k * 3 + 1, none⟩) hbl fun f => f)).trans hc1, ((h.cell (p := ⟨b, off + k * 3 + 2, none⟩) hb1 hn1).trans (Hsm.out.cell (p := ⟨b, off + k * 3 + 2, none⟩) hbl fun f => f)).trans hc2⟩
          obtain ⟨l, hl⟩ : ∃ l, encD (([(i : Int)] ++ nums ptG 0 p ++ [(n2 : Int)]) ++ nums spG 0 (s.take k)) = l := ⟨_, rfl⟩
          rw [hl] at hml
          have Hown : Hid (wr.ownsRow w.heap.size 5 1 (.slice A0 l.length c0) l.length (bs l)) := hide (by have := Hown'.out; rw [hl] at this; exact this)
          rw [hl]
          have Hl := hide hl
          have Hlen : Hid (l.length + 30 ≤ 1048576 ∧ (encI (y1 - la)).length ≤ 10 ∧ (encI y2).length ≤ 10) := hide ⟨hml, he1, he2⟩
          clear Hown' hla hy hin hnx hls hml hd1 hd2 hd3 he1 he2 hc0 hc1 hc2 hl
          go_wp2_with fail
          refine Mz.wp_region_mixG (fun k => Chg (fun b => k ≠ 8 ∧ w.heap.size ≤ b)) (fun k => Chg (fun b => (k = 8 ∨ k = 14 ∨ k = 26) ∧ w.heap.size ≤ b)) 27 (fun k k w1 w2 hik han h => ?_) (fun k w => Chg.refl _ w) (fun k a b c h1 h2 => Chg.trans h1 h2 fun _ _ e => e) (fun k => (Chg.refl _ _).drew) (by kernel_rfl) (by kernel_rfl) fun Fin hFin => ?_
          · refine h.mono fun b _ hb => ⟨?_, hb.2⟩
            rintro rfl
            rcases hb.1 with rfl | rfl | rfl
            · exact hik rfl
            · exact Bool.noConfusion (Eq.trans (han (by decide)).symm (by kernel_rfl : _ = true))
            · exact Bool.noConfusion (Eq.trans (han (by decide)).symm (by kernel_rfl : _ = true))
          simp only [List.take_succ_cons, List.take_zero]
          refine Mz.mix_lit ?_ ?_ (fun w => Chg.refl _ w) ?_ ?_ ?_ ?_
          rotate_left; rotate_left
          · intro e w1 hR hF K hK; (obtain ⟨hc0, hc1, hc2⟩ := HC.out w1 (hR.mono fun _ _ h => h.2)); go_simp; (refine hK _ _ (Chg.refl _ _) ?_; rfl)
          · intro e; simp only [Act.put, List.setIfInBounds_toArray, List.set_cons_zero, List.set_cons_succ]; rfl
          · exact Loc.const _ _
          refine Mz.mix_lit ?_ ?_ (fun w => Chg.refl _ w) ?_ ?_ ?_ ?_
          rotate_left; rotate_left
          · intro e w1 hR hF K hK; (obtain ⟨hc0, hc1, hc2⟩ := HC.out w1 (hR.mono fun _ _ h => h.2)); go_simp; (refine hK _ _ (Chg.refl _ _) ?_; rfl)
          · intro e; simp only [Act.put, List.setIfInBounds_toArray, List.set_cons_zero, List.set_cons_succ]; rfl
          · exact Loc.const _ _
          refine Mz.mix_lit ?_ ?_ (fun w => Chg.refl _ w) ?_ ?_ ?_ ?_
          rotate_left; rotate_left
          · intro e w1 hR hF K hK; (obtain ⟨hc0, hc1, hc2⟩ := HC.out w1 (hR.mono fun _ _ h => h.2)); go_simp; (refine hK _ _ (Chg.refl _ _) ?_; rfl)
          · intro e; simp only [Act.put, List.setIfInBounds_toArray, List.set_cons_zero, List.set_cons_succ]; rfl
          · exact Loc.const _ _
          refine Mz.mix_lit ?_ ?_ (fun w => Chg.refl _ w) ?_ ?_ ?_ ?_
          rotate_left; rotate_left
          · intro e w1 hR hF K hK; (obtain ⟨hc0, hc1, hc2⟩ := HC.out w1 (hR.mono fun _ _ h => h.2)); go_simp; (refine hK _ _ (Chg.refl _ _) ?_; rfl)
          · intro e; simp only [Act.put, List.setIfInBounds_toArray, List.set_cons_zero, List.set_cons_succ]; rfl
          · exact Loc.const _ _
          refine Mz.mix_lit ?_ ?_ (fun w => Chg.refl _ w) ?_ ?_ ?_ ?_
          rotate_left; rotate_left
          · intro e w1 hR hF K hK; (obtain ⟨hc0, hc1, hc2⟩ := HC.out w1 (hR.mono fun _ _ h => h.2)); go_simp; (refine hK _ _ (Chg.refl _ _) ?_; rfl)
          · intro e; simp only [Act.put, List.setIfInBounds_toArray, List.set_cons_zero, List.set_cons_succ]; rfl
          · exact Loc.const _ _
          refine Mz.mix_lit ?_ ?_ (fun w => Chg.refl _ w) ?_ ?_ ?_ ?_
          rotate_left; rotate_left
          · intro e w1 hR hF K hK; (obtain ⟨hc0, hc1, hc2⟩ := HC.out w1 (hR.mono fun _ _ h => h.2)); go_simp; (refine hK _ _ (Chg.refl _ _) ?_; rfl)
          · intro e; simp only [Act.put, List.setIfInBounds_toArray, List.set_cons_zero, List.set_cons_succ]; rfl
          · exact Loc.const _ _
          refine Mz.mix_lit ?_ ?_ (fun w => Chg.refl _ w) ?_ ?_ ?_ ?_
          rotate_left; rotate_left
          · intro e w1 hR hF K hK; (obtain ⟨hc0, hc1, hc2⟩ := HC.out w1 (hR.mono fun _ _ h => h.2)); go_simp; (refine hK _ _ (Chg.refl _ _) ?_; rfl)
          · intro e; simp only [Act.put, List.setIfInBounds_toArray, List.set_cons_zero, List.set_cons_succ]; rfl
          · exact Loc.const _ _
          refine Mz.mix_lit ?_ ?_ (fun w => Chg.refl _ w) ?_ ?_ ?_ ?_
          rotate_left; rotate_left
          · intro e w1 hR hF K hK; (obtain ⟨hc0, hc1, hc2⟩ := HC.out w1 (hR.mono fun _ _ h => h.2)); go_simp; (refine hK _ _ (Chg.refl _ _) ?_; rfl)
          · intro e; simp only [Act.put, List.setIfInBounds_toArray, List.set_cons_zero, List.set_cons_succ]; rfl
          · exact Loc.const _ _
          refine Mz.mix_let (fun _ v w' => ∃ A c, v = .slice A (l ++ encI (y1 - la)).length c ∧ w'.ownsRow w.heap.size 5 1 (.slice A (l ++ encI (y1 - la)).length c) (l ++ encI (y1 - la)).length (bs (l ++ encI (y1 - la)))) ?_ (by exact Loc.const _ _) ?_ ?_ ?_ ?_ ?_
          rotate_left
          · rintro k hi h1 h2 e u w1 w2 hs ⟨A', c', rfl, h3⟩
            have hq : ¬ (k = 8 ∨ k = 14 ∨ k = 26) := by
              rintro (rfl | rfl | rfl)
              · exact hi rfl
              · exact Bool.noConfusion (Eq.trans h2.symm (by kernel_rfl : _ = true))
              · exact Bool.noConfusion (Eq.trans h2.symm (by kernel_rfl : _ = true))
            exact ⟨A', c', rfl, own_chg h3 hs fun _ _ h => hq h.1⟩
          · intro e; rfl
          · intro e w1 hR hF K hK
            go_simp
            go_at_call 54
            (with_reducible refine (HInt.out _ _ w1 _ _ _ _ _ rfl Hx1.out (own_chg Hown.out hR (fun _ _ h => absurd rfl h.1)) (by have := hR.size; have := Hsm.out.size; omega) (by have := Hlen.out; omega)).mono ?_)
            rintro _ w4 ⟨A', c', rfl, ho, hc, _⟩
            exact hK _ _ _ (hc.mono fun b _ h => ⟨.inl rfl, (Hown.out.lt b (by rw [ownBlock_slice]; exact h)).1⟩) ⟨A', c', (by rw [List.length_append]), (by rw [List.length_append]; exact ho)⟩ (by simp only [Act.put, List.setIfInBounds_toArray, List.set_cons_zero, List.set_cons_succ])
          · intro e; simp only [Act.put, List.setIfInBounds_toArray, List.set_cons_zero, List.set_cons_succ]; rfl
          refine Mz.mix_lit ?_ ?_ (fun w => Chg.refl _ w) ?_ ?_ ?_ ?_
          rotate_left; rotate_left
          · intro e w1 hR hF K hK; (obtain ⟨hc0, hc1, hc2⟩ := HC.out w1 (hR.mono fun _ _ h => h.2)); go_simp; (refine hK _ _ (Chg.refl _ _) ?_; rfl)
          · intro e; simp only [Act.put, List.setIfInBounds_toArray, List.set_cons_zero, List.set_cons_succ]; rfl
          · exact Loc.const _ _
          refine Mz.mix_lit ?_ ?_ (fun w => Chg.refl _ w) ?_ ?_ ?_ ?_
          rotate_left; rotate_left
          · intro e w1 hR hF K hK; (obtain ⟨hc0, hc1, hc2⟩ := HC.out w1 (hR.mono fun _ _ h => h.2)); go_simp; (refine hK _ _ (Chg.refl _ _) ?_; rfl)
          · intro e; simp only [Act.put, List.setIfInBounds_toArray, List.set_cons_zero, List.set_cons_succ]; rfl
          · exact Loc.const _ _
          refine Mz.mix_lit ?_ ?_ (fun w => Chg.refl _ w) ?_ ?_ ?_ ?_
          rotate_left; rotate_left
          · intro e w1 hR hF K hK; (obtain ⟨hc0, hc1, hc2⟩ := HC.out w1 (hR.mono fun _ _ h => h.2)); go_simp; (refine hK _ _ (Chg.refl _ _) ?_; rfl)
          · intro e; simp only [Act.put, List.setIfInBounds_toArray, List.set_cons_zero, List.set_cons_succ]; rfl
          · exact Loc.const _ _
          refine Mz.mix_lit ?_ ?_ (fun w => Chg.refl _ w) ?_ ?_ ?_ ?_
          rotate_left; rotate_left
          · intro e w1 hR hF K hK; (obtain ⟨hc0, hc1, hc2⟩ := HC.out w1 (hR.mono fun _ _ h => h.2)); go_simp; (refine hK _ _ (Chg.refl _ _) ?_; rfl)
          · intro e; simp only [Act.put, List.setIfInBounds_toArray, List.set_cons_zero, List.set_cons_succ]; rfl
          · exact Loc.const _ _
          refine Mz.mix_lit ?_ ?_ (fun w => Chg.refl _ w) ?_ ?_ ?_ ?_
          rotate_left; rotate_left
          · intro e w1 hR hF K hK; (obtain ⟨hc0, hc1, hc2⟩ := HC.out w1 (hR.mono fun _ _ h => h.2)); go_simp; (refine hK _ _ (Chg.refl _ _) ?_; rfl)
          · intro e; simp only [Act.put, List.setIfInBounds_toArray, List.set_cons_zero, List.set_cons_succ]; rfl
          · exact Loc.const _ _
          refine Mz.mix_let (fun _ v w' => ∃ A c, v = .slice A (l ++ encI (y1 - la) ++ encI y2).length c ∧ w'.ownsRow w.heap.size 5 1 (.slice A (l ++ encI (y1 - la) ++ encI y2).length c) (l ++ encI (y1 - la) ++ encI y2).length (bs (l ++ encI (y1 - la) ++ encI y2))) ?_ (by exact Loc.const _ _) ?_ ?_ ?_ ?_ ?_
          rotate_left
          · rintro k hi h1 h2 e u w1 w2 hs ⟨A', c', rfl, h3⟩
            have hq : ¬ (k = 8 ∨ k = 14 ∨ k = 26) := by
              rintro (rfl | rfl | rfl)
              · exact Bool.noConfusion (Eq.trans h1.symm (by kernel_rfl : _ = true))
              · exact hi rfl
              · exact Bool.noConfusion (Eq.trans h2.symm (by kernel_rfl : _ = true))
            exact ⟨A', c', rfl, own_chg h3 hs fun _ _ h => hq h.1⟩
          · intro e; rfl
          · intro e w1 hR hF K hK
            go_simp
            obtain ⟨A1, c1, hv1, ho1⟩ := (show ∃ A c, e 8 = .slice A (l ++ encI (y1 - la)).length c ∧ w1.ownsRow w.heap.size 5 1 (.slice A (l ++ encI (y1 - la)).length c) (l ++ encI (y1 - la)).length (bs (l ++ encI (y1 - la))) from hF 8 (by kernel_rfl) (by kernel_rfl))
            go_at_call 54
            (with_reducible refine (HInt.out _ _ w1 _ _ _ _ _ hv1 Hx2.out ho1 (by have := hR.size; have := Hsm.out.size; omega) (by have := Hlen.out; simp only [List.length_append]; omega)).mono ?_)
            rintro _ w4 ⟨A', c', rfl, ho, hc, _⟩
            exact hK _ _ _ (hc.mono fun b _ h => ⟨.inr (.inl rfl), (ho1.lt b (by rw [ownBlock_slice]; exact h)).1⟩) ⟨A', c', (by rw [@List.length_append _ (l ++ encI (y1 - la))]), (by rw [@List.length_append _ (l ++ encI (y1 - la))]; exact ho)⟩ (by simp only [Act.put, List.setIfInBounds_toArray, List.set_cons_zero, List.set_cons_succ])
          · intro e; simp only [Act.put, List.setIfInBounds_toArray, List.set_cons_zero, List.set_cons_succ]; rfl
          refine Mz.mix_lit ?_ ?_ (fun w => Chg.refl _ w) ?_ ?_ ?_ ?_
          rotate_left; rotate_left
          · intro e w1 hR hF K hK; (obtain ⟨hc0, hc1, hc2⟩ := HC.out w1 (hR.mono fun _ _ h => h.2)); go_simp; (refine hK _ _ (Chg.refl _ _) ?_; rfl)
          · intro e; simp only [Act.put, List.setIfInBounds_toArray, List.set_cons_zero, List.set_cons_succ]; rfl
          · exact Loc.const _ _
          refine Mz.mix_lit ?_ ?_ (fun w => Chg.refl _ w) ?_ ?_ ?_ ?_
          rotate_left; rotate_left
          · intro e w1 hR hF K hK; (obtain ⟨hc0, hc1, hc2⟩ := HC.out w1 (hR.mono fun _ _ h => h.2)); go_simp; (refine hK _ _ (Chg.refl _ _) ?_; rfl)
          · intro e; simp only [Act.put, List.setIfInBounds_toArray, List.set_cons_zero, List.set_cons_succ]; rfl
          · exact Loc.const _ _
          refine Mz.mix_lit ?_ ?_ (fun w => Chg.refl _ w) ?_ ?_ ?_ ?_
          rotate_left; rotate_left
          · intro e w1 hR hF K hK; (obtain ⟨hc0, hc1, hc2⟩ := HC.out w1 (hR.mono fun _ _ h => h.2)); go_simp; (refine hK _ _ (Chg.refl _ _) ?_; rfl)
          · intro e; simp only [Act.put, List.setIfInBounds_toArray, List.set_cons_zero, List.set_cons_succ]; rfl
          · exact Loc.const _ _
          refine Mz.mix_lit ?_ ?_ (fun w => Chg.refl _ w) ?_ ?_ ?_ ?_
          rotate_left; rotate_left
          · intro e w1 hR hF K hK; (obtain ⟨hc0, hc1, hc2⟩ := HC.out w1 (hR.mono fun _ _ h => h.2)); go_simp; (refine hK _ _ (Chg.refl _ _) ?_; rfl)
          · intro e; simp only [Act.put, List.setIfInBounds_toArray, List.set_cons_zero, List.set_cons_succ]; rfl
          · exact Loc.const _ _
          refine Mz.mix_lit ?_ ?_ (fun w => Chg.refl _ w) ?_ ?_ ?_ ?_
          rotate_left; rotate_left
          · intro e w1 hR hF K hK; (obtain ⟨hc0, hc1, hc2⟩ := HC.out w1 (hR.mono fun _ _ h => h.2)); go_simp; (refine hK _ _ (Chg.refl _ _) ?_; rfl)
          · intro e; simp only [Act.put, List.setIfInBounds_toArray, List.set_cons_zero, List.set_cons_succ]; rfl
          · exact Loc.const _ _
          refine Mz.mix_lit ?_ ?_ (fun w => Chg.refl _ w) ?_ ?_ ?_ ?_
          rotate_left; rotate_left
          · intro e w1 hR hF K hK; (obtain ⟨hc0, hc1, hc2⟩ := HC.out w1 (hR.mono fun _ _ h => h.2)); go_simp; (refine hK _ _ (Chg.refl _ _) ?_; rfl)
          · intro e; simp only [Act.put, List.setIfInBounds_toArray, List.set_cons_zero, List.set_cons_succ]; rfl
          · exact Loc.const _ _
          refine Mz.mix_lit ?_ ?_ (fun w => Chg.refl _ w) ?_ ?_ ?_ ?_
          rotate_left; rotate_left
          · intro e w1 hR hF K hK; (obtain ⟨hc0, hc1, hc2⟩ := HC.out w1 (hR.mono fun _ _ h => h.2)); go_simp; (refine hK _ _ (Chg.refl _ _) ?_; rfl)
          · intro e; simp only [Act.put, List.setIfInBounds_toArray, List.set_cons_zero, List.set_cons_succ]; rfl
          · exact Loc.const _ _
          refine Mz.mix_lit ?_ ?_ (fun w => Chg.refl _ w) ?_ ?_ ?_ ?_
          rotate_left; rotate_left
          · intro e w1 hR hF K hK; (obtain ⟨hc0, hc1, hc2⟩ := HC.out w1 (hR.mono fun _ _ h => h.2)); go_simp; (refine hK _ _ (Chg.refl _ _) ?_; rfl)
          · intro e; simp only [Act.put, List.setIfInBounds_toArray, List.set_cons_zero, List.set_cons_succ]; rfl
          · exact Loc.const _ _
          refine Mz.mix_lit ?_ ?_ (fun w => Chg.refl _ w) ?_ ?_ ?_ ?_
          rotate_left; rotate_left
          · intro e w1 hR hF K hK; (obtain ⟨hc0, hc1, hc2⟩ := HC.out w1 (hR.mono fun _ _ h => h.2)); go_simp; (refine hK _ _ (Chg.refl _ _) ?_; rfl)
          · intro e; simp only [Act.put, List.setIfInBounds_toArray, List.set_cons_zero, List.set_cons_succ]; rfl
          · exact Loc.const _ _
          refine Mz.mix_lit ?_ ?_ (fun w => Chg.refl _ w) ?_ ?_ ?_ ?_
          rotate_left; rotate_left
          · intro e w1 hR hF K hK; (obtain ⟨hc0, hc1, hc2⟩ := HC.out w1 (hR.mono fun _ _ h => h.2)); go_simp; (refine hK _ _ (Chg.refl _ _) ?_; rfl)
          · intro e; simp only [Act.put, List.setIfInBounds_toArray, List.set_cons_zero, List.set_cons_succ]; rfl
          · exact Loc.const _ _
          refine Mz.mix_lit ?_ ?_ (fun w => Chg.refl _ w) ?_ ?_ ?_ ?_
          rotate_left; rotate_left
          · intro e w1 hR hF K hK; (obtain ⟨hc0, hc1, hc2⟩ := HC.out w1 (hR.mono fun _ _ h => h.2)); go_simp; (refine hK _ _ (Chg.refl _ _) ?_; rfl)
          · intro e; simp only [Act.put, List.setIfInBounds_toArray, List.set_cons_zero, List.set_cons_succ]; rfl
          · exact Loc.const _ _
          refine Mz.mix_let (fun _ v w' => ∃ A c, v = .slice A (l ++ encI (y1 - la) ++ encI y2 ++ encI (y3 - y2)).length c ∧ w'.ownsRow w.heap.size 5 1 (.slice A (l ++ encI (y1 - la) ++ encI y2 ++ encI (y3 - y2)).length c) (l ++ encI (y1 - la) ++ encI y2 ++ encI (y3 - y2)).length (bs (l ++ encI (y1 - la) ++ encI y2 ++ encI (y3 - y2)))) ?_ (by exact Loc.const _ _) ?_ ?_ ?_ ?_ ?_
          rotate_left
          · rintro k hi h1 h2 e u w1 w2 hs ⟨A', c', rfl, h3⟩
            have hq : ¬ (k = 8 ∨ k = 14 ∨ k = 26) := by
              rintro (rfl | rfl | rfl)
              · exact Bool.noConfusion (Eq.trans h1.symm (by kernel_rfl : _ = true))
              · exact Bool.noConfusion (Eq.trans h1.symm (by kernel_rfl : _ = true))
              · exact hi rfl
            exact ⟨A', c', rfl, own_chg h3 hs fun _ _ h => hq h.1⟩
          · intro e; rfl
          · intro e w1 hR hF K hK
            go_simp
            obtain ⟨A1, c1, hv1, ho1⟩ := (show ∃ A c, e 14 = .slice A (l ++ encI (y1 - la) ++ encI y2).length c ∧ w1.ownsRow w.heap.size 5 1 (.slice A (l ++ encI (y1 - la) ++ encI y2).length c) (l ++ encI (y1 - la) ++ encI y2).length (bs (l ++ encI (y1 - la) ++ encI y2)) from hF 14 (by kernel_rfl) (by kernel_rfl))
            go_at_call 54
            (with_reducible refine (HInt.out _ _ w1 _ _ _ _ _ hv1 Hx3.out ho1 (by have := hR.size; have := Hsm.out.size; omega) (by have := Hlen.out; simp only [List.length_append]; omega)).mono ?_)
            rintro _ w4 ⟨A', c', rfl, ho, hc, _⟩
            exact hK _ _ _ (hc.mono fun b _ h => ⟨.inr (.inr rfl), (ho1.lt b (by rw [ownBlock_slice]; exact h)).1⟩) ⟨A', c', (by rw [@List.length_append _ (l ++ encI (y1 - la) ++ encI y2)]), (by rw [@List.length_append _ (l ++ encI (y1 - la) ++ encI y2)]; exact ho)⟩ (by simp only [Act.put, List.setIfInBounds_toArray, List.set_cons_zero, List.set_cons_succ])
          · intro e; simp only [Act.put, List.setIfInBounds_toArray, List.set_cons_zero, List.set_cons_succ]; rfl
          refine Mz.mix_nil fun e wq hR hF => hFin _ _ ?_
          simp only [List.drop_succ_cons, List.drop_zero]
          obtain ⟨A9, c9, hv9, ho9⟩ := (show ∃ A c, e 26 = .slice A (l ++ encI (y1 - la) ++ encI y2 ++ encI (y3 - y2)).length c ∧ wq.ownsRow w.heap.size 5 1 (.slice A (l ++ encI (y1 - la) ++ encI y2 ++ encI (y3 - y2)).length c) (l ++ encI (y1 - la) ++ encI y2 ++ encI (y3 - y2)).length (bs (l ++ encI (y1 - la) ++ encI y2 ++ encI (y3 - y2))) from hF 26 (by decide) (by kernel_rfl))
          rw [show e (0 + 1 + 1 + 1 + 1 + 1 + 1 + 1 + 1 + 1 + 1 + 1 + 1 + 1 + 1 + 1 + 1 + 1 + 1 + 1 + 1 + 1 + 1 + 1 + 1 + 1 + 1) = _ from hv9]
          have Ho9 := hide ho9
          obtain ⟨hc0, hc1, hc2⟩ := HC.out wq (hR.mono fun _ _ h => h.2)
          have HS9 : Hid (Same w wq) := hide (Chg.fresh (S := fun b => w.heap.size ≤ b) (Hsm.out.to.trans hR fun _ _ h => h.2) fun _ h => h)
          clear hF hFin hR hv9 ho9
          go_wp2_with fail
          go_roundg (n2 - (k + 1))
          case measure => have := Hk.out; omega
          case rel =>
            have ho := Ho9.out
            have hnx := Hnx.out
            have hl := Hl.out
            have e9 : encD (([(i : Int)] ++ nums ptG 0 p ++ [(n2 : Int)]) ++ nums spG 0 (s.take (k + 1))) = l ++ encI (y1 - la) ++ encI y2 ++ encI (y3 - y2) := by rw [hnx, ← List.append_assoc, encD_append, hl]; simp [spG, encD]
            exact ⟨k + 1, A9, c9, by omega, rfl, by rw [e9], by rw [Hls.out], by first | rfl | go_num, by rw [e9]; exact ho, HS9.out⟩
        · have hin : k = n2 := by omega
          subst hin
          have etk : s.take k = s := List.take_of_length_le (Nat.le_of_eq Hn2.out)
          have hown := Hown'.out
          rw [etk] at hown ⊢
          have Hown2 := hide hown
          clear hown Hown' etk
          have HE : Hid (WritEnd w (wrtD p s) (.returned (.slice A0 (wrtD p s).length c0)) wr) := hide ⟨A0, c0, rfl, by rw [← HV.out]; exact Hown2.out, Hsm.out⟩
          rw [HV.out]
          clear Hown2
          go_wp2_with fail
          go_ret
          exact HE.out
end Go.Proofs.YtopkdiiigidfdaaGreat
