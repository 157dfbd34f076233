/-
  codec.Int at no bytes; what digest.written puts behind bytes. Conditions: numbers that an int holds; at most 1048576 bytes.
-/
import Derived.Test.YtopkdiiigidfdaaGreatCdD
import Derived.Test.YtopkdiiigidfdaaGreatDgP
namespace Go.Proofs.YtopkdiiigidfdaaGreat
open Go.RowKit Go.Al
set_option linter.unusedVariables false

theorem slnil_none (n c : Nat) (w : World) : (binOp .eql 58 (.slice none n c) (.slice none 0 0)).run Tryz.prog w = .ok (.bool true) w := by
  simp [binOp, run_equal_slice_nil w _ _ _ _ _ Tryz.underlying58]
set_option maxRecDepth 100000 in
set_option maxHeartbeats 1000000 in
theorem cloneb_nil (w : World) :
    Calls Tryz.prog 145 #[.slice none 0 0] w fun e w' => e = .returned (.slice none 0 0) ∧ w = w' := by
  have hnil := slnil_none 0 0
  go_enter Tryz.func145, Tryz.ntmps145
  go_wp2_with fail
  go_ret
  exact ⟨rfl, rfl⟩
/-- how Int at no bytes ends: a number's bytes, in memory of their own -/
def Int0End (w : World) (x : Int) (e : Ending) (w' : World) : Prop :=
  ∃ A c, e = .returned (.slice A (encI x).length c) ∧ Rd w' A (bs (encI x)) ∧ Same w w' ∧ w'.ownsRow w.heap.size 5 1 (.slice A (encI x).length c) (encI x).length (bs (encI x))
set_option maxRecDepth 100000 in
set_option maxHeartbeats 2000000 in
theorem Int_nil (x : Int) (w : World) (hx : inI x) :
    Calls Tryz.prog 84 #[.slice none 0 0, .int .i64 x] w (Int0End w x) := by
  have HP := hide (fun w' => put_any (l := []) (base := w'.heap.size) (A := none) (n := 0) (c := 0) x w' hx.1 hx.2 (World.ownsRow_nil _ _ _ _) (Nat.le_refl _) (by decide))
  go_enter Tryz.func84, Tryz.ntmps84
  go_wp2_with (first
    | (go_at_call 145; (with_reducible refine (cloneb_nil _).mono ?_); rintro e w2 ⟨rfl, rfl⟩)
    | (go_at_call 144; (with_reducible refine (HP.out _).mono ?_); rintro e w3 ⟨A, c, rfl, ho, hc, hb⟩; have Ho := hide ho; have Hc := hide hc; clear ho hc hb)
    | fail)
  go_ret
  have ho := Ho.out
  rw [List.nil_append, Nat.zero_add] at ho
  exact ⟨A, c, rfl, own_rd ho, Hc.out.mono (fun k _ e => by simp [blkOf] at e), ho⟩
/-- the state that the closure works on: a block that holds bytes of the call's own -/
structure Wst (u w : World) (g : Nat) (l : List UInt8) : Prop where
  st : ∃ A n c, Blk w g 58 #[.slice A n c] ∧ w.ownsRow u.heap.size 5 1 (.slice A n c) n (bs l) ∧ l.length = n ∧ blkOf A ≠ some g
  ge : u.heap.size ≤ g
  same : Same u w
theorem encD_len : ∀ (l : List Int), (∀ x ∈ l, inI x) → (encD l).length ≤ 10 * l.length
  | [], _ => Nat.le_refl _
  | x :: l, h => by
    have h1 := h x (by simp)
    have := encI_len h1.1 h1.2
    have := encD_len l fun y hy => h y (by simp [hy])
    rw [encD_cons, List.length_append, List.length_cons]
    omega
theorem encD_take {l : List Int} {i : Nat} (h : i < l.length) : encD (l.take (i + 1)) = encD (l.take i) ++ encI l[i] := by
  rw [List.take_succ_eq_append_getElem h, encD_append]
  simp [encD]
theorem grown9 {w wr w5 : World} {g : Nat} {A A0 : Option Addr} (h : Chg (fun k => k = g ∨ blkOf A0 = some k) w wr) (hb : blkOf A = blkOf A0 ∨ ∀ b, blkOf A = some b → w.heap.size ≤ b) (hc : Chg (fun k => blkOf A = some k) wr w5) : Chg (fun k => k = g ∨ blkOf A0 = some k) w w5 :=
  Chg.trans h hc fun k hk e => by
    rcases hb with h | h
    · rw [← h]; exact .inr e
    · have := h k e; omega
theorem growb {w wr : World} {A A0 A1 : Option Addr} (hz : w.heap.size ≤ wr.heap.size) (hb : blkOf A = blkOf A0 ∨ ∀ b, blkOf A = some b → w.heap.size ≤ b) (h1 : blkOf A1 = blkOf A ∨ blkOf A1 = some wr.heap.size) : blkOf A1 = blkOf A0 ∨ ∀ b, blkOf A1 = some b → w.heap.size ≤ b := by
  rcases h1 with h | h
  · rw [h]; exact hb
  · refine .inr fun b hb' => ?_
    rw [h] at hb'
    simp at hb'
    omega
/-- the state in the middle of the closure's loop -/
structure Wmid (u w wr : World) (g : Nat) (A0 A : Option Addr) (n c : Nat) (l : List UInt8) : Prop where
  blk : Blk wr g 58 #[.slice A n c]
  own : wr.ownsRow u.heap.size 5 1 (.slice A n c) n (bs l)
  len : l.length = n
  ne : blkOf A ≠ some g
  chg : Chg (fun k => k = g ∨ blkOf A0 = some k) w wr
  old : blkOf A = blkOf A0 ∨ ∀ b, blkOf A = some b → w.heap.size ≤ b
theorem Wmid.push {u w wr w1 w5 : World} {g : Nat} {A0 A A5 : Option Addr} {n c m c5 : Nat} {l r : List UInt8} (h : Wmid u w wr g A0 A n c l) (hs : Same wr w1) (hm : r.length = m)
    (ho : w5.ownsRow u.heap.size 5 1 (.slice A5 (n + m) c5) (n + m) (bs l ++ bs r)) (hc : Chg (fun k => blkOf A = some k) w1 w5) (hb : blkOf A5 = blkOf A ∨ blkOf A5 = some w1.heap.size) (hg : g < w.heap.size) :
    Wmid u w (w5.setCell ⟨g, 0, none⟩ (.slice A5 (n + m) c5)) g A0 A5 (n + m) c5 (l ++ r) := by
  have hga := h.ne
  have hz := Nat.le_trans h.chg.size hs.size
  have hga5' : blkOf A5 ≠ some g := by
    rcases hb with h | h
    · rw [h]; exact hga
    · rw [h]; intro e; cases e; omega
  have hga5 : ∀ b, (Value.slice A5 (n + m) c5).ownBlock = some b → ¬ b = g := fun b e h => by rw [ownBlock_slice, h] at e; exact hga5' e
  have h5 := (h.blk.same hs).chg hc hga
  have hch := grown9 (h.chg.same hs) h.old hc
  refine ⟨by have := h5.set_ 0 (.slice A5 (n + m) c5); simpa using this, own_chg (by rw [← bs_append] at ho; exact ho) (Chg.setCell (S := fun k => k = g) (Chg.refl _ w5) (p := ⟨g, 0, none⟩) (.inl rfl) _) hga5, by rw [List.length_append, h.len, hm], hga5', ?_, growb (Nat.le_trans h.chg.size hs.size) h.old hb⟩
  exact Chg.setCell (p := ⟨g, 0, none⟩) hch (.inl (.inl rfl)) _
set_option maxRecDepth 100000 in
set_option maxHeartbeats 4000000 in
theorem putn_any {A1 : Option Addr} {k c1 : Nat} {u : World} {g : Nat} {l : List UInt8} (xs : List Int) (w : World) (hr : Rd w A1 (is xs)) (hxl : xs.length = k) (hk : k ≤ 3) (hb : ∀ b, blkOf A1 = some b → ¬ b = g ∧ b < w.heap.size ∧ ty w b = some 3) (hx : ∀ x ∈ xs, inI x) (hw : Wst u w g l) (hn : l.length + 30 ≤ 1048576) :
    Calls Tryz.prog 85 #[.slice A1 k c1, .pointer (some ⟨g, 0, none⟩)] w fun e w' => e = .returned (.tuple #[]) ∧ Wst u w' g (l ++ encD xs) ∧ Chg (fun k => k = g ∨ u.heap.size ≤ k ∧ ty w k = some 5) w w' := by
  obtain ⟨A0, n0, c0, hblk, hown, hlen, hne0⟩ := hw.st
  have Hgw := hide hblk.lt
  have HM0 : Hid (Wmid u w w g A0 A0 n0 c0 (l ++ encD (xs.take 0))) := hide ⟨hblk, by simpa [encD] using hown, by simpa [encD] using hlen, hne0, Chg.refl _ _, .inl rfl⟩
  obtain ⟨A', c', he, _, _, hta, _, _, hge0⟩ := own_form hown
  obtain ⟨rfl, rfl⟩ : A0 = A' ∧ c0 = c' := by injection he with e1 e2 e3; exact ⟨e1, e3⟩
  have hA0 : ∀ b, blkOf A0 = some b → ty w b = some 5 := hta
  have HA0 := hide hge0
  have HT0 := hide hA0
  clear he hta hge0
  have HR : Hid (∀ w', Chg (fun k => k = g ∨ blkOf A0 = some k) w w' → Rd w' A1 (is xs)) := hide fun w' h => hr.chg h fun b e _ hS => by
    obtain ⟨h1, h2, h3⟩ := hb b e
    rcases hS with h | h
    · exact h1 h
    · rw [hA0 b h] at h3; exact absurd h3 (by decide)
  have HX := hide hx
  have Hge := hide hw.ge
  have Hs0 := hide hw.same
  have Hxl := hide hxl
  have Hlen := hide hlen
  have HN := hide hn
  have Hel0 := hide (encD_len xs hx)
  clear hb hn hblk hown hlen hne0 hA0 hw hx hr hxl
  go_enter Tryz.func85, Tryz.ntmps85
  go_wp2_with fail
  go_loopg [7] k (fun kk v wr => ∃ (i : Nat) (A : Option Addr) (n c : Nat), i ≤ k ∧ kk = k - i ∧ v = .int .i64 i ∧ Wmid u w wr g A0 A n c (l ++ encD (xs.take i)))
  case atStart => exact ⟨0, A0, n0, c0, Nat.zero_le _, rfl, rfl, HM0.out⟩
  case round =>
    obtain ⟨i, A, n, c, hi, hkk, rfl, hm⟩ := hrel
    have Hk := hide hkk
    have HM := hide hm
    clear hkk hm
    by_cases hlt : i < k
    · have hil : i < xs.length := by rw [Hxl.out]; exact hlt
      obtain ⟨b, off, rfl, hc⟩ := (HR.out _ HM.out.chg).at_ (i := i) (by rw [is, List.length_map]; exact hil)
      have hci : wr.cell? ⟨b, off + i, none⟩ = some (.int .i64 xs[i]) := by rw [hc]; simp [is]
      obtain ⟨x, hx⟩ : ∃ x, xs[i] = x := ⟨_, rfl⟩
      have hxi : inI x := by rw [← hx]; exact HX.out _ (List.getElem_mem hil)
      have Hnx := hide (encD_take hil)
      rw [hx] at hci Hnx
      have HI := hide (fun w' => Int_nil x w' hxi)
      have hel := encI_len hxi.1 hxi.2
      have Hnn : Hid (n + (encI x).length ≤ 1048576) := hide (by
        have h1 := HM.out.len
        have h2 := encD_len (xs.take i) fun y hy => HX.out y (List.mem_of_mem_take hy)
        have h3 := HN.out
        rw [List.length_append] at h1
        rw [List.length_take] at h2
        omega)
      have hwi : IntKind.i64.wrap ((i : Int) + 1) = (i : Int) + 1 := IntWalk.i64_in _ (by omega)
      clear hc hx hxi hel
      go_wp2_with fail
      refine wp_region_mixS 3 (by kernel_rfl) (by kernel_rfl) fun Fin hFin => ?_
      simp only [List.take_succ_cons, List.take_zero]
      iterate 2 (
          (refine mix_lit ?_ ?_ (fun w => Chg.refl _ w) ?_ ?_ ?_ ?_
           rotate_left; rotate_left
           · intro e w1 hR hF K hK; (have hkb := (HM.out.blk.same hR).cell); go_simp; (refine hK _ _ (Chg.refl _ _) ?_; rfl)
           · intro e; simp only [Act.put, List.setIfInBounds_toArray, List.set_cons_zero, List.set_cons_succ]; rfl
           · exact Loc.const _ _))
      refine mix_letS (fun _ v w' => ∃ A c, v = .slice A (encI x).length c ∧ Rd w' A (bs (encI x))) ?_ (by exact Loc.const _ _) ?_ ?_ ?_ ?_ ?_
      rotate_left
      · rintro e u w1 w2 hs ⟨A, c, rfl, h1⟩; exact ⟨A, c, rfl, h1.same hs⟩
      · intro e; rfl
      · intro e w1 hR hF K hK
        go_simp
        go_at_call 84
        (with_reducible refine (HI.out w1).mono ?_)
        rintro _ w4 ⟨A, c, rfl, h1, h2, _⟩
        exact hK _ _ _ h2 ⟨A, c, rfl, h1⟩ (by simp only [Act.put, List.setIfInBounds_toArray, List.set_cons_zero, List.set_cons_succ])
      · intro e; simp only [Act.put, List.setIfInBounds_toArray, List.set_cons_zero, List.set_cons_succ]; rfl
      refine mix_nil fun e w1 hR hF => hFin _ _ ?_
      simp only [List.drop_succ_cons, List.drop_zero]
      obtain ⟨A2, c2, hv2, hr2⟩ := (show ∃ A c, e 2 = .slice A (encI x).length c ∧ Rd w1 A (bs (encI x)) from hF 2 (by decide))
      rw [hv2]
      have HS1 := hide hR
      have Hr2 := hide hr2
      have Hml := hide (show (bs (encI x)).length = (encI x).length * 1 by simp [bs])
      clear hF hFin hR hv2 hr2
      obtain ⟨m, hmm⟩ : ∃ m, (encI x).length = m := ⟨_, rfl⟩
      have Hel := hide hmm
      rw [hmm] at Hml Hnn ⊢
      clear hmm
      go_wp2_with (first
        | (at_builtin; refine wpList_appS (by rfl) (.tmp 11) (.tmp 13) _ (by rfl) slB (by rfl) (base := u.heap.size) (by exact own_chg HM.out.own HS1.out (fun _ _ f => f)) (by rfl) (by exact Hml.out) (by exact Hr2.out) (one_bs _) (by have := Hnn.out; omega) (by have := Hnn.out; omega) (by have := HS1.out.size; have := HM.out.chg.size; have := Hs0.out.size; omega) ?_; intro A5 c5 w5 hown hc hb; have HP := hide (HM.out.push HS1.out Hel.out hown hc hb Hgw.out); have hb5 := ((HM.out.blk.same HS1.out).chg hc HM.out.ne); have hkb := hb5.cell; have hkf := hb5.frozen; clear hown hc hb hb5)
        | fail)
      go_roundg (k - (i + 1))
      case measure => have := Hk.out; omega
      case rel =>
        have hP := HP.out
        rw [List.append_assoc, ← Hnx.out] at hP
        exact ⟨i + 1, A5, _, c5, by omega, rfl, by first | rfl | go_num, hP⟩
    · have hin : i = k := by omega
      subst hin
      go_wp2_with fail
      go_end0
      have e : xs.take i = xs := List.take_of_length_le (Nat.le_of_eq Hxl.out)
      have hM := HM.out
      rw [e] at hM
      exact ⟨rfl, ⟨⟨A, n, c, hM.blk, hM.own, hM.len, hM.ne⟩, Hge.out, Chg.fresh (S := fun k => u.heap.size ≤ k) (Chg.trans Hs0.out.to hM.chg fun k hk e => by
        have := Hge.out
        rcases e with rfl | e
        · exact this
        · have := HA0.out k e; omega) fun _ h => h⟩, hM.chg.mono fun k _ e => by
        rcases e with rfl | e
        · exact .inl rfl
        · exact .inr ⟨HA0.out k e, HT0.out k e⟩⟩
theorem Wst.same9 {u w w' : World} {g : Nat} {l : List UInt8} (h : Wst u w g l) (hs : Same w w') : Wst u w' g l := by
  obtain ⟨A, n, c, hb, ho, hl, hn⟩ := h.st
  exact ⟨⟨A, n, c, hb.same hs, own_chg ho hs fun _ _ f => f, hl, hn⟩, h.ge, Same.trans h.same hs⟩
/-- the first number of the one before -/
def lastAt (l : List P3) : Nat → Int
  | 0 => 0
  | i + 1 => (l.getD i (0, 0, 0)).1
theorem lastAt_succ {l : List P3} {i : Nat} (h : i < l.length) : lastAt l (i + 1) = l[i].1 := by
  simp [lastAt, h]
theorem nums_snoc (g : Int → P3 → List Int) (q : P3) : ∀ (l : List P3) (last : Int), nums g last (l ++ [q]) = nums g last l ++ g (((l.getLast?).map (·.1)).getD last) q
  | [], last => by simp [nums]
  | [p], last => by simp [nums]
  | p :: r :: l, last => by
    have ih := nums_snoc g q (r :: l) p.1
    show g last p ++ nums g p.1 ((r :: l) ++ [q]) = (g last p ++ nums g p.1 (r :: l)) ++ _
    rw [ih, List.append_assoc, List.getLast?_cons_cons]
    cases h : (r :: l).getLast? with
    | none => simp at h
    | some z => rfl
theorem nums_take (g : Int → P3 → List Int) {l : List P3} {i : Nat} (h : i < l.length) : nums g 0 (l.take (i + 1)) = nums g 0 (l.take i) ++ g (lastAt l i) l[i] := by
  rw [List.take_succ_eq_append_getElem h, nums_snoc]
  congr 2
  cases i with
  | zero => simp [lastAt]
  | succ i =>
    have e : (l.take (i + 1)).getLast? = some (l[i]'(by omega)) := by rw [List.take_succ_eq_append_getElem (by omega)]; exact List.getLast?_concat
    rw [e, lastAt]
    simp [show i < l.length by omega]
theorem lastAt_in {l : List P3} {i : Nat} (h : ∀ j (hj : j < l.length), idB l[j].1 = true) (hi : i ≤ l.length) : 0 ≤ lastAt l i ∧ lastAt l i ≤ 2147483647 := by
  cases i with
  | zero => simp [lastAt]
  | succ i =>
    rw [lastAt_succ (by omega)]
    have := h i (by omega)
    simp only [idB, Bool.and_eq_true, decide_eq_true_eq] at this
    omega
theorem inI_3 {a b c : Int} (ha : -9223372036854775808 ≤ a ∧ a ≤ 9223372036854775807) (hb : -9223372036854775808 ≤ b ∧ b ≤ 9223372036854775807) (hc : -9223372036854775808 ≤ c ∧ c ≤ 9223372036854775807) : ∀ x ∈ [a, b, c], inI x := by
  intro x hx
  simp at hx
  rcases hx with rfl | rfl | rfl
  · exact ha
  · exact hb
  · exact hc
theorem encD_nums_len (g : Int → P3 → List Int) (hg : ∀ i p, (g i p).length = 3) {l : List P3} {last : Int} (h : ∀ x ∈ nums g last l, inI x) : (encD (nums g last l)).length ≤ 30 * l.length := by
  have := encD_len _ h
  rw [numsP_len g hg] at this
  omega
end Go.Proofs.YtopkdiiigidfdaaGreat
