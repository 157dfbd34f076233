/-
  digest.written: the bytes of points and intervals. Conditions: they are well; at most 2000 of each.
-/
import Derived.Test.YtopkdiiigidfdaaGreatDgW
import Derived.Test.YtopkdiiigidfdaaGreatDgA
namespace Go.Proofs.YtopkdiiigidfdaaGreat
open Go.RowKit Go.Al
set_option linter.unusedVariables false

/-- how written ends -/
def WritEnd (w : World) (l : List UInt8) (e : Ending) (w' : World) : Prop :=
  ∃ A c, e = .returned (.slice A l.length c) ∧ w'.ownsRow w.heap.size 5 1 (.slice A l.length c) l.length (bs l) ∧ Same w w'
theorem inI_nums (G : Int → P3 → List Int) {l : List P3} (h : ∀ i (hi : i < l.length), ∀ x ∈ G (lastAt l i) l[i], inI x) : ∀ n, n ≤ l.length → ∀ x ∈ nums G 0 (l.take n), inI x
  | 0, _, x, hx => by simp [nums] at hx
  | n + 1, hn, x, hx => by
    rw [nums_take G (by omega)] at hx
    rcases List.mem_append.1 hx with hx | hx
    · exact inI_nums G h n (by omega) x hx
    · exact h n (by omega) x hx
theorem ptG_in {l : List P3} (h : ∀ j (hj : j < l.length), goodPB l[j] = true) (i : Nat) (hi : i < l.length) : ∀ x ∈ ptG (lastAt l i) l[i], inI x := by
  have hid : ∀ j (hj : j < l.length), idB l[j].1 = true := fun j hj => by have := h j hj; simp only [goodPB, Bool.and_eq_true] at this; exact this.1
  have h1 := lastAt_in hid (Nat.le_of_lt hi)
  have h2 := h i hi
  simp only [goodPB, idB, coordB, Bool.and_eq_true, decide_eq_true_eq] at h2
  exact inI_3 (by omega) (by omega) (by omega)
theorem spG_in {l : List P3} (h : ∀ j (hj : j < l.length), fairB l[j] = true) (i : Nat) (hi : i < l.length) : ∀ x ∈ spG (lastAt l i) l[i], inI x := by
  have hid : ∀ j (hj : j < l.length), idB l[j].1 = true := fun j hj => by have := h j hj; simp only [fairB, Bool.and_eq_true] at this; exact this.1.1.1
  have h1 := lastAt_in hid (Nat.le_of_lt hi)
  have h2 := h i hi
  simp only [fairB, idB, coordB, Bool.and_eq_true, decide_eq_true_eq] at h2
  exact inI_3 (by omega) (by omega) (by omega)
theorem mid_len (G : Int → P3 → List Int) (hG : ∀ i p, (G i p).length = 3) {l : List P3} {pre : List Int} (hp : (encD pre).length ≤ 60020) (h : ∀ i (hi : i < l.length), ∀ x ∈ G (lastAt l i) l[i], inI x) (hl : l.length ≤ 2000) (n : Nat) (hn : n ≤ l.length) : (encD (pre ++ nums G 0 (l.take n))).length + 30 ≤ 1048576 := by
  have h1 := encD_nums_len G hG (inI_nums G h n hn)
  rw [List.length_take] at h1
  rw [encD_append, List.length_append]
  omega
set_option maxRecDepth 100000 in
set_option maxHeartbeats 8000000 in
theorem written_any {A1 A2 : Option Addr} {n1 c1 n2 c2 : Nat} (p s : List P3) (w : World) (h1 : Row3 w A1 n1 c1 p) (h2 : Row3 w A2 n2 c2 s) (hw : wellB p s = true) (hb1 : n1 ≤ 2000) (hb2 : n2 ≤ 2000) :
    Calls Tryz.prog 48 #[.slice A1 n1 c1, .slice A2 n2 c2] w (WritEnd w (wrtD p s)) := by
  simp only [wellB, Bool.and_eq_true] at hw
  have hgp := ((ris_iff goodPB p).1 hw.1).1
  have hgs := ((ris_iff fairB s).1 hw.2).1
  have hip := fun i hi => ptG_in hgp i hi
  have his := fun i hi => spG_in hgs i hi
  have hpl := h1.2.1
  have hsl := h2.2.1
  have Hip := hide hip
  have His := hide his
  have hone : ∀ m : Nat, m ≤ 2000 → (encD [(m : Int)]).length ≤ 10 := fun m hm => by
    have := encD_len [(m : Int)] (fun x hx => by simp at hx; subst hx; exact ⟨by omega, by omega⟩)
    simpa using this
  have h10 := hone n1 hb1
  have h20 := hone n2 hb2
  have Hmp : Hid (∀ n, n ≤ n1 → (encD ([(n1 : Int)] ++ nums ptG 0 (p.take n))).length + 30 ≤ 1048576) := hide fun n hn => mid_len ptG (fun _ _ => rfl) (by omega) hip (by omega) n (by omega)
  have hall := encD_nums_len ptG (fun _ _ => rfl) (inI_nums ptG hip p.length (Nat.le_refl _))
  rw [List.take_length] at hall
  have h4 : (encD ([(n1 : Int)] ++ nums ptG 0 p)).length ≤ 60010 := by rw [encD_append, List.length_append]; omega
  have h5 : (encD (([(n1 : Int)] ++ nums ptG 0 p) ++ [(n2 : Int)])).length ≤ 60020 := by rw [encD_append, List.length_append]; omega
  have Hms : Hid (∀ n, n ≤ n2 → (encD ((([(n1 : Int)] ++ nums ptG 0 p) ++ [(n2 : Int)]) ++ nums spG 0 (s.take n))).length + 30 ≤ 1048576) := hide fun n hn => mid_len spG (fun _ _ => rfl) h5 his (by omega) n (by omega)
  have H4 := hide h4
  have Hn1 := hide hpl
  have Hn2 := hide hsl
  have HR1 := hide h1
  have HR2 := hide h2
  have HI := hide (fun w' => Int_nil (n1 : Int) w' (show inI (n1 : Int) from ⟨by omega, by omega⟩))
  have HV : Hid (encD ((([(n1 : Int)] ++ nums ptG 0 p) ++ [(n2 : Int)]) ++ nums spG 0 s) = wrtD p s) := hide (by rw [wrtD, hpl, hsl]; simp)
  clear hw hgp hgs hip his hpl hsl hone h10 h20 hall h4 h5 h1 h2
  go_enter Tryz.func48, Tryz.ntmps48
  go_wp2_with (first
    | (go_at_call 84; (with_reducible refine (HI.out _).mono ?_); rintro e w1 ⟨A, c, rfl, hr, hs, ho⟩; have Hs := hide hs; have Ho := hide ho; clear hr hs ho)
    | fail)
  have HW0 : Hid (Wst w (w1.alloc (.cells #[.slice A (encI (n1 : Int)).length c] 58)) w1.heap.size (encD ([(n1 : Int)] ++ nums ptG 0 (p.take 0)))) := hide ⟨⟨A, _, c, Blk.new _ _ _, by
      have := own_chg Ho.out ((Chg.refl (fun _ => False) w1).alloc (.cells #[.slice A (encI (n1 : Int)).length c] 58)) fun _ _ f => f
      simpa [nums, encD] using this, by simp [nums, encD], fun e => by have := (Ho.out.lt w1.heap.size (by rw [ownBlock_slice]; exact e)).2; omega⟩, Hs.out.size, Hs.out.alloc _⟩
  clear HI
  obtain ⟨g, hg⟩ : ∃ g, w1.heap.size = g := ⟨_, rfl⟩
  rw [hg] at HW0 ⊢
  clear hg
  generalize w1.alloc (.cells #[.slice A (encI (n1 : Int)).length c] 58) = w2 at *
  clear Ho Hs
  go_loopg [7, 18] n1 (fun kk vl vi wr => ∃ i : Nat, i ≤ n1 ∧ kk = n1 - i ∧ vl = .int .i64 (lastAt p i) ∧ vi = .int .i64 i ∧ Wst w wr g (encD ([(n1 : Int)] ++ nums ptG 0 (p.take i))))
  case atStart => exact ⟨0, Nat.zero_le _, rfl, rfl, rfl, HW0.out⟩
  case round =>
    obtain ⟨i, hi, hkk, rfl, rfl, hst⟩ := hrel
    have Hk := hide hkk
    have Hst := hide hst
    clear hkk hst
    by_cases hlt : i < n1
    · have hil : i < p.length := by rw [Hn1.out]; exact hlt
      obtain ⟨b, off, rfl, hbl, hc0, hc1, hc2⟩ := (HR1.out.same Hst.out.same).at_ hil
      have hin := Hip.out i hil
      have hnx := nums_take ptG hil
      have hls := lastAt_succ hil
      have Hml := hide (Hmp.out i (by omega))
      obtain ⟨la, hla⟩ : ∃ v, lastAt p i = v := ⟨_, rfl⟩
      obtain ⟨⟨y1, y2, y3⟩, hy⟩ : ∃ y, p[i] = y := ⟨_, rfl⟩
      rw [hla, hy] at hin hnx
      rw [hy] at hc0 hc1 hc2 hls
      simp only at hc0 hc1 hc2 hls
      rw [hla]
      have Hnx := hide hnx
      have Hls := hide hls
      have hd1 := hin (y1 - la) (by simp [ptG])
      have hd3 := hin (y3) (by simp [ptG])
      have hs1 : IntKind.i64.wrap (y1 - la) = y1 - la := IntWalk.i64_in _ hd1
      skip
      have hwi : IntKind.i64.wrap ((i : Int) + 1) = (i : Int) + 1 := IntWalk.i64_in _ (by omega)
      have hgl : g < wr.heap.size := by obtain ⟨A9, n9, c9, hb9, _⟩ := Hst.out.st; exact hb9.lt
      have hs2 : Same wr ((wr.alloc (.cells #[.int .i64 y1, .int .i64 y2, .int .i64 y3] 23)).alloc (.cells #[.int .i64 (y1 - la), .int .i64 y2, .int .i64 (y3)] 3)) := ((Chg.refl _ _).alloc _).alloc _
      have hz2 : ((wr.alloc (.cells #[.int .i64 y1, .int .i64 y2, .int .i64 y3] 23)).alloc (.cells #[.int .i64 (y1 - la), .int .i64 y2, .int .i64 (y3)] 3)).heap.size = wr.heap.size + 2 := by simp
      have hcp : Blk ((wr.alloc (.cells #[.int .i64 y1, .int .i64 y2, .int .i64 y3] 23)).alloc (.cells #[.int .i64 (y1 - la), .int .i64 y2, .int .i64 (y3)] 3)) wr.heap.size 23 #[.int .i64 y1, .int .i64 y2, .int .i64 y3] := (Blk.new _ _ _).alloc _
      have hlit : Blk ((wr.alloc (.cells #[.int .i64 y1, .int .i64 y2, .int .i64 y3] 23)).alloc (.cells #[.int .i64 (y1 - la), .int .i64 y2, .int .i64 (y3)] 3)) (wr.heap.size + 1) 3 #[.int .i64 (y1 - la), .int .i64 y2, .int .i64 (y3)] := by
        have := Blk.new (wr.alloc (.cells #[.int .i64 y1, .int .i64 y2, .int .i64 y3] 23)) 3 #[.int .i64 (y1 - la), .int .i64 y2, .int .i64 (y3)]
        simpa using this
      have HP := hide (putn_any (A1 := some ⟨wr.heap.size + 1, 0, none⟩) (k := 3) (c1 := 3) [y1 - la, y2, y3] _ (fun _ => ⟨_, 0, rfl, fun q v hv => by rw [hlit.cell]; simpa [is] using hv⟩) rfl (by decide) (fun b hb => by obtain rfl : wr.heap.size + 1 = b := Option.some.inj hb; exact ⟨by omega, by omega, hlit.ty⟩) hin (Hst.out.same9 hs2) Hml.out)
      have Hcp := hide hcp
      have Hcn : Hid (¬ (wr.heap.size = g ∨ w.heap.size ≤ wr.heap.size ∧ ty ((wr.alloc (.cells #[.int .i64 y1, .int .i64 y2, .int .i64 y3] 23)).alloc (.cells #[.int .i64 (y1 - la), .int .i64 y2, .int .i64 (y3)] 3)) wr.heap.size = some 5)) := hide (by
        rintro (h | ⟨_, h⟩)
        · omega
        · rw [hcp.ty] at h; exact absurd h (by decide))
      clear hs2 hz2 hcp hlit hla hy hin hd1 hd3 hnx hls
      go_wp2_with (first
        | (go_at_call 85; have hF := HP.out; (with_reducible refine hF.mono ?_); rintro e w9 ⟨rfl, hw9, hc9⟩; have Hw9 := hide hw9; have hkb := (Hcp.out.chg hc9 Hcn.out).cell; clear hw9 hc9 hF)
        | fail)
      go_roundg (n1 - (i + 1))
      case measure => have := Hk.out; omega
      case rel =>
        have hw9 := Hw9.out
        rw [← encD_append, List.append_assoc] at hw9
        have hnx := Hnx.out
        exact ⟨i + 1, by omega, rfl, by rw [Hls.out], by first | rfl | go_num, by rw [hnx]; exact hw9⟩
    · have hin : i = n1 := by omega
      subst hin
      have etk : p.take i = p := List.take_of_length_le (Nat.le_of_eq Hn1.out)
      have hst := Hst.out
      rw [etk] at hst
      have Hst2 := hide hst
      clear hst Hst etk
      have hgl : g < wr.heap.size := by obtain ⟨A9, n9, c9, hb9, _⟩ := Hst2.out.st; exact hb9.lt
      have hlit := Blk.new wr 3 #[.int .i64 (n2 : Int)]
      have HP := hide (putn_any (A1 := some ⟨wr.heap.size, 0, none⟩) (k := 1) (c1 := 1) [(n2 : Int)] _ (fun _ => ⟨_, 0, rfl, fun q v hv => by rw [hlit.cell]; simpa [is] using hv⟩) rfl (by decide) (fun b hb => by obtain rfl : wr.heap.size = b := Option.some.inj hb; exact ⟨by omega, by simp, hlit.ty⟩) (fun x hx => by simp at hx; subst hx; exact ⟨by omega, by omega⟩) (Hst2.out.same9 ((Chg.refl _ _).alloc _)) (by have := H4.out; omega))
      clear hlit
      go_wp2_with (first
        | (go_at_call 85; have hF := HP.out; (with_reducible refine hF.mono ?_); rintro e w9 ⟨rfl, hw9, hc9⟩; have Hw9 := hide hw9; clear hw9 hc9 hF)
        | fail)
      clear HP Hst2
      have HW3 : Hid (Wst w w9 g (encD (([(i : Int)] ++ nums ptG 0 p ++ [(n2 : Int)]) ++ nums spG 0 (s.take 0)))) := hide (by
        have := Hw9.out
        rw [← encD_append] at this
        simpa [nums] using this)
      clear Hw9
      go_loopg [7, 43] n2 (fun kk vl vi wr => ∃ k : Nat, k ≤ n2 ∧ kk = n2 - k ∧ vl = .int .i64 (lastAt s k) ∧ vi = .int .i64 k ∧ Wst w wr g (encD (([(i : Int)] ++ nums ptG 0 p ++ [(n2 : Int)]) ++ nums spG 0 (s.take k))))
      case atStart => exact ⟨0, Nat.zero_le _, rfl, rfl, rfl, HW3.out⟩
      case round =>
        obtain ⟨k, hi, hkk, rfl, rfl, hst⟩ := hrel
        have Hk := hide hkk
        have Hst := hide hst
        clear hkk hst
        by_cases hlt : k < n2
        · have hil : k < s.length := by rw [Hn2.out]; exact hlt
          obtain ⟨b, off, rfl, hbl, hc0, hc1, hc2⟩ := (HR2.out.same Hst.out.same).at_ hil
          have hin := His.out k hil
          have hnx := nums_take spG hil
          have hls := lastAt_succ hil
          have Hml := hide (Hms.out k (by omega))
          obtain ⟨la, hla⟩ : ∃ v, lastAt s k = v := ⟨_, rfl⟩
          obtain ⟨⟨y1, y2, y3⟩, hy⟩ : ∃ y, s[k] = y := ⟨_, rfl⟩
          rw [hla, hy] at hin hnx
          rw [hy] at hc0 hc1 hc2 hls
          simp only at hc0 hc1 hc2 hls
          rw [hla]
          have Hnx := hide hnx
          have Hls := hide hls
          have hd1 := hin (y1 - la) (by simp [spG])
          have hd3 := hin (y3 - y2) (by simp [spG])
          have hs1 : IntKind.i64.wrap (y1 - la) = y1 - la := IntWalk.i64_in _ hd1
          have hs3 : IntKind.i64.wrap (y3 - y2) = y3 - y2 := IntWalk.i64_in _ hd3
          have hwi : IntKind.i64.wrap ((k : Int) + 1) = (k : Int) + 1 := IntWalk.i64_in _ (by omega)
          have hgl : g < wr.heap.size := by obtain ⟨A9, n9, c9, hb9, _⟩ := Hst.out.st; exact hb9.lt
          have hs2 : Same wr ((wr.alloc (.cells #[.int .i64 y1, .int .i64 y2, .int .i64 y3] 25)).alloc (.cells #[.int .i64 (y1 - la), .int .i64 y2, .int .i64 (y3 - y2)] 3)) := ((Chg.refl _ _).alloc _).alloc _
          have hz2 : ((wr.alloc (.cells #[.int .i64 y1, .int .i64 y2, .int .i64 y3] 25)).alloc (.cells #[.int .i64 (y1 - la), .int .i64 y2, .int .i64 (y3 - y2)] 3)).heap.size = wr.heap.size + 2 := by simp
          have hcp : Blk ((wr.alloc (.cells #[.int .i64 y1, .int .i64 y2, .int .i64 y3] 25)).alloc (.cells #[.int .i64 (y1 - la), .int .i64 y2, .int .i64 (y3 - y2)] 3)) wr.heap.size 25 #[.int .i64 y1, .int .i64 y2, .int .i64 y3] := (Blk.new _ _ _).alloc _
          have hlit : Blk ((wr.alloc (.cells #[.int .i64 y1, .int .i64 y2, .int .i64 y3] 25)).alloc (.cells #[.int .i64 (y1 - la), .int .i64 y2, .int .i64 (y3 - y2)] 3)) (wr.heap.size + 1) 3 #[.int .i64 (y1 - la), .int .i64 y2, .int .i64 (y3 - y2)] := by
            have := Blk.new (wr.alloc (.cells #[.int .i64 y1, .int .i64 y2, .int .i64 y3] 25)) 3 #[.int .i64 (y1 - la), .int .i64 y2, .int .i64 (y3 - y2)]
            simpa using this
          have HP := hide (putn_any (A1 := some ⟨wr.heap.size + 1, 0, none⟩) (k := 3) (c1 := 3) [y1 - la, y2, y3 - y2] _ (fun _ => ⟨_, 0, rfl, fun q v hv => by rw [hlit.cell]; simpa [is] using hv⟩) rfl (by decide) (fun b hb => by obtain rfl : wr.heap.size + 1 = b := Option.some.inj hb; exact ⟨by omega, by omega, hlit.ty⟩) hin (Hst.out.same9 hs2) Hml.out)
          have Hcp := hide hcp
          have Hcn : Hid (¬ (wr.heap.size = g ∨ w.heap.size ≤ wr.heap.size ∧ ty ((wr.alloc (.cells #[.int .i64 y1, .int .i64 y2, .int .i64 y3] 25)).alloc (.cells #[.int .i64 (y1 - la), .int .i64 y2, .int .i64 (y3 - y2)] 3)) wr.heap.size = some 5)) := hide (by
            rintro (h | ⟨_, h⟩)
            · omega
            · rw [hcp.ty] at h; exact absurd h (by decide))
          clear hs2 hz2 hcp hlit hla hy hin hd1 hd3 hnx hls
          go_wp2_with (first
            | (go_at_call 85; have hF := HP.out; (with_reducible refine hF.mono ?_); rintro e w9 ⟨rfl, hw9, hc9⟩; have Hw9 := hide hw9; have hkb := (Hcp.out.chg hc9 Hcn.out).cell; clear hw9 hc9 hF)
            | fail)
          go_roundg (n2 - (k + 1))
          case measure => have := Hk.out; omega
          case rel =>
            have hw9 := Hw9.out
            rw [← encD_append, List.append_assoc] at hw9
            have hnx := Hnx.out
            exact ⟨k + 1, by omega, rfl, by rw [Hls.out], by first | rfl | go_num, by rw [hnx]; exact hw9⟩
        · have hin : k = n2 := by omega
          subst hin
          have etk : s.take k = s := List.take_of_length_le (Nat.le_of_eq Hn2.out)
          have hst := Hst.out
          rw [etk] at hst
          have Hst2 := hide hst
          clear hst Hst etk
          have hst := Hst2.out
          rw [HV.out] at hst
          obtain ⟨A9, n9, c9, hb9, ho9, hl9, _⟩ := hst.st
          have hsm9 := Hst2.out.same
          have hkb := hb9.cell
          have HE : Hid (WritEnd w (wrtD p s) (.returned (.slice A9 n9 c9)) wr) := hide (by subst hl9; exact ⟨A9, c9, rfl, ho9, hsm9⟩)
          clear hb9 ho9 hl9 hsm9 hst
          go_wp2_with fail
          go_ret
          exact HE.out
end Go.Proofs.YtopkdiiigidfdaaGreat
