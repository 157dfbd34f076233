/-
  The document's own words: the reply to a query. No conditions but on lists' lengths.
  The document's own words: a list of numbers, rising (Rising); what a query asks for, of points and of intervals (Plain). Conditions: at most 1048576 numbers, points and intervals.
  The document's own Plain: what a query asks for, of points and of intervals. Conditions: at most 1048576 of each, each list rising by its ids.
-/
import Derived.Test.YtlimpepdelpogaaGreatDoorRfA
import Derived.Test.YtlimpepdelpogaaGreatDoorHsA
import Derived.Test.YtlimpepdelpogaaGreatDoorTcE
import Derived.Test.YtlimpepdelpogaaGreatDoorQyE
import Derived.Test.YtlimpepdelpogaaGreatDoorMy
/-! RfB -/
namespace Go.Proofs.YtlimpepdelpogaaGreatDoor
open Go.RowKit Go.Al
set_option linter.unusedVariables false
set_option maxHeartbeats 8000000
set_option maxRecDepth 100000
def toldL (q : Qy) (N : Int) (A : Option Addr) (n c : Nat) (E : Int) : List Value :=
  if E = 0 then (if countsB q then [.int .i64 0, .bool true, .bool false, .int .i64 N, .slice none 0 0] else [.int .i64 0, .bool true, .bool true, .int .i64 N, .slice A n c]) else [.int .i64 E, .bool false, .bool false, .int .i64 0, .slice none 0 0]
theorem infoQ : (Tryz.prog.info? 35).map (·.size) = some 10 := by kernel_rfl
theorem toldRf_any {A : Option Addr} {n c : Nat} (q : Qy) (N E : Int) (w : World) :
    Calls Tryz.prog 36 #[qV q, .agg #[.int .i64 N, .slice A n c], .int .i64 E] w fun e w' => e = .returned (.agg (toldL q N A n c E).toArray) ∧ Same w w' := by
  have HC := hide (countsRf_any q)
  have hq := ((Blk.new w 35 (qL q).toArray).alloc (.cells #[.int .i64 N, .slice A n c] 41)).alloc (.cells #[.int .i64 0, .bool false, .bool false, .int .i64 0, .slice none 0 0] 43)
  have ha := (Blk.new (w.alloc (.cells (qL q).toArray 35)) 41 #[.int .i64 N, .slice A n c]).alloc (.cells #[.int .i64 0, .bool false, .bool false, .int .i64 0, .slice none 0 0] 43)
  have hb := Blk.new ((w.alloc (.cells (qL q).toArray 35)).alloc (.cells #[.int .i64 N, .slice A n c] 41)) 43 #[.int .i64 0, .bool false, .bool false, .int .i64 0, .slice none 0 0]
  have hs := (((Chg.refl (fun _ => False) w).alloc (.cells (qL q).toArray 35)).alloc (.cells #[.int .i64 N, .slice A n c] 41)).alloc (.cells #[.int .i64 0, .bool false, .bool false, .int .i64 0, .slice none 0 0] 43)
  simp only [World.size_alloc] at ha hb
  have hra : (((w.alloc (.cells (qL q).toArray 35)).alloc (.cells #[.int .i64 N, .slice A n c] 41)).alloc (.cells #[.int .i64 0, .bool false, .bool false, .int .i64 0, .slice none 0 0] 43)).rangeAt w.heap.size 0 (qL q) := fun j v hv => by rw [Nat.zero_add, hq.cell]; simpa using hv
  have Hra := hide hra
  have Ha := hide ha
  have Hb := hide hb
  have Hs := hide hs
  clear hra ha hb hs hq
  have Hlr := hide (qL_length q)
  obtain ⟨cb, hcb⟩ : ∃ cb, countsB q = cb := ⟨_, rfl⟩
  unfold toldL
  rw [hcb] at HC ⊢
  unfold qV at HC ⊢
  clear hcb
  generalize qL q = L at *
  by_cases hE : E = 0
  · subst hE
    rw [if_pos rfl]
    cases cb
    · rw [if_neg (by decide)]
      go_enter Tryz.func36, Tryz.ntmps36
      go_wp2_with (first
        | (refine wpList_ld (by rfl) 35 _ rfl w.heap.size 0 rfl L _ Hra.out Tryz.underlying35 rfl (by rw [Hlr.out]; exact infoQ) ?_)
        | (go_at_call 64; have hF := HC.out; refine (hF _).mono ?_; rintro e w2 ⟨rfl, hs⟩; have hk2 := (Hb.out.same hs).cell; have hf2 := (Hb.out.same hs).frozen; have Hb2 := hide (Hb.out.same hs); have hz2 := (Ha.out.same hs).cell; have Hs2 := hide (Same.trans Hs.out hs); clear hs hF))
      have hb9 := Blk.put5 (Hb2.out) (.int .i64 0) (.bool true) (.bool true) (.int .i64 N) (.slice A n c)
      exact bodyPost_ret (results_cell_row rfl _ _ _ _ _ _ _ rfl hb9 Tryz.underlying43 rfl (by kernel_rfl)) rfl ⟨rfl, Chg.fresh (Chg.put5 (S := fun k => w.heap.size ≤ k) (Same.to Hs2.out) (.inl (by show w.heap.size ≤ w.heap.size + 1 + 1; omega)) (.int .i64 0) (.bool true) (.bool true) (.int .i64 N) (.slice A n c)) fun _ h => h⟩
    · rw [if_pos rfl]
      go_enter Tryz.func36, Tryz.ntmps36
      go_wp2_with (first
        | (refine wpList_ld (by rfl) 35 _ rfl w.heap.size 0 rfl L _ Hra.out Tryz.underlying35 rfl (by rw [Hlr.out]; exact infoQ) ?_)
        | (go_at_call 64; have hF := HC.out; refine (hF _).mono ?_; rintro e w2 ⟨rfl, hs⟩; have hk2 := (Hb.out.same hs).cell; have hf2 := (Hb.out.same hs).frozen; have Hb2 := hide (Hb.out.same hs); have hz2 := (Ha.out.same hs).cell; have Hs2 := hide (Same.trans Hs.out hs); clear hs hF))
      have hb9 := Blk.put5 (Hb2.out) (.int .i64 0) (.bool true) (.bool false) (.int .i64 N) (.slice none 0 0)
      exact bodyPost_ret (results_cell_row rfl _ _ _ _ _ _ _ rfl hb9 Tryz.underlying43 rfl (by kernel_rfl)) rfl ⟨rfl, Chg.fresh (Chg.put5 (S := fun k => w.heap.size ≤ k) (Same.to Hs2.out) (.inl (by show w.heap.size ≤ w.heap.size + 1 + 1; omega)) (.int .i64 0) (.bool true) (.bool false) (.int .i64 N) (.slice none 0 0)) fun _ h => h⟩
  · rw [if_neg hE]
    have hEb : (E != 0) = true := by simp [hE]
    go_enter Tryz.func36, Tryz.ntmps36
    go_wp2_with (first
      | (refine wpList_ld (by rfl) 35 _ rfl w.heap.size 0 rfl L _ Hra.out Tryz.underlying35 rfl (by rw [Hlr.out]; exact infoQ) ?_)
      | (go_at_call 64; have hF := HC.out; refine (hF _).mono ?_; rintro e w2 ⟨rfl, hs⟩; have hk2 := (Hb.out.same hs).cell; have hf2 := (Hb.out.same hs).frozen; have Hb2 := hide (Hb.out.same hs); have hz2 := (Ha.out.same hs).cell; have Hs2 := hide (Same.trans Hs.out hs); clear hs hF))
    exact bodyPost_ret (results_cell_row rfl _ _ _ _ _ _ _ (by simp) (Blk.new ((w.alloc (.cells L.toArray 35)).alloc (.cells #[.int .i64 N, .slice A n c] 41)) 43 #[.int .i64 E, .bool false, .bool false, .int .i64 0, .slice none 0 0]) Tryz.underlying43 rfl (by kernel_rfl)) rfl ⟨rfl, (((Chg.refl (fun _ => False) w).alloc (.cells L.toArray 35)).alloc (.cells #[.int .i64 N, .slice A n c] 41)).alloc (.cells #[.int .i64 E, .bool false, .bool false, .int .i64 0, .slice none 0 0] 43)⟩
end Go.Proofs.YtlimpepdelpogaaGreatDoor
/-! RfC -/
namespace Go.Proofs.YtlimpepdelpogaaGreatDoor
open Go.RowKit Go.Al
set_option linter.unusedVariables false
set_option maxHeartbeats 16000000
set_option maxRecDepth 100000
/-! plain: insertion -/
def lowI (x : Int) : List Int → Nat
  | [] => 0
  | y :: r => if y ≤ x then lowI x r + 1 else 0
def insI (o : List Int) (x : Int) : List Int := o.take (lowI x o) ++ x :: o.drop (lowI x o)
def risI (l : List Int) : List Int := l.foldl insI []
theorem lowI_le (x : Int) : ∀ o : List Int, lowI x o ≤ o.length
  | [] => Nat.le_refl _
  | y :: r => by
    unfold lowI
    have := lowI_le x r
    split <;> simp <;> omega
theorem insI_len (o : List Int) (x : Int) : (insI o x).length = o.length + 1 := by
  have := lowI_le x o
  simp [insI]
  omega
theorem foldI_len (l : List Int) : ∀ o : List Int, (l.foldl insI o).length = o.length + l.length := by
  induction l with
  | nil => intro o; rfl
  | cons x r ih => intro o; rw [List.foldl_cons, ih, insI_len, List.length_cons]; omega
theorem risI_len (l : List Int) : (risI l).length = l.length := by
  have := foldI_len l []
  simpa [risI] using this
theorem risI_snoc (l : List Int) (x : Int) : risI (l ++ [x]) = insI (risI l) x := by simp [risI, List.foldl_append]
theorem risI_take {l : List Int} {i : Nat} (h : i < l.length) : risI (l.take (i + 1)) = insI (risI (l.take i)) l[i] := by
  rw [List.take_succ_eq_append_getElem h, risI_snoc]
theorem lowI_eq {x : Int} : ∀ {o : List Int} {j : Nat}, j ≤ o.length → (∀ k y, k < j → o[k]? = some y → y ≤ x) → (∀ y, o[j]? = some y → x < y) → lowI x o = j
  | [], j, hj, _, _ => by simp at hj; subst hj; rfl
  | y :: r, 0, _, _, h2 => by
    have := h2 y rfl
    unfold lowI
    rw [if_neg (by omega)]
  | y :: r, j + 1, hj, h1, h2 => by
    have h0 := h1 0 y (by omega) rfl
    unfold lowI
    rw [if_pos h0, lowI_eq (o := r) (j := j) (by simpa using hj) (fun k z hk hz => h1 (k + 1) z (by omega) (by simpa using hz)) (fun z hz => h2 z (by simpa using hz))]
theorem foldI_sorted (l : List Int) : ∀ o : List Int, (∀ x ∈ l, ∀ y ∈ o, y ≤ x) → l.Pairwise (· ≤ ·) → l.foldl insI o = o ++ l := by
  induction l with
  | nil => intro o _ _; simp
  | cons x r ih =>
    intro o h1 h2
    have e : lowI x o = o.length := lowI_eq (Nat.le_refl _) (fun k y _ hy => h1 x (by simp) y (List.mem_of_getElem? hy)) (fun y hy => by simp at hy)
    rw [List.foldl_cons, show insI o x = o ++ [x] by unfold insI; rw [e]; simp, ih]
    · simp
    · intro z hz y hy
      rcases List.mem_append.1 hy with h | h
      · exact h1 z (by simp [hz]) y h
      · simp at h; subst h; exact (List.pairwise_cons.1 h2).1 z hz
    · exact (List.pairwise_cons.1 h2).2
theorem risI_sorted {l : List Int} (h : l.Pairwise (· ≤ ·)) : risI l = l := by
  have := foldI_sorted l [] (fun x _ y hy => by cases hy) h
  simpa [risI] using this
theorem ris_step {wo W w7 w : World} {A7 : Option Addr} {c7 i j n m m' : Nat} {x : Int} {out xs : List Int} (hm : m = i + 1) (hm' : m' = i + 1) (hj : j ≤ i) (hlt : i < n) (hsm : Same w wo) (hsr : Same wo W) (hsw : Same W w7) (hlo : out.length = i)
    (hnx : risI (xs.take (i + 1)) = insI out x) (hins : insI out x = out.take j ++ x :: out.drop j) (hown : w7.ownsRow W.heap.size 3 1 (.slice A7 m c7) m (is (out.take j) ++ [.int .i64 x] ++ is (out.drop j))) (vi : Value) (hvi : vi = .int .i64 ((i + 1 : Nat) : Int)) :
    ∃ (i' : Nat) (A0 : Option Addr) (c0 : Nat), i' ≤ n ∧ n - (i + 1) = n - i' ∧ vi = .int .i64 i' ∧ Value.slice A7 m' c7 = .slice A0 i' c0 ∧ Rd w7 A0 (is (risI (xs.take i'))) ∧ i' ≤ c0 ∧ c0 ≤ maxLen ∧ Same w w7 ∧ ∀ b, blkOf A0 = some b → w.heap.size ≤ b := by
  subst hm hm' hvi
  obtain ⟨A', c', hv, h1, h2, _, h4, h5, h6⟩ := own_form hown
  cases hv
  refine ⟨i + 1, A7, c7, hlt, rfl, rfl, rfl, ?_, h1, h5, Same.trans (Same.trans hsm hsr) hsw, fun b hb => Nat.le_trans (Nat.le_trans hsm.size hsr.size) (h6 b hb)⟩
  rw [hnx, hins]
  have e : is (out.take j ++ x :: out.drop j) = is (out.take j) ++ [.int .i64 x] ++ is (out.drop j) := by simp [is]
  rw [e]
  exact h2
/-- a row of numbers, of the call's own or not: how a list that is handed back reads -/
def RisEnd (w : World) (l : List Int) (e : Ending) (w' : World) : Prop :=
  ∃ A c, e = .returned (.slice A l.length c) ∧ Rd w' A (is l) ∧ l.length ≤ c ∧ c ≤ maxLen ∧ Same w w' ∧ ∀ b, blkOf A = some b → w.heap.size ≤ b
section
attribute [local go_sem ↓] Go.wp_at_zero Go.wp_at_succ
theorem rising_any {A : Option Addr} {c : Nat} (xs : List Int) (w : World) (h : Rd w A (is xs)) (hl : xs.length ≤ 1048576) :
    Calls Tryz.prog 68 #[.slice A xs.length c] w (RisEnd w (risI xs)) := by
  have HX := hide h
  obtain ⟨n, hn⟩ : ∃ n, xs.length = n := ⟨_, rfl⟩
  rw [hn] at hl ⊢
  have Hn := hide hn
  clear h hn
  go_enter Tryz.func68, Tryz.ntmps68
  go_wp2_with fail
  go_loopg [3, 4, 5] n (fun kk out vi vj wr => ∃ (i : Nat) (A0 : Option Addr) (c0 : Nat), i ≤ n ∧ kk = n - i ∧ vi = .int .i64 i ∧ out = .slice A0 i c0 ∧ Rd wr A0 (is (risI (xs.take i))) ∧ i ≤ c0 ∧ c0 ≤ maxLen ∧ Same w wr ∧ ∀ b, blkOf A0 = some b → w.heap.size ≤ b)
  case atStart => exact ⟨0, _, _, Nat.zero_le _, rfl, rfl, rfl, Rd.nil _ _, Nat.zero_le _, Nat.zero_le _, (Chg.refl _ w).alloc _, fun b hb => by simp [blkOf] at hb; omega⟩
  case round =>
    obtain ⟨i, A0, c0, hi, hkk, rfl, rfl, hrd, hc, hcm, hsm, hfr⟩ := hrel
    have Hk := hide hkk
    have Hrd := hide hrd
    have Hsm := hide hsm
    have Hfr := hide hfr
    clear hkk hrd hsm hfr
    by_cases hlt : i < n
    · have hix : i < xs.length := by rw [Hn.out]; exact hlt
      obtain ⟨b, off, rfl, hcx⟩ := (HX.out.same Hsm.out).at_ (i := i) (by rw [is_length]; exact hix)
      simp only [is, List.getElem_map] at hcx
      have hnx := risI_take hix
      have hlo := risI_len (xs.take i)
      rw [List.length_take, Nat.min_eq_left (Nat.le_of_lt hix)] at hlo
      obtain ⟨x, hx⟩ : ∃ x, xs[i] = x := ⟨_, rfl⟩
      rw [hx] at hcx hnx
      obtain ⟨out, hout⟩ : ∃ o, risI (xs.take i) = o := ⟨_, rfl⟩
      rw [hout] at Hrd hnx hlo
      have Hnx := hide hnx
      have Hlo := hide hlo
      clear hx hout hnx hlo
      have hi2 : i < 1048576 := by omega
      have HCX := hide (fun w' (hs : Same wr w') => (hs.cell (p := ⟨b, off + i, none⟩) (World.block_lt_of_cell? _ _ hcx) (fun h => h)).trans hcx)
      clear hcx
      obtain ⟨wo, rfl⟩ : ∃ wo : World, wo = wr := ⟨_, rfl⟩
      go_wp2_with fail
      go_loopg [5] i (fun kk vj wr => ∃ j : Nat, j ≤ i ∧ kk = i - j ∧ vj = .int .i64 j ∧ (∀ k y, k < j → out[k]? = some y → y ≤ x) ∧ Same wo wr)
      case atStart => exact ⟨0, Nat.zero_le _, rfl, rfl, fun k y hk => by omega, Chg.refl _ _⟩
      case round =>
        obtain ⟨j, hj, hkj, rfl, hall, hs2⟩ := hrel
        have Hkj := hide hkj
        have Hall := hide hall
        have Hs2 := hide hs2
        clear hkj hall hs2
        have hcx := HCX.out _ Hs2.out
        have Hend : Hid ((∀ y, out[j]? = some y → x < y) → Rd wr A0 (is (out.take j)) ∧ Rd wr A0 (is out) ∧ insI out x = out.take j ++ x :: out.drop j) := hide fun h2 => by
          have e := lowI_eq (x := x) (o := out) (j := j) (by rw [Hlo.out]; exact hj) Hall.out h2
          have h1 := (Hrd.out.same Hs2.out).take j
          rw [is_take] at h1
          exact ⟨h1, Hrd.out.same Hs2.out, by unfold insI; rw [e]⟩
        by_cases hjl : j < i
        · obtain ⟨b2, off2, rfl, hcy⟩ := (Hrd.out.same Hs2.out).at_ (i := j) (by rw [is_length, Hlo.out]; exact hjl)
          have hjo : j < out.length := by rw [Hlo.out]; exact hjl
          have Hgy := hide (List.getElem?_eq_getElem hjo)
          simp only [is, List.getElem_map] at hcy
          obtain ⟨y, hy⟩ : ∃ y, out[j] = y := ⟨_, rfl⟩
          rw [hy] at hcy Hgy
          clear hy
          have hdd : decide (j < i) = true := by simpa using hjl
          have q1 : (j : Int) < (i : Int) := by omega
          have q2 : (i : Int) < (n : Int) := by omega
          have q3 : (0 : Int) ≤ (i : Int) := by omega
          have q4 : (0 : Int) ≤ (j : Int) := by omega
          by_cases hxy : y ≤ x
          · have hde : decide (y ≤ x) = true := by simpa using hxy
            have Hall2 : Hid (∀ k z, k < j + 1 → out[k]? = some z → z ≤ x) := hide fun k z hk hz => by
              rcases Nat.lt_or_ge k j with h | h
              · exact Hall.out k z h hz
              · obtain rfl : k = j := by omega
                have e := Hgy.out.symm.trans hz
                rw [← Option.some.inj e]
                exact hxy
            go_wp2_with fail
            go_quiet (fail)
            go_wp2_with fail
            go_roundg (i - (j + 1))
            case measure => have := Hkj.out; omega
            case rel => exact ⟨j + 1, by omega, rfl, by go_num, Hall2.out, Hs2.out.drewN _⟩
          · have hde : decide (y ≤ x) = false := by simpa using hxy
            have Hfin := hide (Hend.out (fun z hz => by have e := Hgy.out.symm.trans hz; rw [← Option.some.inj e]; omega))
            clear Hend
            go_wp2_with fail
            go_quiet (fail)
            go_wp2_with fail
            have HsR : Hid (Same wo (wr.drewN nq)) := hide (Hs2.out.drewN _)
            have HF2 := hide (And.intro (Hfin.out.1.drewN nq) (And.intro (Hfin.out.2.1.drewN nq) Hfin.out.2.2))
            clear Hfin
            have HcR := hide (HCX.out _ HsR.out)
            generalize wr.drewN nq = W at *
            have H1 := cut_hi slI (some ⟨b2, off2, none⟩) i c0 .i64 (j : Int) j rfl (by omega)
            obtain ⟨A2, H2, hrd2, hbk2⟩ := cut_lo slI HF2.out.2.1 (by rw [is_length, Hlo.out, Nat.mul_one]) hc .i64 (j : Int) j (by omega) (by omega)
            have Hrd1 := hide HF2.out.1
            have Hrd2 : Hid (Rd W A2 (is (out.drop j))) := hide (by rw [Nat.mul_one, is_drop] at hrd2; exact hrd2)
            clear hrd2 hbk2
            have b1 : (0 + j) * 8 ≤ 140737488355328 := by omega
            have b2' : 0 + j ≤ 140737488355328 := by omega
            have b3 : (is (out.take j)).length = j * 1 := by have := Hlo.out; simp; omega
            have b4 : (is (out.drop j)).length = (i - j) * 1 := by have := Hlo.out; simp; omega
            have b5 : (0 + j + 1 + (i - j)) * 8 ≤ 140737488355328 := by omega
            have b6 : 0 + j + 1 + (i - j) ≤ 140737488355328 := by omega
            have B := hide (And.intro b1 (And.intro b2' (And.intro b3 (And.intro b4 (And.intro b5 b6)))))
            clear b1 b2' b3 b4 b5 b6
            have hc0 : W.cell? ⟨b, off + i, none⟩ = some (.int .i64 x) := HcR.out
            have HKS := hide (fun w' (hs : Same W w') => HCX.out w' (Same.trans HsR.out hs))
            refine wp_region_heldZ (fun w' => w'.cell? ⟨b, off + i, none⟩ = some (.int .i64 x)) 15 (by kernel_rfl) ?_
            have hS0 : W.drew.cell? ⟨b, off + i, none⟩ = some (.int .i64 x) := hc0
            have Hd := hide ((Chg.refl (fun _ => False) W).drew)
            refine wpAnyZ_take (i := 1) (v := ?_) (List.getElem?_toArray.trans rfl) (by kernel_rfl) (by kernel_rfl) (by kernel_rfl) (by kernel_rfl) (fun _ _ _ h => h) (Or.inl ⟨by rfl, ?_⟩) hS0 ?_; rotate_left; · intro w hSw; (try dsimp only at hSw); go_simp; (try with_reducible rfl)
            try simp only [puts]
            refine wpAnyZ_take (i := 2) (v := ?_) (List.getElem?_toArray.trans rfl) (by kernel_rfl) (by kernel_rfl) (by kernel_rfl) (by kernel_rfl) (fun _ _ _ h => h) (Or.inl ⟨by rfl, ?_⟩) hS0 ?_; rotate_left; · intro w hSw; (try dsimp only at hSw); go_simp; (try with_reducible rfl)
            try simp only [puts]
            refine wpAnyZ_take (i := 3) (v := ?_) (List.getElem?_toArray.trans rfl) (by kernel_rfl) (by kernel_rfl) (by kernel_rfl) (by kernel_rfl) (fun _ _ _ h => h) (Or.inl ⟨by rfl, ?_⟩) hS0 ?_; rotate_left; · intro w hSw; (try dsimp only at hSw); go_simp; (try with_reducible rfl)
            try simp only [puts]
            refine wpAnyZ_take (i := 5) (v := ?_) (List.getElem?_toArray.trans rfl) (by kernel_rfl) (by kernel_rfl) (by kernel_rfl) (by kernel_rfl) (fun _ _ _ h => h) (Or.inl ⟨by rfl, ?_⟩) hS0 ?_; rotate_left; · intro w hSw; (try dsimp only at hSw); go_simp; (try with_reducible rfl)
            try simp only [puts]
            refine wpAnyZ_take (i := 6) (v := ?_) (List.getElem?_toArray.trans rfl) (by kernel_rfl) (by kernel_rfl) (by kernel_rfl) (by kernel_rfl) (fun _ _ _ h => h) (Or.inl ⟨by rfl, ?_⟩) hS0 ?_; rotate_left; · intro w hSw; (try dsimp only at hSw); go_simp; (try with_reducible rfl)
            try simp only [puts]
            refine wpAnyZ_take (i := 7) (v := ?_) (List.getElem?_toArray.trans rfl) (by kernel_rfl) (by kernel_rfl) (by kernel_rfl) (by kernel_rfl) (fun _ _ _ h => h) (Or.inl ⟨by rfl, ?_⟩) hS0 ?_; rotate_left; · intro w hSw; (try dsimp only at hSw); go_simp; (try with_reducible rfl)
            try simp only [puts]
            refine wpAnyZ_take (i := 8) (v := ?_) (List.getElem?_toArray.trans rfl) (by kernel_rfl) (by kernel_rfl) (by kernel_rfl) (by kernel_rfl) (fun _ _ _ h => h) (Or.inl ⟨by rfl, ?_⟩) hS0 ?_; rotate_left; · intro w hSw; (try dsimp only at hSw); go_simp; (try with_reducible rfl)
            try simp only [puts]
            refine wpAnyZ_take (i := 11) (v := ?_) (List.getElem?_toArray.trans rfl) (by kernel_rfl) (by kernel_rfl) (by kernel_rfl) (by kernel_rfl) (fun _ _ _ h => h) (Or.inl ⟨by rfl, ?_⟩) hS0 ?_; rotate_left; · intro w hSw; (try dsimp only at hSw); go_simp; (try with_reducible rfl)
            try simp only [puts]
            refine wpAnyZ_take (i := 12) (v := ?_) (List.getElem?_toArray.trans rfl) (by kernel_rfl) (by kernel_rfl) (by kernel_rfl) (by kernel_rfl) (fun _ _ _ h => h) (Or.inl ⟨by rfl, ?_⟩) hS0 ?_; rotate_left; · intro w hSw; (try dsimp only at hSw); go_simp; (try with_reducible rfl)
            try simp only [puts]
            refine wpAnyZ_take (i := 13) (v := ?_) (List.getElem?_toArray.trans rfl) (by kernel_rfl) (by kernel_rfl) (by kernel_rfl) (by kernel_rfl) (fun _ _ _ h => h) (Or.inl ⟨by rfl, ?_⟩) hS0 ?_; rotate_left; · intro w hSw; (try dsimp only at hSw); go_simp; (try with_reducible rfl)
            try simp only [puts]
            refine wpAnyZ_two (i := 0) (j := 9) (by kernel_rfl) (List.getElem?_toArray.trans rfl) (List.getElem?_toArray.trans rfl) (fun K' hK => ?_) (fun K' hK => ?_)
            · go_simp
              refine hK _ _ (fun _ => HKS.out _ (Hd.out.alloc _)) ?_
              try simp only [puts]
              clear hK
              refine wpAnyZ_two (i := 4) (j := 9) (by kernel_rfl) (List.getElem?_toArray.trans rfl) (List.getElem?_toArray.trans rfl) (fun K' hK => ?_) (fun K' hK => ?_)
              · refine step_appS (by rfl) (.tmp 30) (.tmp 33) _ (by rfl) slI (by rfl) (base := W.heap.size) (by exact own_lit W.drew W.heap.size _ 1 #[] 0 (Nat.le_refl _) (by decide) rfl) (by rfl) B.out.2.2.1 (by exact (Hrd1.out.drew).alloc _) (one_is _) B.out.1 B.out.2.1 (by first | (simp; done) | (simp; omega)) ?_
                intro A5 c5 w5 hown5 hchg5 hat5
                have hcz : Same W w5 := ((((Chg.refl _ W).drew).alloc (.cells #[] 3)).trans hchg5 (by intro k hk h; simp [blkOf] at h; omega))
                rw [Nat.zero_add] at hown5
                have Hown5 := hide hown5
                have Hcz := hide hcz
                clear hown5 hchg5 hat5 hcz
                refine hK _ _ (fun _ => HKS.out _ Hcz.out) ?_
                try simp only [puts]
                clear hK
                refine wpAnyZ_one (i := 9) (by kernel_rfl) (List.getElem?_toArray.trans rfl) (fun K' hK => ?_)
                go_simp
                refine hK _ _ (fun _ => HKS.out _ (Hcz.out.alloc _)) ?_
                try simp only [puts]
                clear hK
                refine wpAnyZ_one (i := 10) (by kernel_rfl) (List.getElem?_toArray.trans rfl) (fun K' hK => ?_)
                refine step_appS (by rfl) (.tmp 34) (.tmp 39) _ (by rfl) slI (by rfl) (base := W.heap.size) (by exact Hown5.out.alloc _) (by rfl) (by rfl) (by exact rd_new w5 _ _) (show ∀ u ∈ [Value.int .i64 x], u.oneCell' = true from one_is [x]) (by omega) (by omega) (by have := Hcz.out.size; simp; omega) ?_
                intro A6 c6 w6 hown6 hchg6 hat6
                have hcz : Same W w6 := Hcz.out.app1 Hown5.out (Nat.le_refl _) hchg6
                have Hown6 := hide hown6
                have Hcy := hide hcz
                clear hown6 hchg6 hat6 hcz
                refine hK _ _ (fun _ => HKS.out _ Hcy.out) ?_
                try simp only [puts]
                clear hK
                refine wpAnyZ_one (i := 14) (by kernel_rfl) (List.getElem?_toArray.trans rfl) (fun K' hK => ?_)
                refine step_appS (by rfl) (.tmp 40) (.tmp 43) _ (by rfl) slI (by rfl) (base := W.heap.size) (by exact Hown6.out) (by rfl) B.out.2.2.2.1 (by exact Hrd2.out.same Hcy.out) (one_is _) (by have := B.out.2.2.2.2.1; omega) (by have := B.out.2.2.2.2.2; omega) (by exact Hcy.out.size) ?_
                intro A7 c7 w7 hown7 hchg7 hat7
                have hcz : Same W w7 := Hcy.out.app Hown6.out (Nat.le_refl _) hchg7
                have Hown7 := hide hown7
                have Hcw := hide hcz
                clear hown7 hchg7 hat7 hcz
                refine hK _ _ (fun _ => HKS.out _ Hcw.out) ?_
                try simp only [puts]
                clear hK
                refine wpAnyZ_one (i := 15) (by kernel_rfl) (List.getElem?_toArray.trans rfl) (fun K' hK => ?_)
                go_simp
                refine hK _ _ (fun h => absurd rfl h) ?_
                try simp only [puts]
                clear hK hS0
                refine wpAnyZ_done (by kernel_rfl) (NoPanic.normal ?_) _
                go_wp2_with fail
                go_roundg (n - (i + 1))
                case measure => have := Hk.out; omega
                case rel => exact ris_step (by omega) (by omega) hj hlt Hsm.out HsR.out Hcw.out Hlo.out Hnx.out HF2.out.2.2 Hown7.out _ (by go_num)
              · go_simp
                refine hK _ _ (fun _ => HKS.out _ ((Hd.out.alloc _).alloc _)) ?_
                try simp only [puts]
                clear hK
                refine wpAnyZ_one (i := 4) (by kernel_rfl) (List.getElem?_toArray.trans rfl) (fun K' hK => ?_)
                refine step_appS (by rfl) (.tmp 30) (.tmp 33) _ (by rfl) slI (by rfl) (base := W.heap.size) (by exact (own_lit W.drew W.heap.size _ 1 #[] 0 (Nat.le_refl _) (by decide) rfl).alloc (.cells #[.int .i64 x] 3)) (by rfl) B.out.2.2.1 (by exact ((Hrd1.out.drew).alloc _).alloc _) (one_is _) B.out.1 B.out.2.1 (by first | (simp; done) | (simp; omega)) ?_
                intro A5 c5 w5 hown5 hchg5 hat5
                have hcz : Same W w5 := (((((Chg.refl _ W).drew).alloc (.cells #[] 3)).alloc (.cells #[.int .i64 x] 3)).trans hchg5 (by intro k hk h; simp [blkOf] at h; omega))
                have Hx5 : Hid (Rd w5 (some ⟨W.heap.size + 1, 0, none⟩) [.int .i64 x]) := hide ((show Rd ((W.drew.alloc (.cells #[] 3)).alloc (.cells #[.int .i64 x] 3)) (some ⟨W.heap.size + 1, 0, none⟩) [.int .i64 x] from by have := rd_new (W.drew.alloc (.cells #[] 3)) (.int .i64 x) 3; simpa using this).chg hchg5 (by intro b hb _ e; simp [blkOf] at hb e; omega))
                have Hown5 := hide hown5
                have Hcz := hide hcz
                clear hown5 hchg5 hat5 hcz
                refine hK _ _ (fun _ => HKS.out _ Hcz.out) ?_
                try simp only [puts]
                clear hK
                refine wpAnyZ_one (i := 10) (by kernel_rfl) (List.getElem?_toArray.trans rfl) (fun K' hK => ?_)
                refine step_appS (by rfl) (.tmp 34) (.tmp 39) _ (by rfl) slI (by rfl) (base := W.heap.size) (by exact Hown5.out) (by rfl) (by rfl) (by exact Hx5.out) (show ∀ u ∈ [Value.int .i64 x], u.oneCell' = true from one_is [x]) (by omega) (by omega) (by exact Hcz.out.size) ?_
                intro A6 c6 w6 hown6 hchg6 hat6
                have hcz : Same W w6 := Hcz.out.app Hown5.out (Nat.le_refl _) hchg6
                have Hown6 := hide hown6
                have Hcy := hide hcz
                clear hown6 hchg6 hat6 hcz
                refine hK _ _ (fun _ => HKS.out _ Hcy.out) ?_
                try simp only [puts]
                clear hK
                refine wpAnyZ_one (i := 14) (by kernel_rfl) (List.getElem?_toArray.trans rfl) (fun K' hK => ?_)
                refine step_appS (by rfl) (.tmp 40) (.tmp 43) _ (by rfl) slI (by rfl) (base := W.heap.size) (by exact Hown6.out) (by rfl) B.out.2.2.2.1 (by exact Hrd2.out.same Hcy.out) (one_is _) (by have := B.out.2.2.2.2.1; omega) (by have := B.out.2.2.2.2.2; omega) (by exact Hcy.out.size) ?_
                intro A7 c7 w7 hown7 hchg7 hat7
                have hcz : Same W w7 := Hcy.out.app Hown6.out (Nat.le_refl _) hchg7
                have Hown7 := hide hown7
                have Hcw := hide hcz
                clear hown7 hchg7 hat7 hcz
                refine hK _ _ (fun _ => HKS.out _ Hcw.out) ?_
                try simp only [puts]
                clear hK
                refine wpAnyZ_one (i := 15) (by kernel_rfl) (List.getElem?_toArray.trans rfl) (fun K' hK => ?_)
                go_simp
                refine hK _ _ (fun h => absurd rfl h) ?_
                try simp only [puts]
                clear hK hS0
                refine wpAnyZ_done (by kernel_rfl) (NoPanic.normal ?_) _
                go_wp2_with fail
                go_roundg (n - (i + 1))
                case measure => have := Hk.out; omega
                case rel => exact ris_step (by omega) (by omega) hj hlt Hsm.out HsR.out Hcw.out Hlo.out Hnx.out HF2.out.2.2 Hown7.out _ (by go_num)
            · go_simp
              refine hK _ _ (fun _ => HKS.out _ (Hd.out.alloc _)) ?_
              try simp only [puts]
              clear hK
              refine wpAnyZ_one (i := 0) (by kernel_rfl) (List.getElem?_toArray.trans rfl) (fun K' hK => ?_)
              go_simp
              refine hK _ _ (fun _ => HKS.out _ ((Hd.out.alloc _).alloc _)) ?_
              try simp only [puts]
              clear hK
              refine wpAnyZ_one (i := 4) (by kernel_rfl) (List.getElem?_toArray.trans rfl) (fun K' hK => ?_)
              refine step_appS (by rfl) (.tmp 30) (.tmp 33) _ (by rfl) slI (by rfl) (base := W.heap.size) (by exact (by have := (own_lit (W.alloc (.cells #[.int .i64 x] 3)) W.heap.size 3 1 #[] 0 (by simp) (by decide) rfl).drew; simpa using this)) (by rfl) B.out.2.2.1 (by exact ((Hrd1.out.drew).alloc _).alloc _) (one_is _) B.out.1 B.out.2.1 (by first | (simp; done) | (simp; omega)) ?_
              intro A5 c5 w5 hown5 hchg5 hat5
              have hcz : Same W w5 := (((((Chg.refl _ W).drew).alloc (.cells #[.int .i64 x] 3)).alloc (.cells #[] 3)).trans hchg5 (by intro k hk h; simp [blkOf] at h; omega))
              have Hx5 : Hid (Rd w5 (some ⟨W.heap.size, 0, none⟩) [.int .i64 x]) := hide (((rd_new W.drew (.int .i64 x) 3).alloc (.cells #[] 3)).chg hchg5 (by intro b hb _ e; simp [blkOf] at hb e; omega))
              have Hown5 := hide hown5
              have Hcz := hide hcz
              clear hown5 hchg5 hat5 hcz
              refine hK _ _ (fun _ => HKS.out _ Hcz.out) ?_
              try simp only [puts]
              clear hK
              refine wpAnyZ_one (i := 10) (by kernel_rfl) (List.getElem?_toArray.trans rfl) (fun K' hK => ?_)
              refine step_appS (by rfl) (.tmp 34) (.tmp 39) _ (by rfl) slI (by rfl) (base := W.heap.size) (by exact Hown5.out) (by rfl) (by rfl) (by exact Hx5.out) (show ∀ u ∈ [Value.int .i64 x], u.oneCell' = true from one_is [x]) (by omega) (by omega) (by exact Hcz.out.size) ?_
              intro A6 c6 w6 hown6 hchg6 hat6
              have hcz : Same W w6 := Hcz.out.app Hown5.out (Nat.le_refl _) hchg6
              have Hown6 := hide hown6
              have Hcy := hide hcz
              clear hown6 hchg6 hat6 hcz
              refine hK _ _ (fun _ => HKS.out _ Hcy.out) ?_
              try simp only [puts]
              clear hK
              refine wpAnyZ_one (i := 14) (by kernel_rfl) (List.getElem?_toArray.trans rfl) (fun K' hK => ?_)
              refine step_appS (by rfl) (.tmp 40) (.tmp 43) _ (by rfl) slI (by rfl) (base := W.heap.size) (by exact Hown6.out) (by rfl) B.out.2.2.2.1 (by exact Hrd2.out.same Hcy.out) (one_is _) (by have := B.out.2.2.2.2.1; omega) (by have := B.out.2.2.2.2.2; omega) (by exact Hcy.out.size) ?_
              intro A7 c7 w7 hown7 hchg7 hat7
              have hcz : Same W w7 := Hcy.out.app Hown6.out (Nat.le_refl _) hchg7
              have Hown7 := hide hown7
              have Hcw := hide hcz
              clear hown7 hchg7 hat7 hcz
              refine hK _ _ (fun _ => HKS.out _ Hcw.out) ?_
              try simp only [puts]
              clear hK
              refine wpAnyZ_one (i := 15) (by kernel_rfl) (List.getElem?_toArray.trans rfl) (fun K' hK => ?_)
              go_simp
              refine hK _ _ (fun h => absurd rfl h) ?_
              try simp only [puts]
              clear hK hS0
              refine wpAnyZ_done (by kernel_rfl) (NoPanic.normal ?_) _
              go_wp2_with fail
              go_roundg (n - (i + 1))
              case measure => have := Hk.out; omega
              case rel => exact ris_step (by omega) (by omega) hj hlt Hsm.out HsR.out Hcw.out Hlo.out Hnx.out HF2.out.2.2 Hown7.out _ (by go_num)
        · obtain rfl : i = j := by omega
          have hdd : decide (i < i) = false := by simp
          have Hfin := hide (Hend.out (fun z hz => by rw [List.getElem?_eq_none (by rw [Hlo.out]; exact Nat.le_refl _)] at hz; cases hz))
          clear Hend
          go_wp2_with fail
          go_quiet (fail)
          go_wp2_with fail
          have HsR : Hid (Same wo (wr.drewN nq)) := hide (Hs2.out.drewN _)
          have HF2 := hide (And.intro (Hfin.out.1.drewN nq) (And.intro (Hfin.out.2.1.drewN nq) Hfin.out.2.2))
          clear Hfin
          have HcR := hide (HCX.out _ HsR.out)
          generalize wr.drewN nq = W at *
          have H1 := cut_hi slI A0 i c0 .i64 (i : Int) i rfl (by omega)
          obtain ⟨A2, H2, hrd2, hbk2⟩ := cut_lo slI HF2.out.2.1 (by rw [is_length, Hlo.out, Nat.mul_one]) hc .i64 (i : Int) i (by omega) (by omega)
          have Hrd1 := hide HF2.out.1
          have Hrd2 : Hid (Rd W A2 (is (out.drop i))) := hide (by rw [Nat.mul_one, is_drop] at hrd2; exact hrd2)
          clear hrd2 hbk2
          have b1 : (0 + i) * 8 ≤ 140737488355328 := by omega
          have b2' : 0 + i ≤ 140737488355328 := by omega
          have b3 : (is (out.take i)).length = i * 1 := by have := Hlo.out; simp; omega
          have b4 : (is (out.drop i)).length = 0 * 1 := by have := Hlo.out; simp; omega
          have b5 : (0 + i + 1 + 0) * 8 ≤ 140737488355328 := by omega
          have b6 : 0 + i + 1 + 0 ≤ 140737488355328 := by omega
          have B := hide (And.intro b1 (And.intro b2' (And.intro b3 (And.intro b4 (And.intro b5 b6)))))
          clear b1 b2' b3 b4 b5 b6
          have hc0 : W.cell? ⟨b, off + i, none⟩ = some (.int .i64 x) := HcR.out
          have HKS := hide (fun w' (hs : Same W w') => HCX.out w' (Same.trans HsR.out hs))
          refine wp_region_heldZ (fun w' => w'.cell? ⟨b, off + i, none⟩ = some (.int .i64 x)) 15 (by kernel_rfl) ?_
          have hS0 : W.drew.cell? ⟨b, off + i, none⟩ = some (.int .i64 x) := hc0
          have Hd := hide ((Chg.refl (fun _ => False) W).drew)
          refine wpAnyZ_take (i := 1) (v := ?_) (List.getElem?_toArray.trans rfl) (by kernel_rfl) (by kernel_rfl) (by kernel_rfl) (by kernel_rfl) (fun _ _ _ h => h) (Or.inl ⟨by rfl, ?_⟩) hS0 ?_; rotate_left; · intro w hSw; (try dsimp only at hSw); go_simp; (try with_reducible rfl)
          try simp only [puts]
          refine wpAnyZ_take (i := 2) (v := ?_) (List.getElem?_toArray.trans rfl) (by kernel_rfl) (by kernel_rfl) (by kernel_rfl) (by kernel_rfl) (fun _ _ _ h => h) (Or.inl ⟨by rfl, ?_⟩) hS0 ?_; rotate_left; · intro w hSw; (try dsimp only at hSw); go_simp; (try with_reducible rfl)
          try simp only [puts]
          refine wpAnyZ_take (i := 3) (v := ?_) (List.getElem?_toArray.trans rfl) (by kernel_rfl) (by kernel_rfl) (by kernel_rfl) (by kernel_rfl) (fun _ _ _ h => h) (Or.inl ⟨by rfl, ?_⟩) hS0 ?_; rotate_left; · intro w hSw; (try dsimp only at hSw); go_simp; (try with_reducible rfl)
          try simp only [puts]
          refine wpAnyZ_take (i := 5) (v := ?_) (List.getElem?_toArray.trans rfl) (by kernel_rfl) (by kernel_rfl) (by kernel_rfl) (by kernel_rfl) (fun _ _ _ h => h) (Or.inl ⟨by rfl, ?_⟩) hS0 ?_; rotate_left; · intro w hSw; (try dsimp only at hSw); go_simp; (try with_reducible rfl)
          try simp only [puts]
          refine wpAnyZ_take (i := 6) (v := ?_) (List.getElem?_toArray.trans rfl) (by kernel_rfl) (by kernel_rfl) (by kernel_rfl) (by kernel_rfl) (fun _ _ _ h => h) (Or.inl ⟨by rfl, ?_⟩) hS0 ?_; rotate_left; · intro w hSw; (try dsimp only at hSw); go_simp; (try with_reducible rfl)
          try simp only [puts]
          refine wpAnyZ_take (i := 7) (v := ?_) (List.getElem?_toArray.trans rfl) (by kernel_rfl) (by kernel_rfl) (by kernel_rfl) (by kernel_rfl) (fun _ _ _ h => h) (Or.inl ⟨by rfl, ?_⟩) hS0 ?_; rotate_left; · intro w hSw; (try dsimp only at hSw); go_simp; (try with_reducible rfl)
          try simp only [puts]
          refine wpAnyZ_take (i := 8) (v := ?_) (List.getElem?_toArray.trans rfl) (by kernel_rfl) (by kernel_rfl) (by kernel_rfl) (by kernel_rfl) (fun _ _ _ h => h) (Or.inl ⟨by rfl, ?_⟩) hS0 ?_; rotate_left; · intro w hSw; (try dsimp only at hSw); go_simp; (try with_reducible rfl)
          try simp only [puts]
          refine wpAnyZ_take (i := 11) (v := ?_) (List.getElem?_toArray.trans rfl) (by kernel_rfl) (by kernel_rfl) (by kernel_rfl) (by kernel_rfl) (fun _ _ _ h => h) (Or.inl ⟨by rfl, ?_⟩) hS0 ?_; rotate_left; · intro w hSw; (try dsimp only at hSw); go_simp; (try with_reducible rfl)
          try simp only [puts]
          refine wpAnyZ_take (i := 12) (v := ?_) (List.getElem?_toArray.trans rfl) (by kernel_rfl) (by kernel_rfl) (by kernel_rfl) (by kernel_rfl) (fun _ _ _ h => h) (Or.inl ⟨by rfl, ?_⟩) hS0 ?_; rotate_left; · intro w hSw; (try dsimp only at hSw); go_simp; (try with_reducible rfl)
          try simp only [puts]
          refine wpAnyZ_take (i := 13) (v := ?_) (List.getElem?_toArray.trans rfl) (by kernel_rfl) (by kernel_rfl) (by kernel_rfl) (by kernel_rfl) (fun _ _ _ h => h) (Or.inl ⟨by rfl, ?_⟩) hS0 ?_; rotate_left; · intro w hSw; (try dsimp only at hSw); go_simp; (try with_reducible rfl)
          try simp only [puts]
          refine wpAnyZ_two (i := 0) (j := 9) (by kernel_rfl) (List.getElem?_toArray.trans rfl) (List.getElem?_toArray.trans rfl) (fun K' hK => ?_) (fun K' hK => ?_)
          · go_simp
            refine hK _ _ (fun _ => HKS.out _ (Hd.out.alloc _)) ?_
            try simp only [puts]
            clear hK
            refine wpAnyZ_two (i := 4) (j := 9) (by kernel_rfl) (List.getElem?_toArray.trans rfl) (List.getElem?_toArray.trans rfl) (fun K' hK => ?_) (fun K' hK => ?_)
            · refine step_appS (by rfl) (.tmp 30) (.tmp 33) _ (by rfl) slI (by rfl) (base := W.heap.size) (by exact own_lit W.drew W.heap.size _ 1 #[] 0 (Nat.le_refl _) (by decide) rfl) (by rfl) B.out.2.2.1 (by exact (Hrd1.out.drew).alloc _) (one_is _) B.out.1 B.out.2.1 (by first | (simp; done) | (simp; omega)) ?_
              intro A5 c5 w5 hown5 hchg5 hat5
              have hcz : Same W w5 := ((((Chg.refl _ W).drew).alloc (.cells #[] 3)).trans hchg5 (by intro k hk h; simp [blkOf] at h; omega))
              rw [Nat.zero_add] at hown5
              have Hown5 := hide hown5
              have Hcz := hide hcz
              clear hown5 hchg5 hat5 hcz
              refine hK _ _ (fun _ => HKS.out _ Hcz.out) ?_
              try simp only [puts]
              clear hK
              refine wpAnyZ_one (i := 9) (by kernel_rfl) (List.getElem?_toArray.trans rfl) (fun K' hK => ?_)
              go_simp
              refine hK _ _ (fun _ => HKS.out _ (Hcz.out.alloc _)) ?_
              try simp only [puts]
              clear hK
              refine wpAnyZ_one (i := 10) (by kernel_rfl) (List.getElem?_toArray.trans rfl) (fun K' hK => ?_)
              refine step_appS (by rfl) (.tmp 34) (.tmp 39) _ (by rfl) slI (by rfl) (base := W.heap.size) (by exact Hown5.out.alloc _) (by rfl) (by rfl) (by exact rd_new w5 _ _) (show ∀ u ∈ [Value.int .i64 x], u.oneCell' = true from one_is [x]) (by omega) (by omega) (by have := Hcz.out.size; simp; omega) ?_
              intro A6 c6 w6 hown6 hchg6 hat6
              have hcz : Same W w6 := Hcz.out.app1 Hown5.out (Nat.le_refl _) hchg6
              have Hown6 := hide hown6
              have Hcy := hide hcz
              clear hown6 hchg6 hat6 hcz
              refine hK _ _ (fun _ => HKS.out _ Hcy.out) ?_
              try simp only [puts]
              clear hK
              refine wpAnyZ_one (i := 14) (by kernel_rfl) (List.getElem?_toArray.trans rfl) (fun K' hK => ?_)
              refine step_appS (by rfl) (.tmp 40) (.tmp 43) _ (by rfl) slI (by rfl) (base := W.heap.size) (by exact Hown6.out) (by rfl) B.out.2.2.2.1 (by exact Hrd2.out.same Hcy.out) (one_is _) (by have := B.out.2.2.2.2.1; omega) (by have := B.out.2.2.2.2.2; omega) (by exact Hcy.out.size) ?_
              intro A7 c7 w7 hown7 hchg7 hat7
              have hcz : Same W w7 := Hcy.out.app Hown6.out (Nat.le_refl _) hchg7
              have Hown7 := hide hown7
              have Hcw := hide hcz
              clear hown7 hchg7 hat7 hcz
              refine hK _ _ (fun _ => HKS.out _ Hcw.out) ?_
              try simp only [puts]
              clear hK
              refine wpAnyZ_one (i := 15) (by kernel_rfl) (List.getElem?_toArray.trans rfl) (fun K' hK => ?_)
              go_simp
              refine hK _ _ (fun h => absurd rfl h) ?_
              try simp only [puts]
              clear hK hS0
              refine wpAnyZ_done (by kernel_rfl) (NoPanic.normal ?_) _
              go_wp2_with fail
              go_roundg (n - (i + 1))
              case measure => have := Hk.out; omega
              case rel => exact ris_step (by omega) (by omega) (Nat.le_refl _) hlt Hsm.out HsR.out Hcw.out Hlo.out Hnx.out HF2.out.2.2 Hown7.out _ (by go_num)
            · go_simp
              refine hK _ _ (fun _ => HKS.out _ ((Hd.out.alloc _).alloc _)) ?_
              try simp only [puts]
              clear hK
              refine wpAnyZ_one (i := 4) (by kernel_rfl) (List.getElem?_toArray.trans rfl) (fun K' hK => ?_)
              refine step_appS (by rfl) (.tmp 30) (.tmp 33) _ (by rfl) slI (by rfl) (base := W.heap.size) (by exact (own_lit W.drew W.heap.size _ 1 #[] 0 (Nat.le_refl _) (by decide) rfl).alloc (.cells #[.int .i64 x] 3)) (by rfl) B.out.2.2.1 (by exact ((Hrd1.out.drew).alloc _).alloc _) (one_is _) B.out.1 B.out.2.1 (by first | (simp; done) | (simp; omega)) ?_
              intro A5 c5 w5 hown5 hchg5 hat5
              have hcz : Same W w5 := (((((Chg.refl _ W).drew).alloc (.cells #[] 3)).alloc (.cells #[.int .i64 x] 3)).trans hchg5 (by intro k hk h; simp [blkOf] at h; omega))
              have Hx5 : Hid (Rd w5 (some ⟨W.heap.size + 1, 0, none⟩) [.int .i64 x]) := hide ((show Rd ((W.drew.alloc (.cells #[] 3)).alloc (.cells #[.int .i64 x] 3)) (some ⟨W.heap.size + 1, 0, none⟩) [.int .i64 x] from by have := rd_new (W.drew.alloc (.cells #[] 3)) (.int .i64 x) 3; simpa using this).chg hchg5 (by intro b hb _ e; simp [blkOf] at hb e; omega))
              have Hown5 := hide hown5
              have Hcz := hide hcz
              clear hown5 hchg5 hat5 hcz
              refine hK _ _ (fun _ => HKS.out _ Hcz.out) ?_
              try simp only [puts]
              clear hK
              refine wpAnyZ_one (i := 10) (by kernel_rfl) (List.getElem?_toArray.trans rfl) (fun K' hK => ?_)
              refine step_appS (by rfl) (.tmp 34) (.tmp 39) _ (by rfl) slI (by rfl) (base := W.heap.size) (by exact Hown5.out) (by rfl) (by rfl) (by exact Hx5.out) (show ∀ u ∈ [Value.int .i64 x], u.oneCell' = true from one_is [x]) (by omega) (by omega) (by exact Hcz.out.size) ?_
              intro A6 c6 w6 hown6 hchg6 hat6
              have hcz : Same W w6 := Hcz.out.app Hown5.out (Nat.le_refl _) hchg6
              have Hown6 := hide hown6
              have Hcy := hide hcz
              clear hown6 hchg6 hat6 hcz
              refine hK _ _ (fun _ => HKS.out _ Hcy.out) ?_
              try simp only [puts]
              clear hK
              refine wpAnyZ_one (i := 14) (by kernel_rfl) (List.getElem?_toArray.trans rfl) (fun K' hK => ?_)
              refine step_appS (by rfl) (.tmp 40) (.tmp 43) _ (by rfl) slI (by rfl) (base := W.heap.size) (by exact Hown6.out) (by rfl) B.out.2.2.2.1 (by exact Hrd2.out.same Hcy.out) (one_is _) (by have := B.out.2.2.2.2.1; omega) (by have := B.out.2.2.2.2.2; omega) (by exact Hcy.out.size) ?_
              intro A7 c7 w7 hown7 hchg7 hat7
              have hcz : Same W w7 := Hcy.out.app Hown6.out (Nat.le_refl _) hchg7
              have Hown7 := hide hown7
              have Hcw := hide hcz
              clear hown7 hchg7 hat7 hcz
              refine hK _ _ (fun _ => HKS.out _ Hcw.out) ?_
              try simp only [puts]
              clear hK
              refine wpAnyZ_one (i := 15) (by kernel_rfl) (List.getElem?_toArray.trans rfl) (fun K' hK => ?_)
              go_simp
              refine hK _ _ (fun h => absurd rfl h) ?_
              try simp only [puts]
              clear hK hS0
              refine wpAnyZ_done (by kernel_rfl) (NoPanic.normal ?_) _
              go_wp2_with fail
              go_roundg (n - (i + 1))
              case measure => have := Hk.out; omega
              case rel => exact ris_step (by omega) (by omega) (Nat.le_refl _) hlt Hsm.out HsR.out Hcw.out Hlo.out Hnx.out HF2.out.2.2 Hown7.out _ (by go_num)
          · go_simp
            refine hK _ _ (fun _ => HKS.out _ (Hd.out.alloc _)) ?_
            try simp only [puts]
            clear hK
            refine wpAnyZ_one (i := 0) (by kernel_rfl) (List.getElem?_toArray.trans rfl) (fun K' hK => ?_)
            go_simp
            refine hK _ _ (fun _ => HKS.out _ ((Hd.out.alloc _).alloc _)) ?_
            try simp only [puts]
            clear hK
            refine wpAnyZ_one (i := 4) (by kernel_rfl) (List.getElem?_toArray.trans rfl) (fun K' hK => ?_)
            refine step_appS (by rfl) (.tmp 30) (.tmp 33) _ (by rfl) slI (by rfl) (base := W.heap.size) (by exact (by have := (own_lit (W.alloc (.cells #[.int .i64 x] 3)) W.heap.size 3 1 #[] 0 (by simp) (by decide) rfl).drew; simpa using this)) (by rfl) B.out.2.2.1 (by exact ((Hrd1.out.drew).alloc _).alloc _) (one_is _) B.out.1 B.out.2.1 (by first | (simp; done) | (simp; omega)) ?_
            intro A5 c5 w5 hown5 hchg5 hat5
            have hcz : Same W w5 := (((((Chg.refl _ W).drew).alloc (.cells #[.int .i64 x] 3)).alloc (.cells #[] 3)).trans hchg5 (by intro k hk h; simp [blkOf] at h; omega))
            have Hx5 : Hid (Rd w5 (some ⟨W.heap.size, 0, none⟩) [.int .i64 x]) := hide (((rd_new W.drew (.int .i64 x) 3).alloc (.cells #[] 3)).chg hchg5 (by intro b hb _ e; simp [blkOf] at hb e; omega))
            have Hown5 := hide hown5
            have Hcz := hide hcz
            clear hown5 hchg5 hat5 hcz
            refine hK _ _ (fun _ => HKS.out _ Hcz.out) ?_
            try simp only [puts]
            clear hK
            refine wpAnyZ_one (i := 10) (by kernel_rfl) (List.getElem?_toArray.trans rfl) (fun K' hK => ?_)
            refine step_appS (by rfl) (.tmp 34) (.tmp 39) _ (by rfl) slI (by rfl) (base := W.heap.size) (by exact Hown5.out) (by rfl) (by rfl) (by exact Hx5.out) (show ∀ u ∈ [Value.int .i64 x], u.oneCell' = true from one_is [x]) (by omega) (by omega) (by exact Hcz.out.size) ?_
            intro A6 c6 w6 hown6 hchg6 hat6
            have hcz : Same W w6 := Hcz.out.app Hown5.out (Nat.le_refl _) hchg6
            have Hown6 := hide hown6
            have Hcy := hide hcz
            clear hown6 hchg6 hat6 hcz
            refine hK _ _ (fun _ => HKS.out _ Hcy.out) ?_
            try simp only [puts]
            clear hK
            refine wpAnyZ_one (i := 14) (by kernel_rfl) (List.getElem?_toArray.trans rfl) (fun K' hK => ?_)
            refine step_appS (by rfl) (.tmp 40) (.tmp 43) _ (by rfl) slI (by rfl) (base := W.heap.size) (by exact Hown6.out) (by rfl) B.out.2.2.2.1 (by exact Hrd2.out.same Hcy.out) (one_is _) (by have := B.out.2.2.2.2.1; omega) (by have := B.out.2.2.2.2.2; omega) (by exact Hcy.out.size) ?_
            intro A7 c7 w7 hown7 hchg7 hat7
            have hcz : Same W w7 := Hcy.out.app Hown6.out (Nat.le_refl _) hchg7
            have Hown7 := hide hown7
            have Hcw := hide hcz
            clear hown7 hchg7 hat7 hcz
            refine hK _ _ (fun _ => HKS.out _ Hcw.out) ?_
            try simp only [puts]
            clear hK
            refine wpAnyZ_one (i := 15) (by kernel_rfl) (List.getElem?_toArray.trans rfl) (fun K' hK => ?_)
            go_simp
            refine hK _ _ (fun h => absurd rfl h) ?_
            try simp only [puts]
            clear hK hS0
            refine wpAnyZ_done (by kernel_rfl) (NoPanic.normal ?_) _
            go_wp2_with fail
            go_roundg (n - (i + 1))
            case measure => have := Hk.out; omega
            case rel => exact ris_step (by omega) (by omega) (Nat.le_refl _) hlt Hsm.out HsR.out Hcw.out Hlo.out Hnx.out HF2.out.2.2 Hown7.out _ (by go_num)
    · have he : n = i := by omega
      subst he
      go_wp2_with fail
      go_ret
      have e : xs.take n = xs := List.take_of_length_le (by rw [Hn.out]; exact Nat.le_refl _)
      have h := Hrd.out
      rw [e] at h
      exact ⟨A0, c0, by rw [risI_len, Hn.out]; rfl, h, by rw [risI_len, Hn.out]; exact hc, hcm, Hsm.out, Hfr.out⟩
end
end Go.Proofs.YtlimpepdelpogaaGreatDoor
/-! RfD -/
namespace Go.Proofs.YtlimpepdelpogaaGreatDoor
open Go.RowKit Go.Al
set_option linter.unusedVariables false
/-- how Plain ends -/
def PlainREnd (w : World) (N : Nat) (l : List Int) (e : Ending) (w' : World) : Prop :=
  ∃ A c, e = .returned (.agg #[.int .i64 N, .slice A l.length c]) ∧ Rd w' A (is l) ∧ l.length ≤ c ∧ c ≤ maxLen ∧ Same w w' ∧ ∀ b, blkOf A = some b → w.heap.size ≤ b
theorem relNo {w2 wr wq : World} {A0 : Option Addr} {c0 n1 : Nat} {p : List P3} {f : P3 → Bool} {y : P3} {ids : List Int} (i : Nat) (hlt : i < n1) (hno : f y = false → gather f p (i + 1) = ids) (hv : f y = false)
    (hown : wr.ownsRow w2.heap.size 3 1 (.slice A0 ids.length c0) ids.length (is ids)) (hsm : Same w2 wr) (hs : Same wr wq) (vi : Value) (hvi : vi = .int .i64 ((i + 1 : Nat) : Int)) :
    ∃ (i' : Nat) (A' : Option Addr) (c' : Nat), i' ≤ n1 ∧ n1 - (i + 1) = n1 - i' ∧ vi = .int .i64 i' ∧ Value.slice A0 ids.length c0 = .slice A' (gather f p i').length c' ∧ wq.ownsRow w2.heap.size 3 1 (.slice A' (gather f p i').length c') (gather f p i').length (is (gather f p i')) ∧ Same w2 wq := by
  subst hvi
  have hn := hno hv
  exact ⟨i + 1, A0, c0, hlt, rfl, rfl, by rw [hn], by rw [hn]; exact own_chg hown hs (fun _ _ h => h), Same.trans hsm hs⟩
theorem relYes {w2 wr wq w7 : World} {ob : Obj} {A0 A' : Option Addr} {c0 c' n1 : Nat} {p : List P3} {f : P3 → Bool} {y : P3} {z : Int} {ids : List Int} (i : Nat) (hlt : i < n1) (hyes : f y = true → gather f p (i + 1) = ids ++ [z]) (hv : f y = true)
    (hown : wr.ownsRow w2.heap.size 3 1 (.slice A0 ids.length c0) ids.length (is ids)) (hown7 : w7.ownsRow w2.heap.size 3 1 (.slice A' (ids.length + 1) c') (ids.length + 1) (is ids ++ is [z])) (hsm : Same w2 wr) (hs : Same wr wq) (hc7 : Chg (fun k => blkOf A0 = some k) (wq.alloc ob) w7) (vi : Value) (hvi : vi = .int .i64 ((i + 1 : Nat) : Int)) :
    ∃ (i' : Nat) (A3 : Option Addr) (c3 : Nat), i' ≤ n1 ∧ n1 - (i + 1) = n1 - i' ∧ vi = .int .i64 i' ∧ Value.slice A' (ids.length + 1) c' = .slice A3 (gather f p i').length c3 ∧ w7.ownsRow w2.heap.size 3 1 (.slice A3 (gather f p i').length c3) (gather f p i').length (is (gather f p i')) ∧ Same w2 w7 := by
  subst hvi
  have hn := hyes hv
  refine ⟨i + 1, A', c', hlt, rfl, rfl, by rw [hn, List.length_append]; rfl, ?_, (Same.trans hsm hs).app1 (own_chg hown hs (fun _ _ h => h)) (Nat.le_refl _) hc7⟩
  rw [hn, List.length_append, is_append]
  exact hown7
theorem check_span {q : Qy} (hc : checkE q = 0) (hp : pointsB q = false) : q.k = 5 ∨ q.k = 6 ∨ q.k = 7 := by
  unfold checkE at hc
  unfold pointsB at hp
  split at hc
  · rename_i h; rcases h with h | h <;> (rw [h] at hp; simp at hp)
  · split at hc
    · rename_i h; rcases h with h | h <;> (rw [h] at hp; simp at hp)
    · split at hc
      · rename_i h; exact .inl h
      · split at hc
        · rename_i h; exact .inr h
        · cases hc
theorem over_one (s : P3) (x : Int) : overB s (0, x, x) = withinB x s.2.1 s.2.2 := by
  rw [Bool.eq_iff_iff]
  unfold overB withinB
  simp
  omega
end Go.Proofs.YtlimpepdelpogaaGreatDoor
