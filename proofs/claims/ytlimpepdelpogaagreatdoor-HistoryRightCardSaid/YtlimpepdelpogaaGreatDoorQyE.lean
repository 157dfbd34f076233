/-
  slices.Sort at a list of integers that is sorted: it stays as it is. Condition: fewer than 2^60 elements.
  plan.Plain: what a query is told of points and intervals: how many it asks for, and their ids. Conditions: at most 1048576 of each, each list rising by its ids.
-/
import Derived.Test.YtlimpepdelpogaaGreatDoorIn
import Derived.Test.YtlimpepdelpogaaGreatDoorLay
import Derived.Shelf.SortM.Plain
import Derived.Shelf.SortM.SortNone
import Derived.Test.YtlimpepdelpogaaGreatDoorQyD
/-! SoI -/
namespace Go.Proofs.YtlimpepdelpogaaGreatDoor
open Go.RowKit Go.Al Go.Sort
set_option linter.unusedVariables false
theorem same_grow (w : World) (n : Nat) (os : Array Obj) : Same w (grow (Go.Sort.ahead w n) os) :=
  ⟨rfl, rfl, rfl, by simp [grow, Go.Sort.ahead], fun k hk => by
      unfold Go.Al.ty World.shape?
      rw [heap_grow_old _ os (by simpa [Go.Sort.ahead] using hk)]
      rfl,
    fun k hk _ => heap_grow_old _ os (by simpa [Go.Sort.ahead] using hk)⟩
theorem sortI_any {w : World} {base : Nat} {A : Option Addr} {c : Nat} {xs : List Int} (h : w.ownsRow base 3 1 (.slice A xs.length c) xs.length (is xs)) (hs : xs.Pairwise (· ≤ ·)) (hsz : xs.length ≤ 4194304) :
    Calls Tryz.prog 88 #[.slice A xs.length c] w fun e w' => e = .returned (.tuple #[]) ∧ Same w w' := by
  by_cases h0 : xs = []
  · subst h0
    have hcon := Go.Proofs.AnyM.slices_Sort_int_none Go.Proofs.YtlimpepdelpogaaGreatDoor.sortI A c w
    change Calls Tryz.prog 88 _ _ _ at hcon
    exact hcon.mono fun e w' ⟨h1, h2⟩ => ⟨h1, by subst h2; exact Chg.refl _ _⟩
  · have hl : 0 < xs.length := List.length_pos_iff.2 h0
    rcases h.2 with ⟨hv, hx⟩ | ⟨g, cap, cur, hv, hb, hg, hn, hm, hcs, htake⟩
    · exact absurd (by simpa [is] using hx) h0
    · cases hv
      have hH : Holds (Value.int .i64) w g 0 xs.toArray := fun j hj => by
        have hj' : j < xs.length := by simpa using hj
        refine ⟨?_, ?_⟩
        · rw [Nat.zero_add, cell_of_row w g j cur _ (0, 0) hg]
          have h1 : (is xs)[j]? = some (.int .i64 xs[j]) := by simp [is, hj']
          rw [← htake, List.getElem?_take_of_lt (by simpa using hj')] at h1
          simp [hj'] at h1 ⊢
          exact h1
        · exact Blk.frozen (w := w) (g := g) (cs := cur) hg _
      have hcon := Go.Proofs.AnyM.slices_Sort_int Go.Proofs.YtlimpepdelpogaaGreatDoor.sortI g 0 c xs w hH (Array.getElem?_eq_some_iff.1 hg).1 (by omega)
      change Calls Tryz.prog 88 _ _ _ at hcon
      refine hcon.mono ?_
      rintro e w' ⟨he, n, os, rfl⟩
      rw [List.mergeSort_of_pairwise (hs.imp fun h => decide_eq_true h), putRow_self (Value.int .i64) (Go.Sort.ahead w n) g 0 xs.toArray hH]
      exact ⟨he, same_grow w n os⟩
end Go.Proofs.YtlimpepdelpogaaGreatDoor
/-! QyE -/
namespace Go.Proofs.YtlimpepdelpogaaGreatDoor
open Go.RowKit Go.Al
set_option linter.unusedVariables false
set_option maxHeartbeats 8000000
set_option maxRecDepth 100000
def gather (f : P3 → Bool) (l : List P3) (i : Nat) : List Int := ((l.take i).filter f).map (·.1)
theorem gather_yes {f : P3 → Bool} {l : List P3} {i : Nat} (h : i < l.length) (hf : f l[i] = true) : gather f l (i + 1) = gather f l i ++ [l[i].1] := by
  unfold gather
  rw [List.take_succ_eq_append_getElem h, List.filter_append]
  simp [hf]
theorem gather_no {f : P3 → Bool} {l : List P3} {i : Nat} (h : i < l.length) (hf : f l[i] = false) : gather f l (i + 1) = gather f l i := by
  unfold gather
  rw [List.take_succ_eq_append_getElem h, List.filter_append]
  simp [hf]
theorem gather_len (f : P3 → Bool) (l : List P3) (i : Nat) : (gather f l i).length ≤ l.length := by
  unfold gather
  rw [List.length_map]
  exact Nat.le_trans (List.length_filter_le _ _) (List.length_take_le' _ _)
theorem gather_all (f : P3 → Bool) (l : List P3) : gather f l l.length = (l.filter f).map (·.1) := by
  unfold gather
  rw [List.take_length]
theorem gather_sorted {f : P3 → Bool} {l : List P3} (h : Srt l) (i : Nat) : (gather f l i).Pairwise (· ≤ ·) := by
  unfold gather
  rw [List.pairwise_map]
  exact ((List.Pairwise.sublist (List.filter_sublist.trans (List.take_sublist i l)) h)).imp fun {a b : P3} (hab : a.1 < b.1) => Int.le_of_lt hab
/-- the list that a query is told -/
def lstOf (q : Qy) (p s : List P3) : List Int := if countsB q then [] else idsOf q p s
/-- how Plain ends -/
def PlainEnd (w : World) (N : Nat) (l : List Int) (e : Ending) (w' : World) : Prop :=
  ∃ A c, e = .returned (.agg #[.int .i64 N, .slice A l.length c]) ∧ Rd w' A (is l) ∧ l.length ≤ c ∧ c ≤ maxLen ∧ Same w w'
theorem plain_bad {A1 A2 : Option Addr} {n1 n2 c1 c2 : Nat} (q : Qy) (w : World) (hc : ¬ checkE q = 0) :
    Calls Tryz.prog 54 #[qV q, .slice A1 n1 c1, .slice A2 n2 c2] w (PlainEnd w 0 []) := by
  have HC := hide (check_any q)
  obtain ⟨v, hv⟩ : ∃ v, checkE q = v := ⟨_, rfl⟩
  rw [hv] at HC hc
  clear hv
  have hs1 := ((Chg.refl (fun _ => False) w).alloc (.cells (qL q).toArray 35)).alloc (.cells #[.int .i64 0, .slice none 0 0] 41)
  have hb1 := Blk.new (w.alloc (.cells (qL q).toArray 35)) 41 #[.int .i64 0, .slice none 0 0]
  simp only [World.size_alloc] at hb1
  have Hs1 := hide hs1
  have Hb1 := hide hb1
  clear hs1 hb1
  obtain ⟨k, a, b, c, d, e, f, g, x, h⟩ := q
  unfold qV at HC ⊢
  simp only [qL] at HC Hs1 Hb1 ⊢
  go_enter Tryz.func54, Tryz.ntmps54
  go_wp2_with (go_at_call 81; have hF := HC.out; refine (hF _).mono ?_; rintro e w2 ⟨rfl, hs⟩; have Hs2 := hide hs; have HA := hide (Hb1.out.same hs); have hka := (Hb1.out.same hs).cell; have hkf := (Hb1.out.same hs).frozen; clear hs hF)
  have hb3 := (HA.out.set_ 0 (.int .i64 0)).set_ 1 (.slice none 0 0)
  refine bodyPost_ret (results_cell_row rfl _ _ _ _ _ _ _ rfl hb3 Tryz.underlying41 rfl (by kernel_rfl)) rfl ⟨none, 0, by simp, Rd.nil _ _, Nat.le_refl _, Nat.zero_le _, ?_⟩
  exact ((Hs1.out.same Hs2.out).setCell (p := ⟨w.heap.size + 1, 0, none⟩) (.inr (by simp)) _).setCell (p := ⟨w.heap.size + 1, 1, none⟩) (.inr (by simp)) _
theorem plainP_any {A1 A2 : Option Addr} {c1 c2 : Nat} {p s : List P3} (q : Qy) (w : World) (hc : checkE q = 0) (hpb : pointsB q = true) (h1 : Row3 w A1 p.length c1 p) (h2 : Row3 w A2 s.length c2 s) (hp : p.length ≤ 1048576) (hs : s.length ≤ 1048576) (sp : Srt p) (ss : Srt s) :
    Calls Tryz.prog 54 #[qV q, .slice A1 p.length c1, .slice A2 s.length c2] w (PlainEnd w (idsOf q p s).length (lstOf q p s)) := by
  have hid : idsOf q p s = gather (hitB q) p p.length := by unfold idsOf; rw [hpb, gather_all]; rfl
  have hl0 : countsB q = false → lstOf q p s = idsOf q p s := fun h => by unfold lstOf; rw [h]; rfl
  have hl1 : countsB q = true → lstOf q p s = [] := fun h => by unfold lstOf; rw [h]; rfl
  obtain ⟨l, hl⟩ : ∃ l, lstOf q p s = l := ⟨_, rfl⟩
  rw [hl] at hl0 hl1 ⊢
  rw [hid] at hl0 ⊢
  clear hid hl
  have HC := hide (check_any q)
  have HP := hide (pointsQ_any q)
  have HCn := hide (counts_any q)
  rw [hc] at HC
  rw [hpb] at HP
  have hs1 := ((Chg.refl (fun _ => False) w).alloc (.cells (qL q).toArray 35)).alloc (.cells #[.int .i64 0, .slice none 0 0] 41)
  have hb1 := Blk.new (w.alloc (.cells (qL q).toArray 35)) 41 #[.int .i64 0, .slice none 0 0]
  have hq1 := (Blk.new w 35 (qL q).toArray).alloc (.cells #[.int .i64 0, .slice none 0 0] 41)
  simp only [World.size_alloc] at hb1
  have Hz1 := hide (show ((w.alloc (.cells (qL q).toArray 35)).alloc (.cells #[.int .i64 0, .slice none 0 0] 41)).heap.size = w.heap.size + 2 by simp)
  have Hs1 := hide hs1
  have Hb1 := hide hb1
  have Hq1 := hide hq1
  clear hs1 hb1 hq1 hc hpb
  obtain ⟨k, a, b, c, d, e, f, g, x, h⟩ := q
  unfold qV at HC HP HCn ⊢
  simp only [qL] at HC HP HCn Hs1 Hb1 Hq1 Hz1 ⊢
  obtain ⟨cb, hcb⟩ : ∃ cb, countsB ⟨k, a, b, c, d, e, f, g, x, h⟩ = cb := ⟨_, rfl⟩
  rw [hcb] at HCn hl0 hl1
  clear hcb
  have HL0 := hide hl0
  have HL1 := hide hl1
  have HR1 := hide (h1.same Hs1.out)
  have HR2 := hide (h2.same Hs1.out)
  obtain ⟨n1, hn1⟩ : ∃ n1, p.length = n1 := ⟨_, rfl⟩
  obtain ⟨n2, hn2⟩ : ∃ n2, s.length = n2 := ⟨_, rfl⟩
  rw [hn1] at hp HR1 HL0 ⊢
  rw [hn2] at hs HR2 ⊢
  have Hp := hide hn1
  have Hs := hide hn2
  have HSp := hide sp
  have HSs := hide ss
  clear hl0 hl1 h1 h2 hn1 hn2 sp ss
  go_enter Tryz.func54, Tryz.ntmps54
  go_wp2_with (go_at_call 81; have hF := HC.out; refine (hF _).mono ?_; rintro e w2 ⟨rfl, hs9⟩; have HSw := hide (Hs1.out.same hs9); have Hz2 := hide (Nat.le_trans (Nat.le_of_eq Hz1.out.symm) hs9.size); have HA := hide (Hb1.out.same hs9); have HQ := hide (Hq1.out.same hs9); have HR1' := hide (HR1.out.same hs9); have HR2' := hide (HR2.out.same hs9); clear hs9 hF)
  clear HR1 HR2
  rename Hid (Row3 w2 A1 n1 c1 p) => HR1
  rename Hid (Row3 w2 A2 n2 c2 s) => HR2
  go_loopg [7, 18] n1 (fun kk out vi wr => ∃ (i : Nat) (A0 : Option Addr) (c0 : Nat), i ≤ n1 ∧ kk = n1 - i ∧ vi = .int .i64 i ∧ out = .slice A0 (gather (hitB ⟨k, a, b, c, d, e, f, g, x, h⟩) p i).length c0 ∧ wr.ownsRow w2.heap.size 3 1 (.slice A0 (gather (hitB ⟨k, a, b, c, d, e, f, g, x, h⟩) p i).length c0) (gather (hitB ⟨k, a, b, c, d, e, f, g, x, h⟩) p i).length (is (gather (hitB ⟨k, a, b, c, d, e, f, g, x, h⟩) p i)) ∧ Same w2 wr)
  case atStart => exact ⟨0, none, 0, Nat.zero_le _, rfl, rfl, rfl, World.ownsRow_nil _ _ _ _, Chg.refl _ _⟩
  case round =>
    obtain ⟨i, A0, c0, hi, hkk, rfl, rfl, hown, hsm⟩ := hrel
    have Hk := hide hkk
    have Hsm := hide hsm
    have Hown := hide hown
    clear hkk hsm hown
    by_cases hlt : i < n1
    · have hil : i < p.length := by rw [Hp.out]; exact hlt
      obtain ⟨b1, o1, rfl, hbl, hc0, hc1, hc2⟩ := (HR1.out.same Hsm.out).at_ hil
      obtain ⟨y1, y2, y3, hy⟩ : ∃ y1 y2 y3, p[i] = (y1, y2, y3) := ⟨_, _, _, rfl⟩
      have Hyes := hide (fun hf => gather_yes (f := hitB ⟨k, a, b, c, d, e, f, g, x, h⟩) hil hf)
      have Hno := hide (fun hf => gather_no (f := hitB ⟨k, a, b, c, d, e, f, g, x, h⟩) hil hf)
      have Hlen := hide (gather_len (hitB ⟨k, a, b, c, d, e, f, g, x, h⟩) p i)
      have HH := hide (hit_any ⟨k, a, b, c, d, e, f, g, x, h⟩ (y1, y2, y3))
      rw [hy] at hc0 hc1 hc2 Hyes Hno
      simp only at hc0 hc1 hc2
      unfold qV agg3 at HH
      simp only [qL] at HH
      have HyL := hide hy
      clear hy
      obtain ⟨ids, hids⟩ : ∃ ids, gather (hitB ⟨k, a, b, c, d, e, f, g, x, h⟩) p i = ids := ⟨_, rfl⟩
      rw [hids] at Hown Hyes Hno Hlen ⊢
      clear hids
      have HBl := hide (Blk.new wr 25 #[.int .i64 y1, .int .i64 y2, .int .i64 y3])
      have HQr := hide ((HQ.out.same Hsm.out).alloc (.cells #[.int .i64 y1, .int .i64 y2, .int .i64 y3] 25))
      have hkq := (HQ.out.same Hsm.out).cell
      have hlw := (HQ.out.same Hsm.out).lt
      cases hv : hitB ⟨k, a, b, c, d, e, f, g, x, h⟩ (y1, y2, y3)
      · have Hv := hide hv
        have HH := hide (fun w => by have := HH.out w; rw [hv] at this; exact this)
        clear hv
        go_wp2_with (first
          | (go_at_call 84; have hF := HP.out; refine (hF _).mono ?_; rintro e w4 ⟨rfl, hs⟩; have Hs4 := hide hs; have hkq4 := (HQr.out.same hs).cell; have hkl4 := (HBl.out.same hs).cell; clear hs hF)
          | (go_at_call 85; have hF := HH.out; refine (hF _).mono ?_; rintro e w5 ⟨rfl, hs⟩; have Hs5 := hide hs; clear hs hF))
        go_roundg (n1 - (i + 1))
        case measure => have := Hk.out; omega
        case rel =>
          have hs5 : Same wr w5 := (((Chg.refl _ wr).alloc _).same Hs4.out).same Hs5.out
          have hn := Hno.out Hv.out
          exact ⟨i + 1, A0, c0, by omega, rfl, by go_num, by rw [hn], by rw [hn]; exact own_chg Hown.out hs5 (fun _ _ h => h), Hsm.out.trans hs5⟩
      · have Hv := hide hv
        have HH := hide (fun w => by have := HH.out w; rw [hv] at this; exact this)
        clear hv
        have bnd : (ids.length + 1) * 8 ≤ 140737488355328 ∧ ids.length + 1 ≤ 140737488355328 := by have := Hlen.out; have := Hp.out; omega
        have Bnd := hide bnd
        clear bnd
        go_wp2_with (first
          | (go_at_call 84; have hF := HP.out; refine (hF _).mono ?_; rintro e w4 ⟨rfl, hs⟩; have Hs4 := hide hs; have hkq4 := (HQr.out.same hs).cell; have hkl4 := (HBl.out.same hs).cell; have HBl4 := hide (HBl.out.same hs); clear hs hF)
          | (go_at_call 85; have hF := HH.out; refine (hF _).mono ?_; rintro e w5 ⟨rfl, hs⟩; have hs5 : Same wr w5 := (((Chg.refl _ wr).alloc _).same Hs4.out).same hs; have Hs5 := hide hs5; have hkl5 := (HBl4.out.same hs).cell; clear hs hs5 hF)
          | (at_builtin; refine wpList_appS (by rfl) (.tmp 29) (.tmp 32) _ (by rfl) slI (by rfl) (base := w2.heap.size) (by exact own_chg Hown.out (Hs5.out.alloc _) (fun _ _ h => h)) (by rfl) (by rfl) (by exact rd_new w5 _ _) (one_is [y1]) Bnd.out.1 Bnd.out.2 (by have := (Hsm.out.trans Hs5.out).size; simp; omega) ?_; intro A' c' w7 hown hc hb; have Hown7 := hide hown; have Hc7 := hide hc; clear hown hc hb))
        go_roundg (n1 - (i + 1))
        case measure => have := Hk.out; omega
        case rel =>
          have hn := Hyes.out Hv.out
          have hs7 : Same w2 w7 := (Hsm.out.trans Hs5.out).app1 (own_chg Hown.out Hs5.out (fun _ _ h => h)) (Nat.le_refl _) Hc7.out
          refine ⟨i + 1, A', c', by omega, rfl, by go_num, by rw [hn, List.length_append]; rfl, ?_, hs7⟩
          rw [hn, List.length_append, is_append]
          exact Hown7.out
    · have hie : n1 = i := by omega
      subst hie
      clear hi hlt
      obtain ⟨ids, hids⟩ : ∃ ids, gather (hitB ⟨k, a, b, c, d, e, f, g, x, h⟩) p n1 = ids := ⟨_, rfl⟩
      have HlenT := hide (gather_len (hitB ⟨k, a, b, c, d, e, f, g, x, h⟩) p n1)
      have Hsrt := hide (gather_sorted (f := hitB ⟨k, a, b, c, d, e, f, g, x, h⟩) HSp.out n1)
      rw [hids] at HL0 Hown HlenT Hsrt ⊢
      have Hids := hide hids
      clear hids
      have HWS := hide Hsm.out
      go_wp2_with fail
      go_loopg [7, 37] n2 (fun kk out vi wr' => ∃ (j : Nat), j ≤ n2 ∧ kk = n2 - j ∧ vi = .int .i64 j ∧ out = .slice A0 ids.length c0 ∧ Same wr wr')
      case atStart => exact ⟨0, Nat.zero_le _, rfl, rfl, rfl, Chg.refl _ _⟩
      case round =>
        obtain ⟨j, hj, hkk, rfl, rfl, hsm2⟩ := hrel
        have Hk2 := hide hkk
        have Hsm2 := hide hsm2
        clear hkk hsm2
        by_cases hlt2 : j < n2
        · have hjl : j < s.length := by rw [Hs.out]; exact hlt2
          obtain ⟨b1, o1, rfl, hbl, hc0, hc1, hc2⟩ := ((HR2.out.same HWS.out).same Hsm2.out).at_ hjl
          obtain ⟨y1, y2, y3, hy⟩ : ∃ y1 y2 y3, s[j] = (y1, y2, y3) := ⟨_, _, _, rfl⟩
          rw [hy] at hc0 hc1 hc2
          simp only at hc0 hc1 hc2
          clear hy
          have hkq2 := ((HQ.out.same HWS.out).same Hsm2.out).cell
          have hlw2 := ((HQ.out.same HWS.out).same Hsm2.out).lt
          go_wp2_with (go_at_call 84; have hF := HP.out; refine (hF _).mono ?_; rintro e w4 ⟨rfl, hs⟩; have Hs4 := hide hs; clear hs hF)
          go_roundg (n2 - (j + 1))
          case measure => have := Hk2.out; omega
          case rel => exact ⟨j + 1, by omega, rfl, by go_num, rfl, (Hsm2.out.alloc _).same Hs4.out⟩
        · have hje : n2 = j := by omega
          subst hje
          have HT := hide (HWS.out.same Hsm2.out)
          have HownT := hide (own_chg Hown.out Hsm2.out (fun _ _ h => h))
          have hkq9 := (HQ.out.same HT.out).cell
          have hkaT := (HA.out.same HT.out).cell
          have hkfT := (HA.out.same HT.out).frozen
          cases cb
          · have HLa := hide (HL0.out rfl)
            clear HL0 HL1
            go_wp2_with (first
              | (go_at_call 87; have hF := HCn.out; refine (hF _).mono ?_; rintro e w8 ⟨rfl, hs⟩; have Hs8 := hide hs; have hka8 := ((HA.out.same HT.out).same hs).cell; have hkf8 := ((HA.out.same HT.out).same hs).frozen; clear hs hF)
              | (go_at_call 88; refine (sortI_any (own_chg HownT.out Hs8.out (fun _ _ h => h)) Hsrt.out (by have := HlenT.out; have := Hp.out; omega)).mono ?_; rintro e w9 ⟨rfl, hs⟩; have Hs9 := hide hs; have hka9 := (((HA.out.same HT.out).same Hs8.out).same hs).cell; have hkf9 := (((HA.out.same HT.out).same Hs8.out).same hs).frozen; clear hs))
            have hs9 : Same wr w9 := Hs8.out.same Hs9.out
            have hb3 := (((HA.out.same HT.out).same hs9).set_ 0 (.int .i64 ids.length)).set_ 1 (.slice A0 ids.length c0)
            obtain ⟨_, _, hv, h1, h2, _, h4, h5, h6⟩ := own_form (own_chg HownT.out hs9 (fun _ _ h => h))
            cases hv
            refine bodyPost_ret (results_cell_row rfl _ _ _ _ _ _ _ rfl hb3 Tryz.underlying41 rfl (by kernel_rfl)) rfl ⟨A0, c0, by rw [Hids.out, HLa.out]; simp, ?_, by rw [HLa.out]; exact h1, h5, ?_⟩
            · rw [HLa.out]
              exact (h2.setCell (p := ⟨w.heap.size + 1, 0, none⟩) (fun e => by have h7 : w2.heap.size ≤ w.heap.size + 1 := h6 _ e; have := Hz2.out; omega) _).setCell (p := ⟨w.heap.size + 1, 1, none⟩) (fun e => by have h7 : w2.heap.size ≤ w.heap.size + 1 := h6 _ e; have := Hz2.out; omega) _
            · exact (((HSw.out.same HT.out).same hs9).setCell (p := ⟨w.heap.size + 1, 0, none⟩) (.inr (by simp)) _).setCell (p := ⟨w.heap.size + 1, 1, none⟩) (.inr (by simp)) _
          · have HLb := hide (HL1.out rfl)
            clear HL0 HL1
            go_wp2_with (go_at_call 87; have hF := HCn.out; refine (hF _).mono ?_; rintro e w8 ⟨rfl, hs⟩; have Hs8 := hide hs; have hka8 := ((HA.out.same HT.out).same hs).cell; have hkf8 := ((HA.out.same HT.out).same hs).frozen; clear hs hF)
            have hb3 := (((HA.out.same HT.out).same Hs8.out).set_ 0 (.int .i64 ids.length)).set_ 1 (.slice none 0 0)
            refine bodyPost_ret (results_cell_row rfl _ _ _ _ _ _ _ rfl hb3 Tryz.underlying41 rfl (by kernel_rfl)) rfl ⟨none, 0, by rw [Hids.out, HLb.out]; simp, by rw [HLb.out]; exact Rd.nil _ _, by rw [HLb.out]; exact Nat.le_refl _, Nat.zero_le _, ?_⟩
            exact (((HSw.out.same HT.out).same Hs8.out).setCell (p := ⟨w.heap.size + 1, 0, none⟩) (.inr (by simp)) _).setCell (p := ⟨w.heap.size + 1, 1, none⟩) (.inr (by simp)) _
theorem plainS_any {A1 A2 : Option Addr} {c1 c2 : Nat} {p s : List P3} (q : Qy) (w : World) (hc : checkE q = 0) (hpb : pointsB q = false) (h1 : Row3 w A1 p.length c1 p) (h2 : Row3 w A2 s.length c2 s) (hp : p.length ≤ 1048576) (hs : s.length ≤ 1048576) (sp : Srt p) (ss : Srt s) :
    Calls Tryz.prog 54 #[qV q, .slice A1 p.length c1, .slice A2 s.length c2] w (PlainEnd w (idsOf q p s).length (lstOf q p s)) := by
  have hid : idsOf q p s = gather (metB q) s s.length := by unfold idsOf; rw [hpb, gather_all]; rfl
  have hl0 : countsB q = false → lstOf q p s = idsOf q p s := fun h => by unfold lstOf; rw [h]; rfl
  have hl1 : countsB q = true → lstOf q p s = [] := fun h => by unfold lstOf; rw [h]; rfl
  obtain ⟨l, hl⟩ : ∃ l, lstOf q p s = l := ⟨_, rfl⟩
  rw [hl] at hl0 hl1 ⊢
  rw [hid] at hl0 ⊢
  clear hid hl
  have HC := hide (check_any q)
  have HP := hide (pointsQ_any q)
  have HCn := hide (counts_any q)
  rw [hc] at HC
  rw [hpb] at HP
  have hs1 := ((Chg.refl (fun _ => False) w).alloc (.cells (qL q).toArray 35)).alloc (.cells #[.int .i64 0, .slice none 0 0] 41)
  have hb1 := Blk.new (w.alloc (.cells (qL q).toArray 35)) 41 #[.int .i64 0, .slice none 0 0]
  have hq1 := (Blk.new w 35 (qL q).toArray).alloc (.cells #[.int .i64 0, .slice none 0 0] 41)
  simp only [World.size_alloc] at hb1
  have Hz1 := hide (show ((w.alloc (.cells (qL q).toArray 35)).alloc (.cells #[.int .i64 0, .slice none 0 0] 41)).heap.size = w.heap.size + 2 by simp)
  have Hs1 := hide hs1
  have Hb1 := hide hb1
  have Hq1 := hide hq1
  clear hs1 hb1 hq1 hc hpb
  obtain ⟨k, a, b, c, d, e, f, g, x, h⟩ := q
  unfold qV at HC HP HCn ⊢
  simp only [qL] at HC HP HCn Hs1 Hb1 Hq1 Hz1 ⊢
  obtain ⟨cb, hcb⟩ : ∃ cb, countsB ⟨k, a, b, c, d, e, f, g, x, h⟩ = cb := ⟨_, rfl⟩
  rw [hcb] at HCn hl0 hl1
  clear hcb
  have HL0 := hide hl0
  have HL1 := hide hl1
  have HR1 := hide (h1.same Hs1.out)
  have HR2 := hide (h2.same Hs1.out)
  obtain ⟨n1, hn1⟩ : ∃ n1, p.length = n1 := ⟨_, rfl⟩
  obtain ⟨n2, hn2⟩ : ∃ n2, s.length = n2 := ⟨_, rfl⟩
  rw [hn1] at hp HR1 ⊢
  rw [hn2] at hs HR2 HL0 ⊢
  have Hp := hide hn1
  have Hs := hide hn2
  have HSp := hide sp
  have HSs := hide ss
  clear hl0 hl1 h1 h2 hn1 hn2 sp ss
  go_enter Tryz.func54, Tryz.ntmps54
  go_wp2_with (go_at_call 81; have hF := HC.out; refine (hF _).mono ?_; rintro e w2 ⟨rfl, hs9⟩; have HSw := hide (Hs1.out.same hs9); have Hz2 := hide (Nat.le_trans (Nat.le_of_eq Hz1.out.symm) hs9.size); have HA := hide (Hb1.out.same hs9); have HQ := hide (Hq1.out.same hs9); have HR1' := hide (HR1.out.same hs9); have HR2' := hide (HR2.out.same hs9); clear hs9 hF)
  clear HR1 HR2
  rename Hid (Row3 w2 A1 n1 c1 p) => HR1
  rename Hid (Row3 w2 A2 n2 c2 s) => HR2
  have HWS := hide (Chg.refl (fun _ => False) w2)
  go_loopg [7, 18] n1 (fun kk out vi wr' => ∃ (j : Nat), j ≤ n1 ∧ kk = n1 - j ∧ vi = .int .i64 j ∧ out = .slice none 0 0 ∧ Same w2 wr')
  case atStart => exact ⟨0, Nat.zero_le _, rfl, rfl, rfl, Chg.refl _ _⟩
  case round =>
    obtain ⟨j, hj, hkk, rfl, rfl, hsm2⟩ := hrel
    have Hk2 := hide hkk
    have Hsm2 := hide hsm2
    clear hkk hsm2
    by_cases hlt2 : j < n1
    · have hjl : j < p.length := by rw [Hp.out]; exact hlt2
      obtain ⟨b1, o1, rfl, hbl, hc0, hc1, hc2⟩ := ((HR1.out.same HWS.out).same Hsm2.out).at_ hjl
      obtain ⟨y1, y2, y3, hy⟩ : ∃ y1 y2 y3, p[j] = (y1, y2, y3) := ⟨_, _, _, rfl⟩
      rw [hy] at hc0 hc1 hc2
      simp only at hc0 hc1 hc2
      clear hy
      have hkq2 := ((HQ.out.same HWS.out).same Hsm2.out).cell
      have hlw2 := ((HQ.out.same HWS.out).same Hsm2.out).lt
      go_wp2_with (go_at_call 84; have hF := HP.out; refine (hF _).mono ?_; rintro e w4 ⟨rfl, hs⟩; have Hs4 := hide hs; clear hs hF)
      go_roundg (n1 - (j + 1))
      case measure => have := Hk2.out; omega
      case rel => exact ⟨j + 1, by omega, rfl, by go_num, rfl, (Hsm2.out.alloc _).same Hs4.out⟩
    · have hje : n1 = j := by omega
      subst hje
      go_wp2_with fail
      go_loopg [7, 37] n2 (fun kk out vi wr => ∃ (i : Nat) (A0 : Option Addr) (c0 : Nat), i ≤ n2 ∧ kk = n2 - i ∧ vi = .int .i64 i ∧ out = .slice A0 (gather (metB ⟨k, a, b, c, d, e, f, g, x, h⟩) s i).length c0 ∧ wr.ownsRow w2.heap.size 3 1 (.slice A0 (gather (metB ⟨k, a, b, c, d, e, f, g, x, h⟩) s i).length c0) (gather (metB ⟨k, a, b, c, d, e, f, g, x, h⟩) s i).length (is (gather (metB ⟨k, a, b, c, d, e, f, g, x, h⟩) s i)) ∧ Same w2 wr)
      case atStart => exact ⟨0, none, 0, Nat.zero_le _, rfl, rfl, rfl, World.ownsRow_nil _ _ _ _, Hsm2.out⟩
      case round =>
        obtain ⟨i, A0, c0, hi, hkk, rfl, rfl, hown, hsm⟩ := hrel
        have Hk := hide hkk
        have Hsm := hide hsm
        have Hown := hide hown
        clear hkk hsm hown
        by_cases hlt : i < n2
        · have hil : i < s.length := by rw [Hs.out]; exact hlt
          obtain ⟨b1, o1, rfl, hbl, hc0, hc1, hc2⟩ := (HR2.out.same Hsm.out).at_ hil
          obtain ⟨y1, y2, y3, hy⟩ : ∃ y1 y2 y3, s[i] = (y1, y2, y3) := ⟨_, _, _, rfl⟩
          have Hyes := hide (fun hf => gather_yes (f := metB ⟨k, a, b, c, d, e, f, g, x, h⟩) hil hf)
          have Hno := hide (fun hf => gather_no (f := metB ⟨k, a, b, c, d, e, f, g, x, h⟩) hil hf)
          have Hlen := hide (gather_len (metB ⟨k, a, b, c, d, e, f, g, x, h⟩) s i)
          have HH := hide (met_any ⟨k, a, b, c, d, e, f, g, x, h⟩ (y1, y2, y3))
          rw [hy] at hc0 hc1 hc2 Hyes Hno
          simp only at hc0 hc1 hc2
          unfold qV agg3 at HH
          simp only [qL] at HH
          have HyL := hide hy
          clear hy
          obtain ⟨ids, hids⟩ : ∃ ids, gather (metB ⟨k, a, b, c, d, e, f, g, x, h⟩) s i = ids := ⟨_, rfl⟩
          rw [hids] at Hown Hyes Hno Hlen ⊢
          clear hids
          have HBl := hide (Blk.new wr 27 #[.int .i64 y1, .int .i64 y2, .int .i64 y3])
          have HQr := hide ((HQ.out.same Hsm.out).alloc (.cells #[.int .i64 y1, .int .i64 y2, .int .i64 y3] 27))
          have hkq := (HQ.out.same Hsm.out).cell
          have hlw := (HQ.out.same Hsm.out).lt
          cases hv : metB ⟨k, a, b, c, d, e, f, g, x, h⟩ (y1, y2, y3)
          · have Hv := hide hv
            have HH := hide (fun w => by have := HH.out w; rw [hv] at this; exact this)
            clear hv
            go_wp2_with (first
              | (go_at_call 84; have hF := HP.out; refine (hF _).mono ?_; rintro e w4 ⟨rfl, hs⟩; have Hs4 := hide hs; have hkq4 := (HQr.out.same hs).cell; have hkl4 := (HBl.out.same hs).cell; clear hs hF)
              | (go_at_call 86; have hF := HH.out; refine (hF _).mono ?_; rintro e w5 ⟨rfl, hs⟩; have Hs5 := hide hs; clear hs hF))
            go_roundg (n2 - (i + 1))
            case measure => have := Hk.out; omega
            case rel =>
              have hs5 : Same wr w5 := (((Chg.refl _ wr).alloc _).same Hs4.out).same Hs5.out
              have hn := Hno.out Hv.out
              exact ⟨i + 1, A0, c0, by omega, rfl, by go_num, by rw [hn], by rw [hn]; exact own_chg Hown.out hs5 (fun _ _ h => h), Hsm.out.trans hs5⟩
          · have Hv := hide hv
            have HH := hide (fun w => by have := HH.out w; rw [hv] at this; exact this)
            clear hv
            have bnd : (ids.length + 1) * 8 ≤ 140737488355328 ∧ ids.length + 1 ≤ 140737488355328 := by have := Hlen.out; have := Hs.out; omega
            have Bnd := hide bnd
            clear bnd
            go_wp2_with (first
              | (go_at_call 84; have hF := HP.out; refine (hF _).mono ?_; rintro e w4 ⟨rfl, hs⟩; have Hs4 := hide hs; have hkq4 := (HQr.out.same hs).cell; have hkl4 := (HBl.out.same hs).cell; have HBl4 := hide (HBl.out.same hs); clear hs hF)
              | (go_at_call 86; have hF := HH.out; refine (hF _).mono ?_; rintro e w5 ⟨rfl, hs⟩; have hs5 : Same wr w5 := (((Chg.refl _ wr).alloc _).same Hs4.out).same hs; have Hs5 := hide hs5; have hkl5 := (HBl4.out.same hs).cell; clear hs hs5 hF)
              | (at_builtin; refine wpList_appS (by rfl) (.tmp 49) (.tmp 52) _ (by rfl) slI (by rfl) (base := w2.heap.size) (by exact own_chg Hown.out (Hs5.out.alloc _) (fun _ _ h => h)) (by rfl) (by rfl) (by exact rd_new w5 _ _) (one_is [y1]) Bnd.out.1 Bnd.out.2 (by have := (Hsm.out.trans Hs5.out).size; simp; omega) ?_; intro A' c' w7 hown hc hb; have Hown7 := hide hown; have Hc7 := hide hc; clear hown hc hb))
            go_roundg (n2 - (i + 1))
            case measure => have := Hk.out; omega
            case rel =>
              have hn := Hyes.out Hv.out
              have hs7 : Same w2 w7 := (Hsm.out.trans Hs5.out).app1 (own_chg Hown.out Hs5.out (fun _ _ h => h)) (Nat.le_refl _) Hc7.out
              refine ⟨i + 1, A', c', by omega, rfl, by go_num, by rw [hn, List.length_append]; rfl, ?_, hs7⟩
              rw [hn, List.length_append, is_append]
              exact Hown7.out
        · have hie : n2 = i := by omega
          subst hie
          clear hi hlt
          obtain ⟨ids, hids⟩ : ∃ ids, gather (metB ⟨k, a, b, c, d, e, f, g, x, h⟩) s n2 = ids := ⟨_, rfl⟩
          have HlenT := hide (gather_len (metB ⟨k, a, b, c, d, e, f, g, x, h⟩) s n2)
          have Hsrt := hide (gather_sorted (f := metB ⟨k, a, b, c, d, e, f, g, x, h⟩) HSs.out n2)
          rw [hids] at HL0 Hown HlenT Hsrt ⊢
          have Hids := hide hids
          clear hids
          have HT := Hsm
          have HownT := Hown
          have hkqT := (HQ.out.same HT.out).cell
          have hkaT := (HA.out.same HT.out).cell
          have hkfT := (HA.out.same HT.out).frozen
          cases cb
          · have HLa := hide (HL0.out rfl)
            clear HL0 HL1
            go_wp2_with (first
              | (go_at_call 87; have hF := HCn.out; refine (hF _).mono ?_; rintro e w8 ⟨rfl, hs⟩; have Hs8 := hide hs; have hka8 := ((HA.out.same HT.out).same hs).cell; have hkf8 := ((HA.out.same HT.out).same hs).frozen; clear hs hF)
              | (go_at_call 88; refine (sortI_any (own_chg HownT.out Hs8.out (fun _ _ h => h)) Hsrt.out (by have := HlenT.out; have := Hs.out; omega)).mono ?_; rintro e w9 ⟨rfl, hs⟩; have Hs9 := hide hs; have hka9 := (((HA.out.same HT.out).same Hs8.out).same hs).cell; have hkf9 := (((HA.out.same HT.out).same Hs8.out).same hs).frozen; clear hs))
            have hs9 : Same wr w9 := Hs8.out.same Hs9.out
            have hb3 := (((HA.out.same HT.out).same hs9).set_ 0 (.int .i64 ids.length)).set_ 1 (.slice A0 ids.length c0)
            obtain ⟨_, _, hv, h1, h2, _, h4, h5, h6⟩ := own_form (own_chg HownT.out hs9 (fun _ _ h => h))
            cases hv
            refine bodyPost_ret (results_cell_row rfl _ _ _ _ _ _ _ rfl hb3 Tryz.underlying41 rfl (by kernel_rfl)) rfl ⟨A0, c0, by rw [Hids.out, HLa.out]; simp, ?_, by rw [HLa.out]; exact h1, h5, ?_⟩
            · rw [HLa.out]
              exact (h2.setCell (p := ⟨w.heap.size + 1, 0, none⟩) (fun e => by have h7 : w2.heap.size ≤ w.heap.size + 1 := h6 _ e; have := Hz2.out; omega) _).setCell (p := ⟨w.heap.size + 1, 1, none⟩) (fun e => by have h7 : w2.heap.size ≤ w.heap.size + 1 := h6 _ e; have := Hz2.out; omega) _
            · exact (((HSw.out.same HT.out).same hs9).setCell (p := ⟨w.heap.size + 1, 0, none⟩) (.inr (by simp)) _).setCell (p := ⟨w.heap.size + 1, 1, none⟩) (.inr (by simp)) _
          · have HLb := hide (HL1.out rfl)
            clear HL0 HL1
            go_wp2_with (go_at_call 87; have hF := HCn.out; refine (hF _).mono ?_; rintro e w8 ⟨rfl, hs⟩; have Hs8 := hide hs; have hka8 := ((HA.out.same HT.out).same hs).cell; have hkf8 := ((HA.out.same HT.out).same hs).frozen; clear hs hF)
            have hb3 := (((HA.out.same HT.out).same Hs8.out).set_ 0 (.int .i64 ids.length)).set_ 1 (.slice none 0 0)
            refine bodyPost_ret (results_cell_row rfl _ _ _ _ _ _ _ rfl hb3 Tryz.underlying41 rfl (by kernel_rfl)) rfl ⟨none, 0, by rw [Hids.out, HLb.out]; simp, by rw [HLb.out]; exact Rd.nil _ _, by rw [HLb.out]; exact Nat.le_refl _, Nat.zero_le _, ?_⟩
            exact (((HSw.out.same HT.out).same Hs8.out).setCell (p := ⟨w.heap.size + 1, 0, none⟩) (.inr (by simp)) _).setCell (p := ⟨w.heap.size + 1, 1, none⟩) (.inr (by simp)) _
theorem plain_any {A1 A2 : Option Addr} {c1 c2 : Nat} {p s : List P3} (q : Qy) (w : World) (hc : checkE q = 0) (h1 : Row3 w A1 p.length c1 p) (h2 : Row3 w A2 s.length c2 s) (hp : p.length ≤ 1048576) (hs : s.length ≤ 1048576) (sp : Srt p) (ss : Srt s) :
    Calls Tryz.prog 54 #[qV q, .slice A1 p.length c1, .slice A2 s.length c2] w (PlainEnd w (idsOf q p s).length (lstOf q p s)) := by
  cases hpb : pointsB q
  · exact plainS_any q w hc hpb h1 h2 hp hs sp ss
  · exact plainP_any q w hc hpb h1 h2 hp hs sp ss
end Go.Proofs.YtlimpepdelpogaaGreatDoor
