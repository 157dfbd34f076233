/-
  The law's own Few: operations in memory of their own, each list of ids cut. Condition: at most 64 are taken.
-/
import Derived.Test.YtenkdjfikppkdaaGreatLnH
import Derived.Test.YtenkdjfikppkdaaGreatLnI
import Derived.Test.YtenkdjfikppkdaaGreatQt
namespace Go.Proofs.YtenkdjfikppkdaaGreat
open Go.RowKit Go.Al
set_option linter.unusedVariables false

/-- an operation without its list's place -/
def strip (d : Dd) : Dd := { d with t := { d.t with A := none, cp := 0 } }
/-- .. its ids cut -/
def cutD (d : Dd) : Dd := { d with t := { d.t with A := none, cp := 0, ids := d.t.ids.take 20 } }
/-- .. with a list elsewhere -/
def laidD (d : Dd) (A : Option Addr) (c : Nat) : Dd := { d with t := { d.t with A := A, cp := c, ids := d.t.ids.take 20 } }
theorem strip_laid (d : Dd) (A : Option Addr) (c : Nat) : strip (laidD d A c) = cutD d := rfl
def flatD (l : List Dd) : List Value := l.flatMap ddL
theorem flatD_len : ∀ l : List Dd, (flatD l).length = l.length * 29
  | [] => rfl
  | d :: r => by
    have := flatD_len r
    unfold flatD at this ⊢
    rw [List.flatMap_cons, List.length_append, ddL_length, this, List.length_cons]
    omega
theorem flatD_snoc (l : List Dd) (d : Dd) : flatD (l ++ [d]) = flatD l ++ ddL d := by simp [flatD]
theorem flatD_get : ∀ {l : List Dd} {i : Nat} (h : i < l.length) (j : Nat), j < 29 → (flatD l)[i * 29 + j]? = (ddL l[i])[j]?
  | d :: r, 0, h, j, hj => by
    unfold flatD
    rw [List.flatMap_cons, Nat.zero_mul, Nat.zero_add, List.getElem?_append_left (by rw [ddL_length]; exact hj)]
    rfl
  | d :: r, i + 1, h, j, hj => by
    have := flatD_get (l := r) (i := i) (by simpa using h) j hj
    unfold flatD at this ⊢
    rw [List.flatMap_cons, List.getElem?_append_right (by rw [ddL_length]; omega), ddL_length, show (i + 1) * 29 + j - 29 = i * 29 + j by omega, this]
    rfl
theorem one_flatD (l : List Dd) : ∀ u ∈ flatD l, u.oneCell' = true := by
  intro u hu
  obtain ⟨d, _, hu⟩ := List.mem_flatMap.1 hu
  exact one_ddL d u hu
theorem slD : SlTy Tryz.prog 22 45 29 240 := SlTy.of (z := ddV ⟨0, 0, 0, 0, 0, 0, ⟨0, ⟨0, (0, 0, 0), (0, 0, 0)⟩, ⟨0, 0, 0, 0, 0, 0, 0, 0, 0, 0⟩⟩, ⟨0, false, false, 0, none, 0, []⟩⟩) Tryz.underlying22 (by kernel_rfl) rfl (by decide)
theorem infoD3 : (Tryz.prog.info? 45).map (fun i => (i.zero, i.size, i.bytes)) = some (some (ddV ⟨0, 0, 0, 0, 0, 0, ⟨0, ⟨0, (0, 0, 0), (0, 0, 0)⟩, ⟨0, 0, 0, 0, 0, 0, 0, 0, 0, 0⟩⟩, ⟨0, false, false, 0, none, 0, []⟩⟩), 29, 240) := by kernel_rfl
theorem ddL_set (d : Dd) (A : Option Addr) (c : Nat) : (ddL d).set 28 (.slice A (d.t.ids.take 20).length c) = ddL (laidD d A c) := rfl
theorem dds_own {w : World} {base c : Nat} {A : Option Addr} {l : List Dd} (h : w.ownsRow base 45 29 (.slice A l.length c) l.length (flatD l)) (hr : ∀ d ∈ l, RpAt w d.t) : Dds w A l := by
  refine ⟨fun hn => ?_, hr⟩
  obtain ⟨A', c', hv, h1, h2, h3, h4, h5, h6⟩ := own_form h
  cases hv
  have hne : flatD l ≠ [] := fun e => by
    have := flatD_len l
    rw [e] at this
    obtain ⟨x, r, rfl⟩ := List.exists_cons_of_ne_nil hn
    simp at this
  obtain ⟨b, off, e, hc⟩ := h2 hne
  obtain ⟨b', hb', hlt⟩ := h2.lt hne
  have hbb : b' = b := by rw [e] at hb'; simp [blkOf] at hb'; exact hb'.symm
  subst hbb
  refine ⟨b', off, e, hlt, fun i hi j v hv => ?_⟩
  have hj : j < 29 := by have := (List.getElem?_eq_some_iff.1 hv).1; rw [ddL_length] at this; exact this
  have := hc (i * 29 + j) v (by rw [flatD_get hi j hj]; exact hv)
  rw [← Nat.add_assoc] at this
  exact this

theorem rangeAt_own {w : World} {g : Nat} {t : TypeId} {L : List Value} {v : Value} (h : Blk w g t (L.toArray.setIfInBounds 28 v)) : w.rangeAt g 0 (L.set 28 v) := fun j x hx => by
  rw [Nat.zero_add, h.cell]
  simpa using hx
/-- one more operation, laid -/
theorem few_step {w wr w5 w8 : World} {l l' : List Dd} {d : Dd} {i n k q q2 : Nat} {A0 A3 A4 : Option Addr} {c0 c3 c4 : Nat} {fl L : List Value} {ob : Obj} (hk : k ≤ 64) (hdr : RpAt wr d.t) (htk : l.take (i + 1) = l.take i ++ [d]) (hq : (d.t.ids.take 20).length = q) (hq2 : q2 = q)
    (hsm : Same w wr) (hs5 : Same wr w5) (hown3 : w5.ownsRow (wr.heap.size + 1) 3 1 (.slice A3 (0 + q) c3) (0 + q) ([] ++ is (d.t.ids.take 20))) (hown : wr.ownsRow w.heap.size 45 29 (.slice A0 i c0) i fl)
    (hown8 : w8.ownsRow w.heap.size 45 29 (.slice A4 (i + 1) c4) (i + 1) (fl ++ L.set 28 (.slice A3 q2 c3))) (hc8 : Chg (fun k => blkOf A0 = some k) ((w5.setCell ⟨wr.heap.size, 28, none⟩ (.slice A3 q2 c3)).alloc ob) w8)
    (hb8 : blkOf A4 = blkOf A0 ∨ blkOf A4 = some ((w5.setCell ⟨wr.heap.size, 28, none⟩ (.slice A3 q2 c3)).alloc ob).heap.size) (hrp : ∀ d ∈ l', RpAt wr d.t) (hbl : ∀ d ∈ l', ∀ b, blkOf d.t.A = some b → w.heap.size ≤ b ∧ b < wr.heap.size ∧ blkOf A0 ≠ some b)
    (hmap : l'.map strip = (l.take i).map cutD) (hll : l'.length = i) (hfl : flatD l' = fl) (hL : ddL d = L) (hin : i + 1 ≤ n) (hik : i + 1 ≤ k) (vi : Value) (hvi : vi = .int .i64 ((i + 1 : Nat) : Int)) :
    ∃ (i' : Nat) (A' : Option Addr) (c' : Nat) (m : List Dd), i' ≤ n ∧ i' ≤ k ∧ n - (i + 1) = n - i' ∧ vi = .int .i64 i' ∧ Value.slice A4 (i + 1) c4 = .slice A' i' c' ∧ m.length = i' ∧ w8.ownsRow w.heap.size 45 29 (.slice A' m.length c') m.length (flatD m) ∧ (∀ d ∈ m, RpAt w8 d.t) ∧ (∀ d ∈ m, ∀ b, blkOf d.t.A = some b → w.heap.size ≤ b ∧ b < w8.heap.size ∧ blkOf A' ≠ some b) ∧ m.map strip = (l.take i').map cutD ∧ Same w w8 := by
  subst hvi
  subst hq2
  rw [Nat.zero_add] at hown3
  have hl8 : flatD (l' ++ [laidD d A3 c3]) = fl ++ L.set 28 (.slice A3 q2 c3) := by
    rw [flatD_snoc, hfl, ← ddL_set, hL, hq]
  obtain ⟨_, _, hv, h1, h2, _, _, h5, h6⟩ := own_form hown3
  cases hv
  have hA0 : ∀ b, blkOf A0 = some b → w.heap.size ≤ b ∧ b < wr.heap.size := fun b hb => hown.lt b (by rw [ownBlock_slice]; exact hb)
  have hA3 : ∀ b, blkOf A3 = some b → wr.heap.size + 1 ≤ b ∧ b < w5.heap.size := fun b hb => hown3.lt b (by rw [ownBlock_slice]; exact hb)
  have hz : ((w5.setCell ⟨wr.heap.size, 28, none⟩ (.slice A3 q2 c3)).alloc ob).heap.size = w5.heap.size + 1 := by simp
  have hz8 := hc8.size
  have z5 := hs5.size
  have z1 := hsm.size
  have hkeep : ∀ (A : Option Addr) (xs : List Value), Rd w5 A xs → (∀ b, blkOf A = some b → b ≠ wr.heap.size ∧ blkOf A0 ≠ some b) → Rd w8 A xs := fun A xs hr hA =>
    ((hr.setCell (p := ⟨wr.heap.size, 28, none⟩) (fun e => (hA _ e).1 rfl) _).alloc ob).chg hc8 (fun b hb _ e => (hA b hb).2 e)
  refine ⟨i + 1, A4, c4, l' ++ [laidD d A3 c3], hin, hik, rfl, rfl, rfl, by simp [hll], ?_, ?_, ?_, ?_, ?_⟩
  · rw [List.length_append, hll, hl8]
    exact hown8
  · intro x hx
    rw [List.mem_append] at hx
    rcases hx with hx | hx
    · exact (hrp x hx).keep (hkeep _ _ ((hrp x hx).rd.same hs5) fun b hb => by have := hbl x hx b hb; exact ⟨by omega, this.2.2⟩)
    · simp at hx
      subst hx
      refine ⟨hkeep A3 _ h2 fun b hb => by have := hA3 b hb; exact ⟨by omega, fun e => by have := hA0 b e; omega⟩, ?_, h5⟩
      show (d.t.ids.take 20).length ≤ c3
      rw [hq]; exact h1
  · intro x hx b hb
    rw [List.mem_append] at hx
    rcases hx with hx | hx
    · have := hbl x hx b hb
      refine ⟨this.1, by omega, ?_⟩
      rcases hb8 with h | h
      · rw [h]; exact this.2.2
      · rw [h]; intro e; simp at e; omega
    · simp at hx
      subst hx
      have h3 := hA3 b hb
      refine ⟨by omega, by omega, ?_⟩
      rcases hb8 with h | h
      · rw [h]; intro e; have := hA0 b e; omega
      · rw [h]; intro e; simp at e; omega
  · rw [List.map_append, hmap, htk, List.map_append]
    rfl
  · have h3 : Chg (fun k => w.heap.size ≤ k) w ((w5.setCell ⟨wr.heap.size, 28, none⟩ (.slice A3 q2 c3)).alloc ob) := ((Same.trans hsm hs5).to.setCell (p := ⟨wr.heap.size, 28, none⟩) (.inl z1) _).alloc ob
    exact Chg.fresh (h3.trans hc8 fun b _ e => (hA0 b e).1) fun _ h => h

/-- how Few ends: operations alike, all in memory of the call's own -/
def FewEnd (w : World) (src : List Dd) (e : Ending) (w' : World) : Prop :=
  ∃ A c l, e = .returned (.slice A l.length c) ∧ w'.ownsRow w.heap.size 45 29 (.slice A l.length c) l.length (flatD l) ∧ (∀ d ∈ l, RpAt w' d.t) ∧ (∀ d ∈ l, ∀ b, blkOf d.t.A = some b → w.heap.size ≤ b ∧ b < w'.heap.size ∧ blkOf A ≠ some b) ∧ l.map strip = src.map cutD ∧ Same w w'

set_option maxRecDepth 100000 in
set_option maxHeartbeats 16000000 in
theorem few_any {A : Option Addr} {c : Nat} {l : List Dd} (k : Nat) (w : World) (h : Dds w A l) (hl : l.length ≤ maxLen) (hk : k ≤ 64) :
    Calls Tryz.prog 5 #[.slice A l.length c, .int .i64 k] w (FewEnd w (l.take k)) := by
  have H := hide h
  unfold maxLen at hl
  obtain ⟨n, hn⟩ : ∃ n, l.length = n := ⟨_, rfl⟩
  rw [hn] at hl ⊢
  have Hn := hide hn
  have Hk64 := hide hk
  have hk0 : (0 : Int) ≤ (k : Int) := by omega
  have hk1 : (k : Int) ≤ 64 := by omega
  clear h hn
  go_enter Tryz.func5, Tryz.ntmps5
  go_wp2_with fail
  go_loopg [5, 6, 7, 8] n (fun kk out vi u1 u2 wr => ∃ (i : Nat) (A0 : Option Addr) (c0 : Nat) (l' : List Dd), i ≤ n ∧ i ≤ k ∧ kk = n - i ∧ vi = .int .i64 i ∧ out = .slice A0 i c0 ∧ l'.length = i ∧ wr.ownsRow w.heap.size 45 29 (.slice A0 l'.length c0) l'.length (flatD l') ∧ (∀ d ∈ l', RpAt wr d.t) ∧ (∀ d ∈ l', ∀ b, blkOf d.t.A = some b → w.heap.size ≤ b ∧ b < wr.heap.size ∧ blkOf A0 ≠ some b) ∧ l'.map strip = (l.take i).map cutD ∧ Same w wr)
  case atStart => exact ⟨0, _, _, [], Nat.zero_le _, Nat.zero_le _, rfl, rfl, rfl, rfl, own_lit w w.heap.size _ 29 #[] 0 (Nat.le_refl _) (by decide) rfl, by simp, by simp, by simp, (Chg.refl _ w).alloc _⟩
  case round =>
    obtain ⟨i, A0, c0, l', hi, hik, hkk, rfl, rfl, hll, hown, hrp, hbl, hmap, hsm⟩ := hrel
    have Hk := hide hkk
    have Hsm := hide hsm
    have Hown := hide hown
    have Hrp := hide hrp
    have Hbl := hide hbl
    have Hmap := hide hmap
    have Hll := hide hll
    clear hkk hsm hown hrp hbl hmap hll
    by_cases hlt : i < n
    · by_cases hlk : i < k
      · have hil : i < l.length := by rw [Hn.out]; exact hlt
        obtain ⟨b, off, rfl, hbb, hra, hra2⟩ := (H.out.same Hsm.out).at_ hil
        have Hra := hide hra
        have Hdr := hide hra2
        have Htk := hide (List.take_succ_eq_append_getElem (l := l) hil)
        obtain ⟨d, hdd⟩ : ∃ d, l[i] = d := ⟨_, rfl⟩
        rw [hdd] at Hra Hdr Htk
        have h28 : (ddL d)[28]? = some (.slice d.t.A d.t.ids.length d.t.cp) := rfl
        have Hlen := hide (ddL_length d)
        have Hon := hide (one_ddL d)
        have Hset := hide (fun A c => ddL_set d A c)
        have Hlen2 := hide (fun A c => ddL_length (laidD d A c))
        have HBl := hide (Blk.new wr 45 (ddL d).toArray)
        have hlm : d.t.ids.length ≤ maxLen := Nat.le_trans Hdr.out.le Hdr.out.cp
        unfold maxLen at hlm
        obtain ⟨m, hm⟩ : ∃ m, d.t.ids.length = m := ⟨_, rfl⟩
        have hcp := Hdr.out.le
        rw [hm] at h28 hlm hcp
        have Hm := hide hm
        have hcut := cut_hi (P := Tryz.prog) slI d.t.A m d.t.cp .i64 20 20 rfl
        have Hcut := hide hcut
        have Hrd0 := hide Hdr.out.rd
        obtain ⟨At, hAt⟩ : ∃ At, d.t.A = At := ⟨_, rfl⟩
        obtain ⟨ct, hct⟩ : ∃ ct, d.t.cp = ct := ⟨_, rfl⟩
        rw [hAt, hct] at h28 Hcut
        rw [hct] at hcp
        rw [hAt] at Hrd0
        clear hra hra2 hdd hm hcut hAt hct
        have hll := Hll.out
        obtain ⟨fl, hfl⟩ : ∃ fl, flatD l' = fl := ⟨_, rfl⟩
        have Hfl := hide hfl
        rw [hfl] at Hown
        rw [hll] at Hown
        clear hfl hll
        generalize hL : ddL d = L at *
        have HL := hide hL
        clear hL
        have hO : ((wr.alloc (.cells L.toArray 45)).alloc (.cells #[] 3)).ownsRow (wr.heap.size + 1) 3 1 (.slice (some ⟨wr.heap.size + 1, 0, none⟩) 0 0) 0 [] := by
          have h := own_lit (wr.alloc (.cells L.toArray 45)) (wr.heap.size + 1) 3 1 #[] 0 (by simp) (by decide) rfl
          rw [World.size_alloc] at h
          exact h
        have HO := hide hO
        clear hO
        by_cases h20 : 20 < m
        · have hc20 := Hcut.out (by omega)
          have htk : (d.t.ids.take 20).length = 20 := by rw [List.length_take, Hm.out]; omega
          have Htl := hide htk
          have Hr20 := hide (show Rd wr At (is (d.t.ids.take 20)) by rw [← is_take]; exact Hrd0.out.take 20)
          clear htk Hcut
          go_wp2_with (first
            | (refine wpList_ld (by rfl) 45 _ rfl b (off + i * 29) rfl L _ Hra.out Tryz.underlying45 rfl (by rw [Hlen.out]; exact infoDeed) ?_)
            | (refine wpList_st (by rfl) 45 _ _ rfl rfl L rfl _ _ (by rw [Hlen.out]; exact infoDeed) (by rw [Hlen.out]; rfl) Hon.out ?_)
            | (at_builtin; refine wpList_appS (by rfl) (.tmp 34) (.tmp 35) _ (by rfl) slI (by rfl) (base := wr.heap.size + 1) (by exact HO.out) (by rfl) (show (is (d.t.ids.take 20)).length = 20 * 1 from by rw [is_length, Htl.out]) (by exact (Hr20.out.alloc _).alloc _) (one_is _) (by omega) (by omega) (by simp) ?_; intro A3 c3 w5 hown hc hb; have Hown3 := hide hown; have Hs5 : Hid (Same wr w5) := hide (Chg.fresh (S := fun k => wr.heap.size < k) ((((Chg.refl (fun k => wr.heap.size < k) wr).alloc _).alloc _).trans hc (fun k _ e => by simp [blkOf] at e; omega)) (fun _ h => Nat.le_of_lt h)); have hb5 : Blk w5 wr.heap.size 45 L.toArray := (HBl.out.alloc _).chg hc (fun e => by simp [blkOf] at e); have HB5 := hide hb5; have hk5 : w5.cell? ⟨wr.heap.size, 28, none⟩ = some (.slice At m ct) := (by rw [hb5.cell]; simpa using h28); have hf5 := hb5.frozen 28; clear hown hc hb hb5)
            | (refine wpList_ld (by rfl) 45 _ rfl wr.heap.size 0 rfl (L.set 28 (.slice A3 (0 + 20) c3)) _ (rangeAt_own (HB5.out.set_ 28 (.slice A3 (0 + 20) c3))) Tryz.underlying45 rfl (by rw [List.length_set, Hlen.out]; exact infoDeed) ?_)
            | (refine wpList_bs1 (by rfl) 22 45 _ rfl (L.set 28 (.slice A3 (0 + 20) c3)) rfl _ 29 240 Tryz.underlying22 infoD3 (by rw [List.length_set, Hlen.out]) (by decide) (by decide) ?_)
            | (at_builtin; refine wpList_appS (by rfl) (.tmp 40) (.tmp 42) _ (by rfl) slD (by rfl) (base := w.heap.size) (by exact own_chg Hown.out ((((Same.to Hs5.out : Chg (fun k => k = wr.heap.size) wr w5)).setCell (p := ⟨wr.heap.size, 28, none⟩) (.inl rfl) _).alloc _) (fun b' hb' e => by have := (Hown.out.lt b' hb').2; omega)) (by rfl) (show (L.set 28 (.slice A3 (0 + 20) c3)).length = 1 * 29 from by rw [List.length_set, Hlen.out]) (by exact rd_lit _ _ _ _ _ (by simp)) (by intro u hu; rcases List.mem_or_eq_of_mem_set hu with h | h; exact Hon.out u h; rw [h]; rfl) (by have := Hk64.out; omega) (by have := Hk64.out; omega) (by have := (Hsm.out.trans Hs5.out).size; simp; omega) ?_; intro A4 c4 w8 hown hc hb; have Hown8 := hide hown; have HC8 := hide hc; have HB8 := hide hb; clear hown hc hb))
          go_roundg (n - (i + 1))
          case measure => have := Hk.out; omega
          case rel =>
            exact few_step Hk64.out Hdr.out Htk.out (by rw [Htl.out]) rfl Hsm.out Hs5.out Hown3.out Hown.out Hown8.out HC8.out HB8.out Hrp.out Hbl.out Hmap.out Hll.out Hfl.out HL.out (by omega) (by omega) _ (by go_num)
        · have htk : d.t.ids.take 20 = d.t.ids := List.take_of_length_le (by rw [Hm.out]; omega)
          have Htl := hide (show (d.t.ids.take 20).length = m by rw [htk, Hm.out])
          have Hr20 := hide (show Rd wr At (is (d.t.ids.take 20)) by rw [htk]; exact Hrd0.out)
          clear htk Hcut
          go_wp2_with (first
            | (refine wpList_ld (by rfl) 45 _ rfl b (off + i * 29) rfl L _ Hra.out Tryz.underlying45 rfl (by rw [Hlen.out]; exact infoDeed) ?_)
            | (refine wpList_st (by rfl) 45 _ _ rfl rfl L rfl _ _ (by rw [Hlen.out]; exact infoDeed) (by rw [Hlen.out]; rfl) Hon.out ?_)
            | (at_builtin; refine wpList_appS (by rfl) (.tmp 34) (.tmp 35) _ (by rfl) slI (by rfl) (base := wr.heap.size + 1) (by exact HO.out) (by rfl) (show (is (d.t.ids.take 20)).length = m * 1 from by rw [is_length, Htl.out, Nat.mul_one]) (by exact (Hr20.out.alloc _).alloc _) (one_is _) (by omega) (by omega) (by simp) ?_; intro A3 c3 w5 hown hc hb; have Hown3 := hide hown; have Hs5 : Hid (Same wr w5) := hide (Chg.fresh (S := fun k => wr.heap.size < k) ((((Chg.refl (fun k => wr.heap.size < k) wr).alloc _).alloc _).trans hc (fun k _ e => by simp [blkOf] at e; omega)) (fun _ h => Nat.le_of_lt h)); have hb5 : Blk w5 wr.heap.size 45 L.toArray := (HBl.out.alloc _).chg hc (fun e => by simp [blkOf] at e); have HB5 := hide hb5; have hk5 : w5.cell? ⟨wr.heap.size, 28, none⟩ = some (.slice At m ct) := (by rw [hb5.cell]; simpa using h28); have hf5 := hb5.frozen 28; clear hown hc hb hb5)
            | (refine wpList_ld (by rfl) 45 _ rfl wr.heap.size 0 rfl (L.set 28 (.slice A3 m c3)) _ (rangeAt_own (HB5.out.set_ 28 (.slice A3 m c3))) Tryz.underlying45 rfl (by rw [List.length_set, Hlen.out]; exact infoDeed) ?_)
            | (refine wpList_bs1 (by rfl) 22 45 _ rfl (L.set 28 (.slice A3 m c3)) rfl _ 29 240 Tryz.underlying22 infoD3 (by rw [List.length_set, Hlen.out]) (by decide) (by decide) ?_)
            | (at_builtin; refine wpList_appS (by rfl) (.tmp 40) (.tmp 42) _ (by rfl) slD (by rfl) (base := w.heap.size) (by exact own_chg Hown.out ((((Same.to Hs5.out : Chg (fun k => k = wr.heap.size) wr w5)).setCell (p := ⟨wr.heap.size, 28, none⟩) (.inl rfl) _).alloc _) (fun b' hb' e => by have := (Hown.out.lt b' hb').2; omega)) (by rfl) (show (L.set 28 (.slice A3 m c3)).length = 1 * 29 from by rw [List.length_set, Hlen.out]) (by exact rd_lit _ _ _ _ _ (by simp)) (by intro u hu; rcases List.mem_or_eq_of_mem_set hu with h | h; exact Hon.out u h; rw [h]; rfl) (by have := Hk64.out; omega) (by have := Hk64.out; omega) (by have := (Hsm.out.trans Hs5.out).size; simp; omega) ?_; intro A4 c4 w8 hown hc hb; have Hown8 := hide hown; have HC8 := hide hc; have HB8 := hide hb; clear hown hc hb))
          go_roundg (n - (i + 1))
          case measure => have := Hk.out; omega
          case rel =>
            exact few_step Hk64.out Hdr.out Htk.out (by rw [Htl.out]) rfl Hsm.out Hs5.out Hown3.out Hown.out Hown8.out HC8.out HB8.out Hrp.out Hbl.out Hmap.out Hll.out Hfl.out HL.out (by omega) (by omega) _ (by go_num)
      · have hie : i = k := by omega
        subst hie
        go_wp2_with fail
        go_ret
        refine ⟨A0, c0, l', by rw [Hll.out]; rfl, Hown.out, Hrp.out, Hbl.out, Hmap.out, Hsm.out⟩
    · have hie : n = i := by omega
      subst hie
      go_wp2_with fail
      go_ret
      refine ⟨A0, c0, l', by rw [Hll.out]; rfl, Hown.out, Hrp.out, Hbl.out, ?_, Hsm.out⟩
      rw [Hmap.out, List.take_of_length_le (by rw [Hn.out]; omega), List.take_of_length_le (by rw [Hn.out]; omega)]
end Go.Proofs.YtenkdjfikppkdaaGreat
