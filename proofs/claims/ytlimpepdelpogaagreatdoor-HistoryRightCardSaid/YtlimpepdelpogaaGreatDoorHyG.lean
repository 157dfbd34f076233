/-
  Events in memory; the law's own Few: events in memory of their own, each list of ids cut. No conditions.
-/
import Derived.Test.YtlimpepdelpogaaGreatDoorStC
import Derived.Test.YtlimpepdelpogaaGreatDoorQyF

import Derived.Test.YtlimpepdelpogaaGreatDoorIn
import Derived.Test.YtlimpepdelpogaaGreatDoorMy
namespace Go.Proofs.YtlimpepdelpogaaGreatDoor
open Go.RowKit Go.Al
set_option linter.unusedVariables false
set_option maxHeartbeats 16000000
set_option maxRecDepth 100000
/-- a slice of events: 27 cells each, each reply's list as told -/
structure Evs (w : World) (A : Option Addr) (l : List Ev) : Prop where
  row : l ≠ [] → ∃ b off, A = some ⟨b, off, none⟩ ∧ b < w.heap.size ∧ ∀ i (h : i < l.length), w.rangeAt b (off + i * 27) (evL l[i])
  rep : ∀ d ∈ l, RpAt w d.t
theorem Evs.same {w w' : World} {A : Option Addr} {l : List Ev} (h : Evs w A l) (hs : Same w w') : Evs w' A l :=
  ⟨fun hn => by
    obtain ⟨b, off, e, hb, hc⟩ := h.row hn
    exact ⟨b, off, e, Nat.lt_of_lt_of_le hb hs.size, fun i hi => rangeAt_same (hc i hi) hs⟩, fun d hd => (h.rep d hd).same hs⟩
theorem Evs.at_ {w : World} {A : Option Addr} {l : List Ev} (h : Evs w A l) {i : Nat} (hi : i < l.length) :
    ∃ b off, A = some ⟨b, off, none⟩ ∧ b < w.heap.size ∧ w.rangeAt b (off + i * 27) (evL l[i]) ∧ RpAt w l[i].t := by
  obtain ⟨b, off, e, hb, hc⟩ := h.row (fun e => by rw [e] at hi; simp at hi)
  exact ⟨b, off, e, hb, hc i hi, h.rep _ (List.getElem_mem hi)⟩
theorem infoEvt : (Tryz.prog.info? 45).map (·.size) = some 27 := by kernel_rfl
theorem one_evL (d : Ev) : ∀ u ∈ evL d, u.oneCell' = true := by
  intro u hu
  simp only [evL, rqL, cgL, qL, rpL, List.cons_append, List.nil_append, List.mem_cons, List.not_mem_nil, or_false] at hu
  rcases hu with h | h | h | h | h | h | h | h | h | h | h | h | h | h | h | h | h | h | h | h | h | h | h | h | h | h | h <;> (subst h; rfl)
/-- an operation without its list's place -/
def stripE (d : Ev) : Ev := { d with t := { d.t with A := none, cp := 0 } }
/-- .. its ids cut -/
def cutE (d : Ev) : Ev := { d with t := { d.t with A := none, cp := 0, ids := d.t.ids.take 30 } }
/-- .. with a list elsewhere -/
def laidE (d : Ev) (A : Option Addr) (c : Nat) : Ev := { d with t := { d.t with A := A, cp := c, ids := d.t.ids.take 30 } }
def flatE (l : List Ev) : List Value := l.flatMap evL
theorem flatE_len : ∀ l : List Ev, (flatE l).length = l.length * 27
  | [] => rfl
  | d :: r => by
    have := flatE_len r
    unfold flatE at this ⊢
    rw [List.flatMap_cons, List.length_append, evL_length, this, List.length_cons]
    omega
theorem flatE_snoc (l : List Ev) (d : Ev) : flatE (l ++ [d]) = flatE l ++ evL d := by simp [flatE]
theorem flatE_get : ∀ {l : List Ev} {i : Nat} (h : i < l.length) (j : Nat), j < 27 → (flatE l)[i * 27 + j]? = (evL l[i])[j]?
  | d :: r, 0, h, j, hj => by
    unfold flatE
    rw [List.flatMap_cons, Nat.zero_mul, Nat.zero_add, List.getElem?_append_left (by rw [evL_length]; exact hj)]
    rfl
  | d :: r, i + 1, h, j, hj => by
    have := flatE_get (l := r) (i := i) (by simpa using h) j hj
    unfold flatE at this ⊢
    rw [List.flatMap_cons, List.getElem?_append_right (by rw [evL_length]; omega), evL_length, show (i + 1) * 27 + j - 27 = i * 27 + j by omega, this]
    rfl
theorem slEv : SlTy Tryz.prog 22 45 27 224 := SlTy.of (z := evV ⟨0, 0, 0, 0, ⟨0, ⟨0, (0, 0, 0), (0, 0, 0)⟩, ⟨0, 0, 0, 0, 0, 0, 0, 0, 0, 0⟩⟩, ⟨0, false, false, 0, none, 0, []⟩⟩) Tryz.underlying22 (by kernel_rfl) rfl (by decide)
theorem infoE3 : (Tryz.prog.info? 45).map (fun i => (i.zero, i.size, i.bytes)) = some (some (evV ⟨0, 0, 0, 0, ⟨0, ⟨0, (0, 0, 0), (0, 0, 0)⟩, ⟨0, 0, 0, 0, 0, 0, 0, 0, 0, 0⟩⟩, ⟨0, false, false, 0, none, 0, []⟩⟩), 27, 224) := by kernel_rfl
theorem evL_set (d : Ev) (A : Option Addr) (c : Nat) : (evL d).set 26 (.slice A (d.t.ids.take 30).length c) = evL (laidE d A c) := rfl
theorem evs_own {w : World} {base c : Nat} {A : Option Addr} {l : List Ev} (h : w.ownsRow base 45 27 (.slice A l.length c) l.length (flatE l)) (hr : ∀ d ∈ l, RpAt w d.t) : Evs w A l := by
  refine ⟨fun hn => ?_, hr⟩
  obtain ⟨A', c', hv, h1, h2, h3, h4, h5, h6⟩ := own_form h
  cases hv
  have hne : flatE l ≠ [] := fun e => by
    have := flatE_len l
    rw [e] at this
    obtain ⟨x, r, rfl⟩ := List.exists_cons_of_ne_nil hn
    simp at this
  obtain ⟨b, off, e, hc⟩ := h2 hne
  obtain ⟨b', hb', hlt⟩ := h2.lt hne
  have hbb : b' = b := by rw [e] at hb'; simp [blkOf] at hb'; exact hb'.symm
  subst hbb
  refine ⟨b', off, e, hlt, fun i hi j v hv => ?_⟩
  have hj : j < 27 := by have := (List.getElem?_eq_some_iff.1 hv).1; rw [evL_length] at this; exact this
  have := hc (i * 27 + j) v (by rw [flatE_get hi j hj]; exact hv)
  rw [← Nat.add_assoc] at this
  exact this
theorem rangeAt_own {w : World} {g : Nat} {t : TypeId} {L : List Value} {v : Value} (h : Blk w g t (L.toArray.setIfInBounds 26 v)) : w.rangeAt g 0 (L.set 26 v) := fun j x hx => by
  rw [Nat.zero_add, h.cell]
  simpa using hx
/-- one more operation, laid -/
theorem fewE_step {w wr w5 w8 : World} {l l' : List Ev} {d : Ev} {i n k q q2 : Nat} {A0 A3 A4 : Option Addr} {c0 c3 c4 : Nat} {fl L : List Value} {ob : Obj} (hk : k ≤ 64) (hdr : RpAt wr d.t) (htk : l.take (i + 1) = l.take i ++ [d]) (hq : (d.t.ids.take 30).length = q) (hq2 : q2 = q)
    (hsm : Same w wr) (hs5 : Same wr w5) (hown3 : w5.ownsRow (wr.heap.size + 1) 3 1 (.slice A3 (0 + q) c3) (0 + q) ([] ++ is (d.t.ids.take 30))) (hown : wr.ownsRow w.heap.size 45 27 (.slice A0 i c0) i fl)
    (hown8 : w8.ownsRow w.heap.size 45 27 (.slice A4 (i + 1) c4) (i + 1) (fl ++ L.set 26 (.slice A3 q2 c3))) (hc8 : Chg (fun k => blkOf A0 = some k) ((w5.setCell ⟨wr.heap.size, 26, none⟩ (.slice A3 q2 c3)).alloc ob) w8)
    (hb8 : blkOf A4 = blkOf A0 ∨ blkOf A4 = some ((w5.setCell ⟨wr.heap.size, 26, none⟩ (.slice A3 q2 c3)).alloc ob).heap.size) (hrp : ∀ d ∈ l', RpAt wr d.t) (hbl : ∀ d ∈ l', ∀ b, blkOf d.t.A = some b → w.heap.size ≤ b ∧ b < wr.heap.size ∧ blkOf A0 ≠ some b)
    (hmap : l'.map stripE = (l.take i).map cutE) (hll : l'.length = i) (hfl : flatE l' = fl) (hL : evL d = L) (hin : i + 1 ≤ n) (hik : i + 1 ≤ k) (vi : Value) (hvi : vi = .int .i64 ((i + 1 : Nat) : Int)) :
    ∃ (i' : Nat) (A' : Option Addr) (c' : Nat) (m : List Ev), i' ≤ n ∧ i' ≤ k ∧ n - (i + 1) = n - i' ∧ vi = .int .i64 i' ∧ Value.slice A4 (i + 1) c4 = .slice A' i' c' ∧ m.length = i' ∧ w8.ownsRow w.heap.size 45 27 (.slice A' m.length c') m.length (flatE m) ∧ (∀ d ∈ m, RpAt w8 d.t) ∧ (∀ d ∈ m, ∀ b, blkOf d.t.A = some b → w.heap.size ≤ b ∧ b < w8.heap.size ∧ blkOf A' ≠ some b) ∧ m.map stripE = (l.take i').map cutE ∧ Same w w8 := by
  subst hvi
  subst hq2
  rw [Nat.zero_add] at hown3
  have hl8 : flatE (l' ++ [laidE d A3 c3]) = fl ++ L.set 26 (.slice A3 q2 c3) := by
    rw [flatE_snoc, hfl, ← evL_set, hL, hq]
  obtain ⟨_, _, hv, h1, h2, _, _, h5, h6⟩ := own_form hown3
  cases hv
  have hA0 : ∀ b, blkOf A0 = some b → w.heap.size ≤ b ∧ b < wr.heap.size := fun b hb => hown.lt b (by rw [ownBlock_slice]; exact hb)
  have hA3 : ∀ b, blkOf A3 = some b → wr.heap.size + 1 ≤ b ∧ b < w5.heap.size := fun b hb => hown3.lt b (by rw [ownBlock_slice]; exact hb)
  have hz : ((w5.setCell ⟨wr.heap.size, 26, none⟩ (.slice A3 q2 c3)).alloc ob).heap.size = w5.heap.size + 1 := by simp
  have hz8 := hc8.size
  have z5 := hs5.size
  have z1 := hsm.size
  have hkeep : ∀ (A : Option Addr) (xs : List Value), Rd w5 A xs → (∀ b, blkOf A = some b → b ≠ wr.heap.size ∧ blkOf A0 ≠ some b) → Rd w8 A xs := fun A xs hr hA =>
    ((hr.setCell (p := ⟨wr.heap.size, 26, none⟩) (fun e => (hA _ e).1 rfl) _).alloc ob).chg hc8 (fun b hb _ e => (hA b hb).2 e)
  refine ⟨i + 1, A4, c4, l' ++ [laidE d A3 c3], hin, hik, rfl, rfl, rfl, by simp [hll], ?_, ?_, ?_, ?_, ?_⟩
  · rw [List.length_append, hll, hl8]
    exact hown8
  · intro x hx
    rw [List.mem_append] at hx
    rcases hx with hx | hx
    · exact (hrp x hx).keep (hkeep _ _ ((hrp x hx).rd.same hs5) fun b hb => by have := hbl x hx b hb; exact ⟨by omega, this.2.2⟩)
    · simp at hx
      subst hx
      refine ⟨hkeep A3 _ h2 fun b hb => by have := hA3 b hb; exact ⟨by omega, fun e => by have := hA0 b e; omega⟩, ?_, h5⟩
      show (d.t.ids.take 30).length ≤ c3
      rw [hq]; exact h1
  · intro x hx b hb
    rw [List.mem_append] at hx
    rcases hx with hx | hx
    · have := hbl x hx b hb
      refine ⟨this.1, by omega, ?_⟩
      rcases hb8 with h | h
      · rw [h]; exact this.2.2
      · rw [h]; intro e; simp at e; omega
    · simp at hx
      subst hx
      have h3 := hA3 b hb
      refine ⟨by omega, by omega, ?_⟩
      rcases hb8 with h | h
      · rw [h]; intro e; have := hA0 b e; omega
      · rw [h]; intro e; simp at e; omega
  · rw [List.map_append, hmap, htk, List.map_append]
    rfl
  · have h3 : Chg (fun k => w.heap.size ≤ k) w ((w5.setCell ⟨wr.heap.size, 26, none⟩ (.slice A3 q2 c3)).alloc ob) := ((Same.trans hsm hs5).to.setCell (p := ⟨wr.heap.size, 26, none⟩) (.inl z1) _).alloc ob
    exact Chg.fresh (h3.trans hc8 fun b _ e => (hA0 b e).1) fun _ h => h
/-- how Few ends: operations alike, all in memory of the call's own -/
def FewEndE (w : World) (src : List Ev) (e : Ending) (w' : World) : Prop :=
  ∃ A c l, e = .returned (.slice A l.length c) ∧ w'.ownsRow w.heap.size 45 27 (.slice A l.length c) l.length (flatE l) ∧ (∀ d ∈ l, RpAt w' d.t) ∧ (∀ d ∈ l, ∀ b, blkOf d.t.A = some b → w.heap.size ≤ b ∧ b < w'.heap.size ∧ blkOf A ≠ some b) ∧ l.map stripE = src.map cutE ∧ Same w w'
theorem fewE_any {A : Option Addr} {c : Nat} {l : List Ev} (w : World) (h : Evs w A l) (hl : l.length ≤ maxLen) :
    Calls Tryz.prog 4 #[.slice A l.length c] w (FewEndE w (l.take 40)) := by
  have H := hide h
  unfold maxLen at hl
  obtain ⟨n, hn⟩ : ∃ n, l.length = n := ⟨_, rfl⟩
  rw [hn] at hl ⊢
  have Hn := hide hn
  have Hk64 := hide (show 40 ≤ 64 by decide)
  clear h hn
  go_enter Tryz.func4, Tryz.ntmps4
  go_wp2_with fail
  go_loopg [3, 4, 5, 6] n (fun kk out vi u1 u2 wr => ∃ (i : Nat) (A0 : Option Addr) (c0 : Nat) (l' : List Ev), i ≤ n ∧ i ≤ 40 ∧ kk = n - i ∧ vi = .int .i64 i ∧ out = .slice A0 i c0 ∧ l'.length = i ∧ wr.ownsRow w.heap.size 45 27 (.slice A0 l'.length c0) l'.length (flatE l') ∧ (∀ d ∈ l', RpAt wr d.t) ∧ (∀ d ∈ l', ∀ b, blkOf d.t.A = some b → w.heap.size ≤ b ∧ b < wr.heap.size ∧ blkOf A0 ≠ some b) ∧ l'.map stripE = (l.take i).map cutE ∧ Same w wr)
  case atStart => exact ⟨0, _, _, [], Nat.zero_le _, Nat.zero_le _, rfl, rfl, rfl, rfl, own_lit w w.heap.size _ 27 #[] 0 (Nat.le_refl _) (by decide) rfl, by simp, by simp, by simp, (Chg.refl _ w).alloc _⟩
  case round =>
    obtain ⟨i, A0, c0, l', hi, hik, hkk, rfl, rfl, hll, hown, hrp, hbl, hmap, hsm⟩ := hrel
    have Hk := hide hkk
    have Hsm := hide hsm
    have Hown := hide hown
    have Hrp := hide hrp
    have Hbl := hide hbl
    have Hmap := hide hmap
    have Hll := hide hll
    clear hkk hsm hown hrp hbl hmap hll
    by_cases hlt : i < n
    · by_cases hlk : i < 40
      · have hil : i < l.length := by rw [Hn.out]; exact hlt
        obtain ⟨b, off, rfl, hbb, hra, hra2⟩ := (H.out.same Hsm.out).at_ hil
        have Hra := hide hra
        have Hdr := hide hra2
        have Htk := hide (List.take_succ_eq_append_getElem (l := l) hil)
        obtain ⟨d, hdd⟩ : ∃ d, l[i] = d := ⟨_, rfl⟩
        rw [hdd] at Hra Hdr Htk
        have h28 : (evL d)[26]? = some (.slice d.t.A d.t.ids.length d.t.cp) := rfl
        have Hlen := hide (evL_length d)
        have Hon := hide (one_evL d)
        have Hset := hide (fun A c => evL_set d A c)
        have Hlen2 := hide (fun A c => evL_length (laidE d A c))
        have HBl := hide (Blk.new wr 45 (evL d).toArray)
        have hlm : d.t.ids.length ≤ maxLen := Nat.le_trans Hdr.out.le Hdr.out.cp
        unfold maxLen at hlm
        obtain ⟨m, hm⟩ : ∃ m, d.t.ids.length = m := ⟨_, rfl⟩
        have hcp := Hdr.out.le
        rw [hm] at h28 hlm hcp
        have Hm := hide hm
        have hcut := cut_hi (P := Tryz.prog) slI d.t.A m d.t.cp   .i64 30 30 rfl
        have Hcut := hide hcut
        have Hrd0 := hide Hdr.out.rd
        obtain ⟨At, hAt⟩ : ∃ At, d.t.A = At := ⟨_, rfl⟩
        obtain ⟨ct, hct⟩ : ∃ ct, d.t.cp = ct := ⟨_, rfl⟩
        rw [hAt, hct] at h28 Hcut
        rw [hct] at hcp
        rw [hAt] at Hrd0
        clear hra hra2 hdd hm hcut hAt hct
        have hll := Hll.out
        obtain ⟨fl, hfl⟩ : ∃ fl, flatE l' = fl := ⟨_, rfl⟩
        have Hfl := hide hfl
        rw [hfl] at Hown
        rw [hll] at Hown
        clear hfl hll
        generalize hL : evL d = L at *
        have HL := hide hL
        clear hL
        have hO : ((wr.alloc (.cells L.toArray 45)).alloc (.cells #[] 3)).ownsRow (wr.heap.size + 1) 3 1 (.slice (some ⟨wr.heap.size + 1, 0, none⟩) 0 0) 0 [] := by
          have h := own_lit (wr.alloc (.cells L.toArray 45)) (wr.heap.size + 1) 3 1 #[] 0 (by simp) (by decide) rfl
          rw [World.size_alloc] at h
          exact h
        have HO := hide hO
        clear hO
        by_cases h30 : 30 < m
        · have hc30 := Hcut.out (by omega)
          have htk : (d.t.ids.take 30).length = 30 := by rw [List.length_take, Hm.out]; omega
          have Htl := hide htk
          have Hr20 := hide (show Rd wr At (is (d.t.ids.take 30)) by rw [← is_take]; exact Hrd0.out.take 30)
          clear htk Hcut
          go_wp2_with (first
            | (refine wpList_ld (by rfl) 45 _ rfl b (off + i * 27) rfl L _ Hra.out Tryz.underlying45 rfl (by rw [Hlen.out]; exact infoEvt) ?_)
            | (refine wpList_st (by rfl) 45 _ _ rfl rfl L rfl _ _ (by rw [Hlen.out]; exact infoEvt) (by rw [Hlen.out]; rfl) Hon.out ?_)
            | (at_builtin; refine wpList_appS (by rfl) (.tmp 31) (.tmp 32) _ (by rfl) slI (by rfl) (base := wr.heap.size + 1) (by exact HO.out) (by rfl) (show (is (d.t.ids.take 30)).length = 30 * 1 from by rw [is_length, Htl.out]) (by exact (Hr20.out.alloc _).alloc _) (one_is _) (by omega) (by omega) (by simp) ?_; intro A3 c3 w5 hown hc hb; have Hown3 := hide hown; have Hs5 : Hid (Same wr w5) := hide (Chg.fresh (S := fun k => wr.heap.size < k) ((((Chg.refl (fun k => wr.heap.size < k) wr).alloc _).alloc _).trans hc (fun k _ e => by simp [blkOf] at e; omega)) (fun _ h => Nat.le_of_lt h)); have hb5 : Blk w5 wr.heap.size 45 L.toArray := (HBl.out.alloc _).chg hc (fun e => by simp [blkOf] at e); have HB5 := hide hb5; have hk5 : w5.cell? ⟨wr.heap.size, 26, none⟩ = some (.slice At m ct) := (by rw [hb5.cell]; simpa using h28); have hf5 := hb5.frozen 26; clear hown hc hb hb5)
            | (refine wpList_ld (by rfl) 45 _ rfl wr.heap.size 0 rfl (L.set 26 (.slice A3 (0 + 30) c3)) _ (rangeAt_own (HB5.out.set_ 26 (.slice A3 (0 + 30) c3))) Tryz.underlying45 rfl (by rw [List.length_set, Hlen.out]; exact infoEvt) ?_)
            | (refine wpList_bs1 (by rfl) 22 45 _ rfl (L.set 26 (.slice A3 (0 + 30) c3)) rfl _ 27 224 Tryz.underlying22 infoE3 (by rw [List.length_set, Hlen.out]) (by decide) (by decide) ?_)
            | (at_builtin; refine wpList_appS (by rfl) (.tmp 37) (.tmp 39) _ (by rfl) slEv (by rfl) (base := w.heap.size) (by exact own_chg Hown.out ((((Same.to Hs5.out : Chg (fun k => k = wr.heap.size) wr w5)).setCell (p := ⟨wr.heap.size, 26, none⟩) (.inl rfl) _).alloc _) (fun b' hb' e => by have := (Hown.out.lt b' hb').2; omega)) (by rfl) (show (L.set 26 (.slice A3 (0 + 30) c3)).length = 1 * 27 from by rw [List.length_set, Hlen.out]) (by exact rd_lit _ _ _ _ _ (by simp)) (by intro u hu; rcases List.mem_or_eq_of_mem_set hu with h | h; exact Hon.out u h; rw [h]; rfl) (by have := Hk64.out; omega) (by have := Hk64.out; omega) (by have := (Hsm.out.trans Hs5.out).size; simp; omega) ?_; intro A4 c4 w8 hown hc hb; have Hown8 := hide hown; have HC8 := hide hc; have HB8 := hide hb; clear hown hc hb))
          go_roundg (n - (i + 1))
          case measure => have := Hk.out; omega
          case rel =>
            exact fewE_step Hk64.out Hdr.out Htk.out (by rw [Htl.out]) rfl Hsm.out Hs5.out Hown3.out Hown.out Hown8.out HC8.out HB8.out Hrp.out Hbl.out Hmap.out Hll.out Hfl.out HL.out (by omega) (by omega) _ (by go_num)
        · have htk : d.t.ids.take 30 = d.t.ids := List.take_of_length_le (by rw [Hm.out]; omega)
          have Htl := hide (show (d.t.ids.take 30).length = m by rw [htk, Hm.out])
          have Hr20 := hide (show Rd wr At (is (d.t.ids.take 30)) by rw [htk]; exact Hrd0.out)
          clear htk Hcut
          go_wp2_with (first
            | (refine wpList_ld (by rfl) 45 _ rfl b (off + i * 27) rfl L _ Hra.out Tryz.underlying45 rfl (by rw [Hlen.out]; exact infoEvt) ?_)
            | (refine wpList_st (by rfl) 45 _ _ rfl rfl L rfl _ _ (by rw [Hlen.out]; exact infoEvt) (by rw [Hlen.out]; rfl) Hon.out ?_)
            | (at_builtin; refine wpList_appS (by rfl) (.tmp 31) (.tmp 32) _ (by rfl) slI (by rfl) (base := wr.heap.size + 1) (by exact HO.out) (by rfl) (show (is (d.t.ids.take 30)).length = m * 1 from by rw [is_length, Htl.out, Nat.mul_one]) (by exact (Hr20.out.alloc _).alloc _) (one_is _) (by omega) (by omega) (by simp) ?_; intro A3 c3 w5 hown hc hb; have Hown3 := hide hown; have Hs5 : Hid (Same wr w5) := hide (Chg.fresh (S := fun k => wr.heap.size < k) ((((Chg.refl (fun k => wr.heap.size < k) wr).alloc _).alloc _).trans hc (fun k _ e => by simp [blkOf] at e; omega)) (fun _ h => Nat.le_of_lt h)); have hb5 : Blk w5 wr.heap.size 45 L.toArray := (HBl.out.alloc _).chg hc (fun e => by simp [blkOf] at e); have HB5 := hide hb5; have hk5 : w5.cell? ⟨wr.heap.size, 26, none⟩ = some (.slice At m ct) := (by rw [hb5.cell]; simpa using h28); have hf5 := hb5.frozen 26; clear hown hc hb hb5)
            | (refine wpList_ld (by rfl) 45 _ rfl wr.heap.size 0 rfl (L.set 26 (.slice A3 m c3)) _ (rangeAt_own (HB5.out.set_ 26 (.slice A3 m c3))) Tryz.underlying45 rfl (by rw [List.length_set, Hlen.out]; exact infoEvt) ?_)
            | (refine wpList_bs1 (by rfl) 22 45 _ rfl (L.set 26 (.slice A3 m c3)) rfl _ 27 224 Tryz.underlying22 infoE3 (by rw [List.length_set, Hlen.out]) (by decide) (by decide) ?_)
            | (at_builtin; refine wpList_appS (by rfl) (.tmp 37) (.tmp 39) _ (by rfl) slEv (by rfl) (base := w.heap.size) (by exact own_chg Hown.out ((((Same.to Hs5.out : Chg (fun k => k = wr.heap.size) wr w5)).setCell (p := ⟨wr.heap.size, 26, none⟩) (.inl rfl) _).alloc _) (fun b' hb' e => by have := (Hown.out.lt b' hb').2; omega)) (by rfl) (show (L.set 26 (.slice A3 m c3)).length = 1 * 27 from by rw [List.length_set, Hlen.out]) (by exact rd_lit _ _ _ _ _ (by simp)) (by intro u hu; rcases List.mem_or_eq_of_mem_set hu with h | h; exact Hon.out u h; rw [h]; rfl) (by have := Hk64.out; omega) (by have := Hk64.out; omega) (by have := (Hsm.out.trans Hs5.out).size; simp; omega) ?_; intro A4 c4 w8 hown hc hb; have Hown8 := hide hown; have HC8 := hide hc; have HB8 := hide hb; clear hown hc hb))
          go_roundg (n - (i + 1))
          case measure => have := Hk.out; omega
          case rel =>
            exact fewE_step Hk64.out Hdr.out Htk.out (by rw [Htl.out]) rfl Hsm.out Hs5.out Hown3.out Hown.out Hown8.out HC8.out HB8.out Hrp.out Hbl.out Hmap.out Hll.out Hfl.out HL.out (by omega) (by omega) _ (by go_num)
      · have hie : i = 40 := by omega
        subst hie
        go_wp2_with fail
        go_ret
        refine ⟨A0, c0, l', by rw [Hll.out]; rfl, Hown.out, Hrp.out, Hbl.out, Hmap.out, Hsm.out⟩
    · have hie : n = i := by omega
      subst hie
      go_wp2_with fail
      go_ret
      refine ⟨A0, c0, l', by rw [Hll.out]; rfl, Hown.out, Hrp.out, Hbl.out, ?_, Hsm.out⟩
      rw [Hmap.out, List.take_of_length_le (by rw [Hn.out]; omega), List.take_of_length_le (by rw [Hn.out]; omega)]
end Go.Proofs.YtlimpepdelpogaaGreatDoor
