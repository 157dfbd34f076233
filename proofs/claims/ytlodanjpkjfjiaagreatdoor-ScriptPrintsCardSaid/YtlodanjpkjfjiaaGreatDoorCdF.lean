/-
  codec.Encode: a good request's bytes. Condition: numbers that an int holds.
-/
import Derived.Test.YtlodanjpkjfjiaaGreatDoorCdE
import Derived.Test.YtlodanjpkjfjiaaGreatDoorQyF
namespace Go.Proofs.YtlodanjpkjfjiaaGreatDoor
open Go.RowKit Go.Al
set_option linter.unusedVariables false

theorem infoRqE : (Tryz.prog.info? 35).map (·.size) = some 18 := by kernel_rfl
/-- the byte that names a request's kind -/
def kindB (r : Rq) : Nat := if r.k = 1 then r.c.k.toNat else 16 + r.q.k.toNat
def encL (l : List Int) : List UInt8 := l.flatMap encI
/-- a good request's bytes -/
def encR (r : Rq) : List UInt8 := (kindB r).toUInt8 :: encL (numsR r)
theorem encL_take {l : List Int} {j : Nat} (h : j < l.length) : encL (l.take (j + 1)) = encL (l.take j) ++ encI l[j] := by
  unfold encL
  rw [List.take_succ_eq_append_getElem h, List.flatMap_append]
  simp
theorem encL_len : ∀ {l : List Int}, (∀ n ∈ l, inI' n) → (encL l).length ≤ 10 * l.length
  | [], _ => by simp [encL]
  | n :: l, h => by
    have h1 := encL_len (l := l) fun m hm => h m (List.mem_cons_of_mem _ hm)
    have h2 := encI_len (h n List.mem_cons_self).1 (h n List.mem_cons_self).2
    unfold encL at h1 ⊢
    rw [List.flatMap_cons, List.length_append, List.length_cons]
    omega
theorem numsR_len {r : Rq} (h : goodR r = true) : (numsR r).length = (offsR r).length ∧ (numsR r).length ≤ 4 := by
  have e := congrArg List.length (nums_at h)
  rw [List.length_map, List.length_map] at e
  refine ⟨e.symm, ?_⟩
  unfold numsR
  repeat' split
  all_goals simp
theorem num_at {r : Rq} (h : goodR r = true) (g : Nat) {j : Nat} (hj : j < (numsR r).length) : ∃ o, (ptrs g (offsR r))[j]? = some (.pointer (some ⟨g, o, none⟩)) ∧ (rqL r)[o]? = some (.int .i64 (numsR r)[j]) := by
  have hl := (numsR_len h).1
  have ho : j < (offsR r).length := by omega
  refine ⟨(offsR r)[j], by unfold ptrs; rw [List.getElem?_map, List.getElem?_eq_getElem ho]; rfl, ?_⟩
  have e := congrArg (·[j]?) (nums_at h)
  simp only [List.getElem?_map, List.getElem?_eq_getElem ho, List.getElem?_eq_getElem hj, Option.map_some] at e
  exact Option.some.inj e
/-- how Encode ends at a good request -/
def EncEnd (w : World) (l : List UInt8) (e : Ending) (w' : World) : Prop :=
  ∃ a c, e = .returned (.tuple #[.slice (some a) l.length c, .int .i64 0]) ∧ Rd w' (some a) (bs l) ∧ l.length ≤ c ∧ c ≤ maxLen ∧ Same w w'
set_option maxRecDepth 100000 in
set_option maxHeartbeats 8000000 in
theorem encode_any (r : Rq) (w : World) (hg : goodR r = true) (hw : WfR r) :
    Calls Tryz.prog 85 #[rqV r] w (EncEnd w (encR r)) := by
  have hb0 := Blk.new w 35 (rqL r).toArray
  have hs0 : Same w (w.alloc (.cells (rqL r).toArray 35)) := (Chg.refl _ w).alloc _
  have hra : (w.alloc (.cells (rqL r).toArray 35)).rangeAt w.heap.size 0 (rqL r) := fun j v hv => by
    rw [Nat.zero_add, hb0.cell]
    simpa using hv
  have HG := hide (good_req r)
  rw [hg] at HG
  have HFl := hide (fun (w' : World) (h : Blk w' w.heap.size 35 (rqL r).toArray) => fields_any r w' h hg)
  have Hnum := hide (fun j (hj : j < (numsR r).length) => num_at hg w.heap.size hj)
  have Hin := hide (fun j (hj : j < (numsR r).length) => hw.nums _ (List.getElem_mem hj))
  have Htk := hide (fun j (hj : j < (numsR r).length) => encL_take hj)
  have hnl := numsR_len hg
  have Hll := hide (fun j => encL_len (l := (numsR r).take j) fun n hn => hw.nums n (List.mem_of_mem_take hn))
  have Htl := hide (fun (j : Nat) => List.length_take_le j (numsR r))
  have Hlr := hide (rqL_length r)
  have hkb : (r.k = 1 ∧ (kindB r : Int) = r.c.k ∧ 1 ≤ r.c.k ∧ r.c.k ≤ 4) ∨ (r.k = 2 ∧ (kindB r : Int) = 16 + r.q.k ∧ 1 ≤ r.q.k ∧ r.q.k ≤ 7) := by
    have := good_cases hg
    unfold kindB
    rcases this with ⟨h1, h2⟩ | ⟨h1, h2⟩
    · refine .inl ⟨h1, ?_, by omega, by omega⟩
      rw [if_pos h1]
      omega
    · refine .inr ⟨h1, ?_, by omega, by omega⟩
      rw [if_neg (by omega)]
      omega
  have h0 : (rqL r)[0]? = some (.int .i64 r.k) := rfl
  have h1 : (rqL r)[1]? = some (.int .i64 r.c.k) := rfl
  have h8 : (rqL r)[8]? = some (.int .i64 r.q.k) := rfl
  have HEnd : Hid (∀ w' a c m, m = (encR r).length → Rd w' (some a) (bs (encR r)) → m ≤ c → c ≤ maxLen → Same w w' → EncEnd w (encR r) (.returned (.tuple #[.slice (some a) m c, .int .i64 0])) w') := hide fun w' a c m hm hr h1 h2 hs => by
    subst hm
    exact ⟨a, c, rfl, hr, h1, h2, hs⟩
  unfold encR at HEnd ⊢
  generalize kindB r = kb at *
  have Hra := hide hra
  have Hs0 := hide hs0
  have Hb0 := hide hb0
  clear hra hs0 hb0 hg hw
  obtain ⟨rk, hrk⟩ : ∃ k, r.k = k := ⟨_, rfl⟩
  obtain ⟨ck, hck⟩ : ∃ k, r.c.k = k := ⟨_, rfl⟩
  obtain ⟨qk, hqk⟩ : ∃ k, r.q.k = k := ⟨_, rfl⟩
  rw [hrk] at h0
  rw [hck] at h1
  rw [hqk] at h8
  rw [hrk, hck, hqk] at hkb
  clear hrk hck hqk
  unfold rqV at HG ⊢
  generalize offsR r = O at *
  generalize numsR r = Ns at *
  generalize rqL r = L at *
  obtain ⟨N, hN⟩ : ∃ N, Ns.length = N := ⟨_, rfl⟩
  rw [hN] at hnl
  have HN := hide hN
  clear hN
  obtain ⟨hno, hn4⟩ := hnl
  have Hno := hide hno
  clear hno
  have hkb256 : kb < 256 := by omega
  have Hone := hide (bs_one kb hkb256)
  rcases hkb with ⟨rfl, hc, hc1, hc2⟩ | ⟨rfl, hq, hq1, hq2⟩
  · obtain rfl : ck = (kb : Int) := hc.symm
    have hmod : (kb : Int) % 256 = (kb : Int) := by omega
    go_enter Tryz.func85, Tryz.ntmps85
    go_wp2_with (first
      | (refine wpList_ld (by rfl) 35 _ rfl w.heap.size 0 rfl L _ Hra.out Tryz.underlying35 rfl (by rw [Hlr.out]; exact infoRqE) ?_)
      | (go_at_call 66; have hF := HG.out; (with_reducible refine (hF _).mono ?_); rintro e w1 ⟨rfl, hs1⟩; have HS1 := hide (Same.trans Hs0.out hs1); have HB1 := hide (Hb0.out.same hs1); have hk := HB1.out.cell; have hlt1 := HB1.out.lt; clear hs1 hF)
      | (go_at_call 89; (refine (HFl.out _ (HB1.out.alloc _)).mono ?_); rintro e w3 ⟨m, rfl, hbm, hmle, hs3⟩; have HBm := hide hbm; have HB3 := hide ((HB1.out.alloc _).same hs3); have HS3 := hide (Same.trans (HS1.out.alloc _) hs3); have HO3 := hide (own_chg (own_lit w1 w.heap.size 5 1 #[.int .u8 (kb : Int)] 1 HS1.out.size (by decide) rfl) hs3 (fun _ _ h => h)); clear hbm hmle hs3 hk hlt1)
      | fail)
    rw [← Hno.out]
    go_loopg [4, 6, 26] N (fun k vb vn vi wr => ∃ (j : Nat) (A0 : Option Addr) (n0 c0 : Nat), j ≤ N ∧ k = N - j ∧ vi = .int .i64 (j : Int) ∧ vb = .slice A0 n0 c0 ∧ n0 = (kb.toUInt8 :: encL (Ns.take j)).length ∧ wr.ownsRow w.heap.size 5 1 (.slice A0 n0 c0) n0 (bs (kb.toUInt8 :: encL (Ns.take j))) ∧ Same w wr ∧ Blk wr w.heap.size 35 L.toArray ∧ Blk wr m 127 (ptrs w.heap.size O).toArray)
    case atStart => exact ⟨0, _, 1, 1, Nat.zero_le _, rfl, rfl, rfl, rfl, (by have h := HO3.out; rw [show [Value.int .u8 (kb : Int)] = bs [kb.toUInt8] from Hone.out.symm] at h; first | exact h | (rw [World.size_alloc] at h; exact h)), HS3.out, HB3.out, HBm.out⟩
    case round =>
      obtain ⟨j, A0, n0, c0, hj, hk, rfl, rfl, hn0, ho, hsm, hbg, hbm⟩ := hrel
      have Hk := hide hk
      have Hn0 := hide hn0
      have Ho := hide ho
      have Hsm := hide hsm
      have Hbg := hide hbg
      have Hbm := hide hbm
      clear hk hn0 ho hsm hbg hbm HO3 HB3 HBm HS3
      have hn0b : n0 ≤ 41 := by have h1 := Hll.out j; have h2 := Htl.out j; rw [Hn0.out, List.length_cons]; omega
      by_cases hlt : j < N
      · have hjl : j < Ns.length := by rw [HN.out]; exact hlt
        obtain ⟨o, hp, hv⟩ := Hnum.out j hjl
        have hcm : wr.cell? ⟨m, j, none⟩ = some (.pointer (some ⟨w.heap.size, o, none⟩)) := by rw [Hbm.out.cell]; simpa using hp
        have hcg : wr.cell? ⟨w.heap.size, o, none⟩ = some (.int .i64 Ns[j]) := by rw [Hbg.out.cell]; simpa using hv
        have hin := Hin.out j hjl
        have HP := hide (put_any Ns[j] wr hin.1 hin.2 Ho.out Hsm.out.size (by omega))
        have Htk2 := hide (Htk.out j hjl)
        clear hp hv hin
        generalize Ns[j] = x at *
        go_wp2_with (first
          | (go_at_call 96; have hF := HP.out; (with_reducible refine hF.mono ?_); rintro e w4 ⟨A4, c4, rfl, ho4, hc4, hb4⟩; have Hc4 := hide hc4; have Ho4 := hide ho4; clear ho4 hc4 hb4 hF)
          | fail)
        go_roundg (N - (j + 1))
        case measure => have := Hk.out; omega
        case rel =>
          have hne : ∀ g t cs, Blk wr g t cs → t ≠ 5 → ¬ blkOf A0 = some g := fun g t cs hb ht e => by
            have h1 := own_ty Ho.out (b := g) (by rw [ownBlock_slice]; exact e)
            rw [hb.ty] at h1
            exact ht (Option.some.inj h1)
          refine ⟨j + 1, A4, _, c4, by omega, rfl, by go_num, rfl, ?_, ?_, ?_, Hbg.out.chg Hc4.out (hne _ _ _ Hbg.out (by decide)), Hbm.out.chg Hc4.out (hne _ _ _ Hbm.out (by decide))⟩
          · rw [Htk2.out, Hn0.out]; simp; omega
          · rw [Htk2.out]; exact Ho4.out
          · exact Chg.fresh (S := fun k => w.heap.size ≤ k) (Chg.trans (Same.to Hsm.out) Hc4.out fun k _ e => (Ho.out.lt k (by rw [ownBlock_slice]; exact e)).1) fun _ h => h
      · have hjN : j = N := by omega
        subst hjN
        have htk : Ns.take j = Ns := List.take_of_length_le (by rw [HN.out]; exact Nat.le_refl _)
        have ho2 := Ho.out
        have hn2 := Hn0.out
        rw [htk] at ho2 hn2
        obtain ⟨A5, c5, hv5, h51, h52, _, _, h55, _⟩ := own_form ho2
        cases hv5
        obtain ⟨b5, o5, rfl, _⟩ := h52 (by simp [bs])
        have HE := hide (HEnd.out wr ⟨b5, o5, none⟩ c0 n0 hn2 (by exact h52) h51 h55 Hsm.out)
        clear ho2 hn2 h51 h52 h55 htk
        go_wp2_with fail
        go_ret2
        exact HE.out
  · have hmod : (16 + qk) % 256 = (kb : Int) := by omega
    go_enter Tryz.func85, Tryz.ntmps85
    go_wp2_with (first
      | (refine wpList_ld (by rfl) 35 _ rfl w.heap.size 0 rfl L _ Hra.out Tryz.underlying35 rfl (by rw [Hlr.out]; exact infoRqE) ?_)
      | (go_at_call 66; have hF := HG.out; (with_reducible refine (hF _).mono ?_); rintro e w1 ⟨rfl, hs1⟩; have HS1 := hide (Same.trans Hs0.out hs1); have HB1 := hide (Hb0.out.same hs1); have hk := HB1.out.cell; have hlt1 := HB1.out.lt; clear hs1 hF)
      | (go_at_call 89; (refine (HFl.out _ ((HB1.out.alloc _).alloc _)).mono ?_); rintro e w3 ⟨m, rfl, hbm, hmle, hs3⟩; have HBm := hide hbm; have HB3 := hide (((HB1.out.alloc _).alloc _).same hs3); have HS3 := hide (Same.trans ((HS1.out.alloc _).alloc _) hs3); have HO3 := hide (own_chg (own_lit (w1.alloc (.cells #[.int .u8 (ck % 256)] 5)) w.heap.size 5 1 #[.int .u8 (16 + qk)] 1 (by have := HS1.out.size; simp; omega) (by decide) rfl) hs3 (fun _ _ h => h)); clear hbm hmle hs3 hk hlt1)
      | fail)
    rw [← Hno.out]
    go_loopg [4, 6, 26] N (fun k vb vn vi wr => ∃ (j : Nat) (A0 : Option Addr) (n0 c0 : Nat), j ≤ N ∧ k = N - j ∧ vi = .int .i64 (j : Int) ∧ vb = .slice A0 n0 c0 ∧ n0 = (kb.toUInt8 :: encL (Ns.take j)).length ∧ wr.ownsRow w.heap.size 5 1 (.slice A0 n0 c0) n0 (bs (kb.toUInt8 :: encL (Ns.take j))) ∧ Same w wr ∧ Blk wr w.heap.size 35 L.toArray ∧ Blk wr m 127 (ptrs w.heap.size O).toArray)
    case atStart => exact ⟨0, _, 1, 1, Nat.zero_le _, rfl, rfl, rfl, rfl, (by have h := HO3.out; rw [show [Value.int .u8 (16 + qk)] = bs [kb.toUInt8] from (by rw [← hq]; exact Hone.out.symm)] at h; first | exact h | (rw [World.size_alloc] at h; exact h)), HS3.out, HB3.out, HBm.out⟩
    case round =>
      obtain ⟨j, A0, n0, c0, hj, hk, rfl, rfl, hn0, ho, hsm, hbg, hbm⟩ := hrel
      have Hk := hide hk
      have Hn0 := hide hn0
      have Ho := hide ho
      have Hsm := hide hsm
      have Hbg := hide hbg
      have Hbm := hide hbm
      clear hk hn0 ho hsm hbg hbm HO3 HB3 HBm HS3
      have hn0b : n0 ≤ 41 := by have h1 := Hll.out j; have h2 := Htl.out j; rw [Hn0.out, List.length_cons]; omega
      by_cases hlt : j < N
      · have hjl : j < Ns.length := by rw [HN.out]; exact hlt
        obtain ⟨o, hp, hv⟩ := Hnum.out j hjl
        have hcm : wr.cell? ⟨m, j, none⟩ = some (.pointer (some ⟨w.heap.size, o, none⟩)) := by rw [Hbm.out.cell]; simpa using hp
        have hcg : wr.cell? ⟨w.heap.size, o, none⟩ = some (.int .i64 Ns[j]) := by rw [Hbg.out.cell]; simpa using hv
        have hin := Hin.out j hjl
        have HP := hide (put_any Ns[j] wr hin.1 hin.2 Ho.out Hsm.out.size (by omega))
        have Htk2 := hide (Htk.out j hjl)
        clear hp hv hin
        generalize Ns[j] = x at *
        go_wp2_with (first
          | (go_at_call 96; have hF := HP.out; (with_reducible refine hF.mono ?_); rintro e w4 ⟨A4, c4, rfl, ho4, hc4, hb4⟩; have Hc4 := hide hc4; have Ho4 := hide ho4; clear ho4 hc4 hb4 hF)
          | fail)
        go_roundg (N - (j + 1))
        case measure => have := Hk.out; omega
        case rel =>
          have hne : ∀ g t cs, Blk wr g t cs → t ≠ 5 → ¬ blkOf A0 = some g := fun g t cs hb ht e => by
            have h1 := own_ty Ho.out (b := g) (by rw [ownBlock_slice]; exact e)
            rw [hb.ty] at h1
            exact ht (Option.some.inj h1)
          refine ⟨j + 1, A4, _, c4, by omega, rfl, by go_num, rfl, ?_, ?_, ?_, Hbg.out.chg Hc4.out (hne _ _ _ Hbg.out (by decide)), Hbm.out.chg Hc4.out (hne _ _ _ Hbm.out (by decide))⟩
          · rw [Htk2.out, Hn0.out]; simp; omega
          · rw [Htk2.out]; exact Ho4.out
          · exact Chg.fresh (S := fun k => w.heap.size ≤ k) (Chg.trans (Same.to Hsm.out) Hc4.out fun k _ e => (Ho.out.lt k (by rw [ownBlock_slice]; exact e)).1) fun _ h => h
      · have hjN : j = N := by omega
        subst hjN
        have htk : Ns.take j = Ns := List.take_of_length_le (by rw [HN.out]; exact Nat.le_refl _)
        have ho2 := Ho.out
        have hn2 := Hn0.out
        rw [htk] at ho2 hn2
        obtain ⟨A5, c5, hv5, h51, h52, _, _, h55, _⟩ := own_form ho2
        cases hv5
        obtain ⟨b5, o5, rfl, _⟩ := h52 (by simp [bs])
        have HE := hide (HEnd.out wr ⟨b5, o5, none⟩ c0 n0 hn2 (by exact h52) h51 h55 Hsm.out)
        clear ho2 hn2 h51 h52 h55 htk
        go_wp2_with fail
        go_ret2
        exact HE.out
end Go.Proofs.YtlodanjpkjfjiaaGreatDoor
