/-
  codec.decoded: bytes as reader.request makes them: one that names a kind, then numbers' own bytes. Condition: numbers that an int holds.
  codec.decoded: bytes as reader.request makes them. Condition: numbers that an int holds.
-/
import Derived.Test.YtlodanjpkjfjiaaGreatDoorCdH
import Derived.Test.YtlodanjpkjfjiaaGreatDoorStA
/-! CdJ -/
namespace Go.Proofs.YtlodanjpkjfjiaaGreatDoor
open Go.RowKit Go.Al
set_option linter.unusedVariables false

/-- the row when j numbers are written -/
def stp (L : List Value) (O : List Nat) (ns : List Int) : Nat → List Value
  | 0 => L
  | j + 1 => (stp L O ns j).set (O.getD j 0) (.int .i64 (ns.getD j 0))
theorem stp_length (L : List Value) (O : List Nat) (ns : List Int) : ∀ j, (stp L O ns j).length = L.length
  | 0 => rfl
  | j + 1 => by rw [stp, List.length_set, stp_length L O ns j]
theorem encL_drop {l : List Int} {j : Nat} (h : j < l.length) : encL (l.drop j) = encI l[j] ++ encL (l.drop (j + 1)) := by
  unfold encL
  rw [List.drop_eq_getElem_cons h, List.flatMap_cons]
theorem encL_some {l : List Int} (h : l ≠ []) : 1 ≤ (encL l).length := by
  cases l with
  | nil => exact absurd rfl h
  | cons n l =>
    have := encI_pos n
    unfold encL
    rw [List.flatMap_cons, List.length_append]
    omega
/-- which word's byte -/
def wordK (c : Nat) : Int := if c ≤ 4 then (c : Int) else if c ≤ 16 then 0 else (c : Int) - 12
theorem bare_cases {c : Nat} (h : goodR (bareK c) = true) : c = 1 ∨ c = 2 ∨ c = 3 ∨ c = 4 ∨ c = 17 ∨ c = 18 ∨ c = 19 ∨ c = 20 ∨ c = 21 ∨ c = 22 ∨ c = 23 := by
  unfold bareK goodR at h
  split at h <;> simp at h <;> omega
theorem stp_some {c : Nat} {ns : List Int} (h : goodR (bareK c) = true) (hl : (offsR (bareK c)).length = ns.length) : ∃ r, ofNums (wordK c) ns = some r ∧ stp (rqL (bareK c)) (offsR (bareK c)) ns ns.length = rqL r := by
  rcases bare_cases h with rfl | rfl | rfl | rfl | rfl | rfl | rfl | rfl | rfl | rfl | rfl
  all_goals
    match ns, hl with
    | [x], hl => first | exact ⟨_, rfl, rfl⟩ | (exfalso; simp [offsR, bareK] at hl)
    | [x, y], hl => first | exact ⟨_, rfl, rfl⟩ | (exfalso; simp [offsR, bareK] at hl)
    | [x, y, z], hl => first | exact ⟨_, rfl, rfl⟩ | (exfalso; simp [offsR, bareK] at hl)
    | [x, y, z, u], hl => first | exact ⟨_, rfl, rfl⟩ | (exfalso; simp [offsR, bareK] at hl)
    | [], hl => exfalso; simp [offsR, bareK] at hl
    | x :: y :: z :: u :: v :: l, hl => exfalso; simp [offsR, bareK] at hl <;> omega
theorem stp_none {c : Nat} {ns : List Int} (h : goodR (bareK c) = true) (hl : (offsR (bareK c)).length ≠ ns.length) : ofNums (wordK c) ns = none := by
  rcases bare_cases h with rfl | rfl | rfl | rfl | rfl | rfl | rfl | rfl | rfl | rfl | rfl
  all_goals
    match ns, hl with
    | [x], hl => first | rfl | exact absurd rfl hl
    | [x, y], hl => first | rfl | exact absurd rfl hl
    | [x, y, z], hl => first | rfl | exact absurd rfl hl
    | [x, y, z, u], hl => first | rfl | exact absurd rfl hl
    | [], hl => rfl
    | x :: y :: z :: u :: v :: l, hl => rfl
theorem bad_none {c : Nat} {ns : List Int} (hc : c < 256) (h : goodR (bareK c) = false) : ofNums (wordK c) ns = none := by
  have hb : wordK c ≤ 0 ∨ 12 ≤ wordK c := by
    unfold bareK goodR at h
    unfold wordK
    split at h <;> rename_i h16 <;> simp at h <;> repeat' split
    all_goals omega
  generalize wordK c = k at *
  unfold ofNums
  split <;> repeat' split
  all_goals first | rfl | omega
end Go.Proofs.YtlodanjpkjfjiaaGreatDoor
/-! CdK -/
namespace Go.Proofs.YtlodanjpkjfjiaaGreatDoor
open Go.RowKit Go.Al
set_option linter.unusedVariables false

theorem rqL_len (r : Rq) : (rqL r).length = 18 := rfl
/-- where decoded throws -/
def whD (c : Nat) (ns : List Int) : Int := if goodR (bareK c) = true then (if ns.length < (offsR (bareK c)).length then 1 else 2) else 0
/-- how decoded ends -/
def DecEnd (c : Nat) (ns : List Int) (w : World) (e : Ending) (w' : World) : Prop :=
  ((∃ r, ofNums (wordK c) ns = some r ∧ e = .returned (rqV r)) ∨ (ofNums (wordK c) ns = none ∧ e = .panicked (fault (whD c ns) 8))) ∧ Same w w'
set_option maxRecDepth 100000 in
set_option maxHeartbeats 8000000 in
theorem decoded_badk {A : Option Addr} {n cc c : Nat} (ns : List Int) (w : World) (hc : c < 256) (hn : 0 < n) (h0 : Rd w A (bs (c.toUInt8 :: encL ns))) (hg : goodR (bareK c) = false) :
    Calls Tryz.prog 100 #[.slice A n cc] w (DecEnd c ns w) := by
  have hb0 := Blk.new w 35 (rqL rqz).toArray
  have hs0 : Same w (w.alloc (.cells (rqL rqz).toArray 35)) := (Chg.refl _ w).alloc _
  obtain ⟨b, off, rfl, hcell⟩ := h0.alloc (.cells (rqL rqz).toArray 35) (by simp [bs])
  have hc0 := hcell 0 (.int .u8 (c : Int)) (by simp [bs, u8_of c hc])
  have HI := hide (tindexB_ok (n := n) (c := cc) 0 (w.alloc (.cells (rqL rqz).toArray 35)) hn hc0 rfl)
  have HK := hide (fun w' => kind_bad c w' hc hg)
  have HN := hide (bad_none (ns := ns) hc hg)
  have HW := hide (show whD c ns = 0 by unfold whD; rw [if_neg (by rw [hg]; decide)])
  have Hs0 := hide hs0
  clear hb0 hs0 hc0 hcell h0 hg hn hc
  simp only [rqL, cgL, qL, z3', qy0, cg0, rqz, List.cons_append, List.nil_append] at HI Hs0
  go_enter Tryz.func100, Tryz.ntmps100
  go_wp2_with (first
    | (go_at_call 117; (refine HI.out.mono ?_); rintro e w1 ⟨rfl, hs1⟩; have Hs1 := hide (Same.trans Hs0.out hs1); clear hs1)
    | (go_at_call 116; (refine (HK.out _).mono ?_); rintro e w2 ⟨rfl, hs2⟩; have Hs2 := hide (Same.trans Hs1.out hs2); clear hs2)
    | fail)
  exact ⟨rfl, .inr ⟨HN.out, by rw [HW.out]⟩, Hs2.out⟩
set_option maxRecDepth 100000 in
set_option maxHeartbeats 16000000 in
theorem decoded_okk {A : Option Addr} {n cc c : Nat} (ns : List Int) (w : World) (hc : c < 256) (hn : (c.toUInt8 :: encL ns).length = n) (hnc : n ≤ cc) (hcc : cc ≤ maxLen) (h0 : Rd w A (bs (c.toUInt8 :: encL ns))) (hg : goodR (bareK c) = true) (hin : ∀ x ∈ ns, inI' x) :
    Calls Tryz.prog 100 #[.slice A n cc] w (DecEnd c ns w) := by
  have hs0 : Same w (w.alloc (.cells (rqL rqz).toArray 35)) := (Chg.refl _ w).alloc _
  have hb0 := Blk.new w 35 (rqL rqz).toArray
  obtain ⟨b, hblk, hbw⟩ := h0.lt (by simp [bs])
  obtain ⟨A1, hcut1, hrd1, hbk1⟩ := cut_lo slB h0 (by simp; omega) hnc .i64 1 1 rfl (by simp at hn; omega)
  rw [hblk] at hbk1
  obtain ⟨b', off, rfl, hcell⟩ := h0.alloc (.cells (rqL rqz).toArray 35) (by simp [bs])
  have hc0 := hcell 0 (.int .u8 (c : Int)) (by simp [bs, u8_of c hc])
  have HI := hide (tindexB_ok (n := n) (c := cc) 0 (w.alloc (.cells (rqL rqz).toArray 35)) (by simp at hn; omega) hc0 rfl)
  have HK := hide (fun w' => kind_ok c w' hc hg)
  have hrd1' : Rd w A1 (bs (encL (ns.drop 0))) := by simpa [bs] using hrd1
  have Hrd1 := hide hrd1'
  have Hl1 := hide (show (encL (ns.drop 0)).length = n - 1 by simp at hn ⊢; omega)
  have Hcut := hide (fun (Ax : Option Addr) (nx cx : Nat) (wx : World) (x : Int) (rest : List UInt8) (hr : Rd wx Ax (bs (encI x ++ rest))) (hx : (encI x ++ rest).length = nx) (hxc : nx ≤ cx) =>
    cut_lo slB hr (by simpa using hx) hxc .i64 (((encI x).length : Nat) : Int) (encI x).length rfl (by rw [← hx]; simp))
  have Hfin : Hid (∀ j, j = ns.length → (offsR (bareK c)).length = ns.length → ∃ r, ofNums (wordK c) ns = some r ∧ stp (rqL (bareK c)) (offsR (bareK c)) ns j = rqL r) := hide fun j hj hl => by
    subst hj
    exact stp_some hg hl
  have Hnone := hide (fun (hl : (offsR (bareK c)).length ≠ ns.length) => stp_none (ns := ns) hg hl)
  have HW1 : Hid (ns.length < (offsR (bareK c)).length → whD c ns = 1) := hide fun h => by unfold whD; rw [if_pos hg, if_pos h]
  have HW2 : Hid ((offsR (bareK c)).length < ns.length → whD c ns = 2) := hide fun h => by unfold whD; rw [if_pos hg, if_neg (by omega)]
  have HFl := hide (fun (g : Nat) (w' : World) (h : Blk w' g 35 (rqL (bareK c)).toArray) => fields_any (bareK c) w' h hg)
  have hO : ∀ j, j < (offsR (bareK c)).length → (offsR (bareK c)).getD j 0 < 18 := by
    intro j hj
    have hx : ∀ x ∈ offsR (bareK c), x < 18 := by
      unfold offsR
      repeat' split
      all_goals simp
    rw [List.getD_eq_getElem?_getD, List.getElem?_eq_getElem hj]
    exact hx _ (List.getElem_mem hj)
  have HO := hide hO
  have hM4 : (offsR (bareK c)).length ≤ 4 := by
    have := numsR_len hg
    omega
  have Hone := hide (one_rqL (bareK c))
  have Hlen := hide (rqL_len (bareK c))
  have Hs0 := hide hs0
  have Hb0 := hide hb0
  have Hin := hide hin
  have Hbk1 := hide hbk1
  have Hbw := hide hbw
  have Hc1 := hide (show n - 1 ≤ cc - 1 by omega)
  have Hc2 := hide (show cc - 1 ≤ maxLen by omega)
  have hn1 : 1 ≤ n := by simp at hn; omega
  clear hs0 hb0 h0 hrd1 hrd1' hbk1 hblk hcell hc0 hg hin hn hnc hcc hO hbw
  unfold rqV at HK
  unfold DecEnd rqV
  generalize whD c ns = wh at *
  generalize offsR (bareK c) = O at *
  generalize rqL (bareK c) = L at *
  obtain ⟨M, hM⟩ : ∃ M, O.length = M := ⟨_, rfl⟩
  have Hm := hide hM
  rw [hM] at hM4
  clear hM
  obtain ⟨n1, hn1'⟩ : ∃ m, n - 1 = m := ⟨_, rfl⟩
  obtain ⟨c1, hc1'⟩ : ∃ m, cc - 1 = m := ⟨_, rfl⟩
  rw [hn1'] at hcut1 Hl1 Hc1
  rw [hc1'] at hcut1 Hc1 Hc2
  clear hn1' hc1'
  simp only [rqL, cgL, qL, z3', qy0, cg0, rqz, List.cons_append, List.nil_append] at HI Hs0 Hb0
  go_enter Tryz.func100, Tryz.ntmps100
  go_wp2_with (first
    | (go_at_call 117; (refine HI.out.mono ?_); rintro e w1 ⟨rfl, hs1⟩; have Hs1 := hide (Same.trans Hs0.out hs1); have Hb1 := hide (Hb0.out.same hs1); clear hs1)
    | (go_at_call 116; (refine (HK.out _).mono ?_); rintro e w2 ⟨rfl, hs2⟩; have Hs2 := hide (Same.trans Hs1.out hs2); have Hb2 := hide (Hb1.out.same hs2); clear hs2)
    | (refine wpList_st (by rfl) 35 _ _ rfl rfl L rfl _ _ (by rw [Hlen.out]; exact infoRqE) (by rw [Hlen.out]; rfl) Hone.out ?_)
    | (go_at_call 89; (refine (HFl.out _ _ (Blk.new _ _ _)).mono ?_); rintro e w3 ⟨m, rfl, hbm, hmle, hs3⟩; have HBm := hide hbm; have Hb3 := hide ((Hb2.out.alloc (.cells L.toArray 35)).same hs3); have Hg3 := hide ((Blk.new w2 35 L.toArray).same hs3); have HS3 := hide (Same.trans (Hs2.out.alloc (.cells L.toArray 35)) hs3); have Hmg := hide (show w2.heap.size ≠ m by rw [World.size_alloc] at hmle; omega); have Hg2 := hide Hs2.out.size; have HGz := hide (show w2.heap.size ≠ w.heap.size by have h7 := Hb2.out.lt; omega); clear hbm hmle hs3)
    | fail)
  rw [Hm.out]
  have Hw2b := hide (show b < w.heap.size from Hbw.out)
  have HSr := hide HS3.out
  generalize w2.heap.size = g at *
  go_loopg [0, 5, 6, 14] M (fun k vb v5 v6 vi wr => ∃ (j : Nat) (A0 : Option Addr) (n0 c0 : Nat), j ≤ M ∧ j ≤ ns.length ∧ k = M - j ∧ vi = .int .i64 (j : Int) ∧ vb = .slice A0 n0 c0 ∧ (encL (ns.drop j)).length = n0 ∧ n0 ≤ c0 ∧ c0 ≤ maxLen ∧ Rd wr A0 (bs (encL (ns.drop j))) ∧ blkOf A0 = some b ∧ Same w wr ∧ Blk wr w.heap.size 35 #[Value.int .i64 0, Value.int .i64 0, Value.int .i64 0, Value.int .i64 0, Value.int .i64 0, Value.int .i64 0, Value.int .i64 0, Value.int .i64 0, Value.int .i64 0, Value.int .i64 0, Value.int .i64 0, Value.int .i64 0, Value.int .i64 0, Value.int .i64 0, Value.int .i64 0, Value.int .i64 0, Value.int .i64 0, Value.int .i64 0] ∧ Blk wr g 35 (stp L O ns j).toArray ∧ Blk wr m 127 (ptrs g O).toArray)
  case atStart => exact ⟨0, A1, n1, c1, Nat.zero_le _, Nat.zero_le _, rfl, rfl, rfl, Hl1.out, Hc1.out, Hc2.out, Hrd1.out.same HS3.out, Hbk1.out, HS3.out, Hb3.out, Hg3.out, HBm.out⟩
  case round =>
    obtain ⟨j, A0, n0, c0, hj, hjn, hk, rfl, rfl, hl0, hc0, hc0m, hrd, hbk, hsm, hbz, hbg, hbm⟩ := hrel
    have Hk := hide hk
    have Hjn := hide hjn
    have Hl0 := hide hl0
    have Hc0 := hide hc0
    have Hc0m := hide hc0m
    have Hrd := hide hrd
    have Hbk := hide hbk
    have Hsm := hide hsm
    have Hbz := hide hbz
    have Hbg := hide hbg
    have Hbm := hide hbm
    clear hk hjn hl0 hc0 hc0m hrd hbk hsm hbz hbg hbm HS3 Hb3 Hg3 HBm
    by_cases hlt : j < M
    · have hjo : j < O.length := by rw [Hm.out]; exact hlt
      obtain ⟨o, ho⟩ : ∃ o, O.getD j 0 = o := ⟨_, rfl⟩
      have ho18 : o < 18 := by have h := HO.out j hjo; omega
      have hcm : wr.cell? ⟨m, j, none⟩ = some (.pointer (some ⟨g, o, none⟩)) := by
        rw [Hbm.out.cell, List.getElem?_toArray]
        unfold ptrs
        rw [List.getElem?_map, List.getElem?_eq_getElem hjo]
        rw [List.getD_eq_getElem?_getD, List.getElem?_eq_getElem hjo] at ho
        simp at ho
        rw [← ho]
        rfl
      have hsl : o < (stp L O ns j).length := by rw [stp_length, Hlen.out]; exact ho18
      obtain ⟨old, hold⟩ : ∃ old, (stp L O ns j)[o]? = some old := ⟨_, List.getElem?_eq_getElem hsl⟩
      have Hcg := hide (fun (w' : World) (h : Blk w' g 35 (stp L O ns j).toArray) => (show w'.cell? ⟨g, o, none⟩ = some old by rw [h.cell, List.getElem?_toArray]; exact hold))
      have Hstp := hide (show stp L O ns (j + 1) = (stp L O ns j).set o (.int .i64 (ns.getD j 0)) by rw [← ho]; rfl)
      clear hsl hold ho
      by_cases hjn2 : j < ns.length
      · have hdrop := encL_drop hjn2
        have hrd2 := Hrd.out
        have hl2 := Hl0.out
        rw [hdrop] at hrd2 hl2
        have hx := Hin.out _ (List.getElem_mem hjn2)
        have HR := hide (read_some (c := c0) ns[j] (encL (ns.drop (j + 1))) wr hx.1 hx.2 hrd2 hl2 Hc0.out Hc0m.out)
        obtain ⟨A2, hcut2, hrd3, hbk3⟩ := Hcut.out A0 n0 c0 wr ns[j] (encL (ns.drop (j + 1))) hrd2 hl2 Hc0.out
        have hpos := encI_pos ns[j]
        have Hrd3 := hide (show Rd wr A2 (bs (encL (ns.drop (j + 1)))) by simpa [bs] using hrd3)
        have Hbk3 := hide (hbk3.trans Hbk.out)
        have Hl3 := hide (show (encL (ns.drop (j + 1))).length = n0 - (encI ns[j]).length by rw [List.length_append] at hl2; omega)
        have Hset := hide (show stp L O ns (j + 1) = (stp L O ns j).set o (.int .i64 ns[j]) by rw [Hstp.out, List.getD_eq_getElem?_getD, List.getElem?_eq_getElem hjn2]; rfl)
        have hns : ¬ (((encI ns[j]).length : Nat) : Int) = 0 := by omega
        have Hle := hide (show n0 - (encI ns[j]).length ≤ c0 - (encI ns[j]).length by have := Hc0.out; omega)
        have Hcm2 := hide (show c0 - (encI ns[j]).length ≤ maxLen by have := Hc0m.out; omega)
        clear hdrop hrd2 hl2 hx hrd3 hbk3 hpos
        generalize (encI ns[j]).length = sz at *
        generalize ns[j] = x at *
        go_wp2_with (first
          | (go_at_call 104; (refine HR.out.mono ?_); rintro e w4 ⟨rfl, hs4⟩; have hcg4 := Hcg.out w4 (Hbg.out.same hs4); have hfg4 := (Hbg.out.same hs4).frozen o; have Hs4 := hide hs4; clear hs4 hcm)
          | fail)
        go_roundg (M - (j + 1))
        case measure => have := Hk.out; omega
        case rel =>
          have hne : b ≠ g := by have := Hw2b.out; have := Hg2.out; omega
          refine ⟨j + 1, A2, _, _, by omega, by omega, rfl, by go_num, rfl, Hl3.out, Hle.out, Hcm2.out, ?_, Hbk3.out, ?_, ?_, ?_, ?_⟩
          · exact (Hrd3.out.same Hs4.out).setCell (p := ⟨g, o, none⟩) (by rw [Hbk3.out]; exact fun e => hne (Option.some.inj e)) _
          · exact (Same.trans Hsm.out Hs4.out).setCell (p := ⟨g, o, none⟩) (.inr Hg2.out) _
          · exact (Hbz.out.same Hs4.out).far (p := ⟨g, o, none⟩) (fun e => HGz.out e.symm) _
          · have h := (Hbg.out.same Hs4.out).set_ o (.int .i64 x)
            rw [Hset.out]
            simpa using h
          · exact (Hbm.out.same Hs4.out).far (p := ⟨g, o, none⟩) (fun e => Hmg.out e.symm) _
      · have hjl : j = ns.length := by have := Hjn.out; omega
        have hz : n0 = 0 := by rw [← Hl0.out, hjl]; simp [encL]
        subst hz
        have HO2 := hide (Hnone.out (by rw [Hm.out]; omega))
        have HW3 := hide (HW1.out (by rw [Hm.out]; omega))
        clear hjl hjn2
        go_wp2_with (first
          | (go_at_call 104; (refine (read_none _).mono ?_); rintro e w4 ⟨rfl, rfl⟩; have hcg4 := Hcg.out _ Hbg.out; have hfg4 := Hbg.out.frozen o)
          | (go_at_call 74; refine (Throw_bad 1 8 _ (by omega)).mono ?_; rintro e w6 ⟨rfl, rfl⟩)
          | fail)
        exact ⟨rfl, .inr ⟨HO2.out, by rw [HW3.out]⟩, Hsm.out.setCell (p := ⟨g, o, none⟩) (.inr Hg2.out) _⟩
    · have hjM : j = M := by omega
      by_cases hjn2 : j < ns.length
      · have hpos : 1 ≤ n0 := by
          rw [← Hl0.out]
          exact encL_some fun e => by have h := congrArg List.length e; simp at h; omega
        have HO2 := hide (Hnone.out (by rw [Hm.out]; omega))
        have HW3 := hide (HW2.out (by rw [Hm.out]; omega))
        clear hjn2 hjM
        go_wp2_with (first
          | (go_at_call 74; refine (Throw_bad 2 8 _ (by omega)).mono ?_; rintro e w6 ⟨rfl, rfl⟩)
          | fail)
        exact ⟨rfl, .inr ⟨HO2.out, by rw [HW3.out]⟩, Hsm.out⟩
      · have hjl : j = ns.length := by have := Hjn.out; omega
        have hz : n0 = 0 := by rw [← Hl0.out, hjl]; simp [encL]
        subst hz
        obtain ⟨r, hof, hst⟩ := Hfin.out j hjl (by rw [Hm.out]; omega)
        have Hof := hide hof
        have hbg2 := Hbg.out
        rw [hst] at hbg2
        have Hr1 := hide (one_rqL r)
        have Hrl := hide (rqL_len r)
        obtain ⟨R, hR⟩ : ∃ R, rqL r = R := ⟨_, rfl⟩
        have HReq := hide hR
        rw [hR] at hbg2 Hr1 Hrl
        have hra : wr.rangeAt g 0 R := fun i v hv => by
          rw [Nat.zero_add, hbg2.cell]
          simpa using hv
        have Hra := hide hra
        clear hra hbg2 hst hof hR hjl hjn2 hjM
        have hjM2 : ¬ (j : Int) < (M : Int) := by omega
        clear hlt
        go_wp2_with (first
          | (refine wpList_ld (by rfl) 35 _ rfl g 0 rfl R _ Hra.out Tryz.underlying35 rfl (by rw [Hrl.out]; exact infoRqE) ?_)
          | (refine wpList_store_row (by rfl) 35 _ _ rfl w.heap.size R.toArray rfl rfl 35 _ Hbz.out (by rw [List.size_toArray, Hrl.out]; exact infoRqE) (show (18 : Nat) = R.toArray.size by rw [List.size_toArray, Hrl.out]) (all_oneCell_toArray Hr1.out) ?_)
          | fail)
        refine bodyPost_ret (results_cell_row rfl _ _ _ _ _ _ _ rfl (Blk.setRow_ Hbz.out _) Tryz.underlying35 rfl (by rw [List.size_toArray, Hrl.out]; exact infoRqE)) (by rfl) ?_
        exact ⟨.inl ⟨r, Hof.out, by rw [HReq.out]⟩, Chg.setRow Hsm.out (.inr (Nat.le_refl _)) _⟩
theorem decoded_any {A : Option Addr} {n cc c : Nat} (ns : List Int) (w : World) (hc : c < 256) (hn : (c.toUInt8 :: encL ns).length = n) (hnc : n ≤ cc) (hcc : cc ≤ maxLen) (h0 : Rd w A (bs (c.toUInt8 :: encL ns))) (hin : ∀ x ∈ ns, inI' x) :
    Calls Tryz.prog 100 #[.slice A n cc] w (DecEnd c ns w) := by
  cases hg : goodR (bareK c) with
  | true => exact decoded_okk ns w hc hn hnc hcc h0 hg hin
  | false => exact decoded_badk ns w hc (by simp at hn; omega) h0 hg
end Go.Proofs.YtlodanjpkjfjiaaGreatDoor
