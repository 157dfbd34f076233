/-
  codec.Encode: a good request's bytes, and where they lie. Condition: numbers that an int holds.
  What is thrown, and caught: throw, Throw, Must, caught, catch. No conditions.
  trap.Index at bytes and at strings. No conditions.
  The document's own numerals: num and Int are the decimal numeral. No conditions.
-/
import Derived.Test.YtlodanjpkjfjiaaGreatDoorCdF
import Derived.Test.YtlodanjpkjfjiaaGreatDoorChecked
import Derived.Test.YtlodanjpkjfjiaaGreatDoorMp
import Derived.Recover
import Derived.Test.YtlodanjpkjfjiaaGreatDoorLib
import Derived.Lib.ItoaNum
import Derived.Lib.ItoaMem
/-! ScF0 -/
namespace Go.Proofs.YtlodanjpkjfjiaaGreatDoor
open Go.RowKit Go.Al
set_option linter.unusedVariables false

/-- how Encode ends at a good request -/
def EncEnd2 (w : World) (l : List UInt8) (e : Ending) (w' : World) : Prop :=
  ∃ a c, e = .returned (.tuple #[.slice (some a) l.length c, .int .i64 0]) ∧ Rd w' (some a) (bs l) ∧ TyA w' 5 (some a) ∧ l.length ≤ c ∧ c ≤ maxLen ∧ Same w w'
set_option maxRecDepth 100000 in
set_option maxHeartbeats 8000000 in
theorem encode2_any (r : Rq) (w : World) (hg : goodR r = true) (hw : WfR r) :
    Calls Tryz.prog 85 #[rqV r] w (EncEnd2 w (encR r)) := by
  have hb0 := Blk.new w 35 (rqL r).toArray
  have hs0 : Same w (w.alloc (.cells (rqL r).toArray 35)) := (Chg.refl _ w).alloc _
  have hra : (w.alloc (.cells (rqL r).toArray 35)).rangeAt w.heap.size 0 (rqL r) := fun j v hv => by
    rw [Nat.zero_add, hb0.cell]
    simpa using hv
  have HG := hide (good_req r)
  rw [hg] at HG
  have HFl := hide (fun (w' : World) (h : Blk w' w.heap.size 35 (rqL r).toArray) => fields_any r w' h hg)
  have Hnum := hide (fun j (hj : j < (numsR r).length) => num_at hg w.heap.size hj)
  have Hin := hide (fun j (hj : j < (numsR r).length) => hw.nums _ (List.getElem_mem hj))
  have Htk := hide (fun j (hj : j < (numsR r).length) => encL_take hj)
  have hnl := numsR_len hg
  have Hll := hide (fun j => encL_len (l := (numsR r).take j) fun n hn => hw.nums n (List.mem_of_mem_take hn))
  have Htl := hide (fun (j : Nat) => List.length_take_le j (numsR r))
  have Hlr := hide (rqL_length r)
  have hkb : (r.k = 1 ∧ (kindB r : Int) = r.c.k ∧ 1 ≤ r.c.k ∧ r.c.k ≤ 4) ∨ (r.k = 2 ∧ (kindB r : Int) = 16 + r.q.k ∧ 1 ≤ r.q.k ∧ r.q.k ≤ 7) := by
    have := good_cases hg
    unfold kindB
    rcases this with ⟨h1, h2⟩ | ⟨h1, h2⟩
    · refine .inl ⟨h1, ?_, by omega, by omega⟩
      rw [if_pos h1]
      omega
    · refine .inr ⟨h1, ?_, by omega, by omega⟩
      rw [if_neg (by omega)]
      omega
  have h0 : (rqL r)[0]? = some (.int .i64 r.k) := rfl
  have h1 : (rqL r)[1]? = some (.int .i64 r.c.k) := rfl
  have h8 : (rqL r)[8]? = some (.int .i64 r.q.k) := rfl
  have HEnd : Hid (∀ w' a c m, m = (encR r).length → Rd w' (some a) (bs (encR r)) → TyA w' 5 (some a) → m ≤ c → c ≤ maxLen → Same w w' → EncEnd2 w (encR r) (.returned (.tuple #[.slice (some a) m c, .int .i64 0])) w') := hide fun w' a c m hm hr ht h1 h2 hs => by
    subst hm
    exact ⟨a, c, rfl, hr, ht, h1, h2, hs⟩
  unfold encR at HEnd ⊢
  generalize kindB r = kb at *
  have Hra := hide hra
  have Hs0 := hide hs0
  have Hb0 := hide hb0
  clear hra hs0 hb0 hg hw
  obtain ⟨rk, hrk⟩ : ∃ k, r.k = k := ⟨_, rfl⟩
  obtain ⟨ck, hck⟩ : ∃ k, r.c.k = k := ⟨_, rfl⟩
  obtain ⟨qk, hqk⟩ : ∃ k, r.q.k = k := ⟨_, rfl⟩
  rw [hrk] at h0
  rw [hck] at h1
  rw [hqk] at h8
  rw [hrk, hck, hqk] at hkb
  clear hrk hck hqk
  unfold rqV at HG ⊢
  generalize offsR r = O at *
  generalize numsR r = Ns at *
  generalize rqL r = L at *
  obtain ⟨N, hN⟩ : ∃ N, Ns.length = N := ⟨_, rfl⟩
  rw [hN] at hnl
  have HN := hide hN
  clear hN
  obtain ⟨hno, hn4⟩ := hnl
  have Hno := hide hno
  clear hno
  have hkb256 : kb < 256 := by omega
  have Hone := hide (bs_one kb hkb256)
  rcases hkb with ⟨rfl, hc, hc1, hc2⟩ | ⟨rfl, hq, hq1, hq2⟩
  · obtain rfl : ck = (kb : Int) := hc.symm
    have hmod : (kb : Int) % 256 = (kb : Int) := by omega
    go_enter Tryz.func85, Tryz.ntmps85
    go_wp2_with (first
      | (refine wpList_ld (by rfl) 35 _ rfl w.heap.size 0 rfl L _ Hra.out Tryz.underlying35 rfl (by rw [Hlr.out]; exact infoRqE) ?_)
      | (go_at_call 66; have hF := HG.out; (with_reducible refine (hF _).mono ?_); rintro e w1 ⟨rfl, hs1⟩; have HS1 := hide (Same.trans Hs0.out hs1); have HB1 := hide (Hb0.out.same hs1); have hk := HB1.out.cell; have hlt1 := HB1.out.lt; clear hs1 hF)
      | (go_at_call 89; (refine (HFl.out _ (HB1.out.alloc _)).mono ?_); rintro e w3 ⟨m, rfl, hbm, hmle, hs3⟩; have HBm := hide hbm; have HB3 := hide ((HB1.out.alloc _).same hs3); have HS3 := hide (Same.trans (HS1.out.alloc _) hs3); have HO3 := hide (own_chg (own_lit w1 w.heap.size 5 1 #[.int .u8 (kb : Int)] 1 HS1.out.size (by decide) rfl) hs3 (fun _ _ h => h)); clear hbm hmle hs3 hk hlt1)
      | fail)
    rw [← Hno.out]
    go_loopg [4, 6, 26] N (fun k vb vn vi wr => ∃ (j : Nat) (A0 : Option Addr) (n0 c0 : Nat), j ≤ N ∧ k = N - j ∧ vi = .int .i64 (j : Int) ∧ vb = .slice A0 n0 c0 ∧ n0 = (kb.toUInt8 :: encL (Ns.take j)).length ∧ wr.ownsRow w.heap.size 5 1 (.slice A0 n0 c0) n0 (bs (kb.toUInt8 :: encL (Ns.take j))) ∧ Same w wr ∧ Blk wr w.heap.size 35 L.toArray ∧ Blk wr m 127 (ptrs w.heap.size O).toArray)
    case atStart => exact ⟨0, _, 1, 1, Nat.zero_le _, rfl, rfl, rfl, rfl, (by have h := HO3.out; rw [show [Value.int .u8 (kb : Int)] = bs [kb.toUInt8] from Hone.out.symm] at h; first | exact h | (rw [World.size_alloc] at h; exact h)), HS3.out, HB3.out, HBm.out⟩
    case round =>
      obtain ⟨j, A0, n0, c0, hj, hk, rfl, rfl, hn0, ho, hsm, hbg, hbm⟩ := hrel
      have Hk := hide hk
      have Hn0 := hide hn0
      have Ho := hide ho
      have Hsm := hide hsm
      have Hbg := hide hbg
      have Hbm := hide hbm
      clear hk hn0 ho hsm hbg hbm HO3 HB3 HBm HS3
      have hn0b : n0 ≤ 41 := by have h1 := Hll.out j; have h2 := Htl.out j; rw [Hn0.out, List.length_cons]; omega
      by_cases hlt : j < N
      · have hjl : j < Ns.length := by rw [HN.out]; exact hlt
        obtain ⟨o, hp, hv⟩ := Hnum.out j hjl
        have hcm : wr.cell? ⟨m, j, none⟩ = some (.pointer (some ⟨w.heap.size, o, none⟩)) := by rw [Hbm.out.cell]; simpa using hp
        have hcg : wr.cell? ⟨w.heap.size, o, none⟩ = some (.int .i64 Ns[j]) := by rw [Hbg.out.cell]; simpa using hv
        have hin := Hin.out j hjl
        have HP := hide (put_any Ns[j] wr hin.1 hin.2 Ho.out Hsm.out.size (by omega))
        have Htk2 := hide (Htk.out j hjl)
        clear hp hv hin
        generalize Ns[j] = x at *
        go_wp2_with (first
          | (go_at_call 96; have hF := HP.out; (with_reducible refine hF.mono ?_); rintro e w4 ⟨A4, c4, rfl, ho4, hc4, hb4⟩; have Hc4 := hide hc4; have Ho4 := hide ho4; clear ho4 hc4 hb4 hF)
          | fail)
        go_roundg (N - (j + 1))
        case measure => have := Hk.out; omega
        case rel =>
          have hne : ∀ g t cs, Blk wr g t cs → t ≠ 5 → ¬ blkOf A0 = some g := fun g t cs hb ht e => by
            have h1 := own_ty Ho.out (b := g) (by rw [ownBlock_slice]; exact e)
            rw [hb.ty] at h1
            exact ht (Option.some.inj h1)
          refine ⟨j + 1, A4, _, c4, by omega, rfl, by go_num, rfl, ?_, ?_, ?_, Hbg.out.chg Hc4.out (hne _ _ _ Hbg.out (by decide)), Hbm.out.chg Hc4.out (hne _ _ _ Hbm.out (by decide))⟩
          · rw [Htk2.out, Hn0.out]; simp; omega
          · rw [Htk2.out]; exact Ho4.out
          · exact Chg.fresh (S := fun k => w.heap.size ≤ k) (Chg.trans (Same.to Hsm.out) Hc4.out fun k _ e => (Ho.out.lt k (by rw [ownBlock_slice]; exact e)).1) fun _ h => h
      · have hjN : j = N := by omega
        subst hjN
        have htk : Ns.take j = Ns := List.take_of_length_le (by rw [HN.out]; exact Nat.le_refl _)
        have ho2 := Ho.out
        have hn2 := Hn0.out
        rw [htk] at ho2 hn2
        obtain ⟨A5, c5, hv5, h51, h52, h53, _, h55, _⟩ := own_form ho2
        cases hv5
        obtain ⟨b5, o5, rfl, _⟩ := h52 (by simp [bs])
        have HE := hide (HEnd.out wr ⟨b5, o5, none⟩ c0 n0 hn2 (by exact h52) (by exact h53) h51 h55 Hsm.out)
        clear ho2 hn2 h51 h52 h53 h55 htk
        go_wp2_with fail
        go_ret2
        exact HE.out
  · have hmod : (16 + qk) % 256 = (kb : Int) := by omega
    go_enter Tryz.func85, Tryz.ntmps85
    go_wp2_with (first
      | (refine wpList_ld (by rfl) 35 _ rfl w.heap.size 0 rfl L _ Hra.out Tryz.underlying35 rfl (by rw [Hlr.out]; exact infoRqE) ?_)
      | (go_at_call 66; have hF := HG.out; (with_reducible refine (hF _).mono ?_); rintro e w1 ⟨rfl, hs1⟩; have HS1 := hide (Same.trans Hs0.out hs1); have HB1 := hide (Hb0.out.same hs1); have hk := HB1.out.cell; have hlt1 := HB1.out.lt; clear hs1 hF)
      | (go_at_call 89; (refine (HFl.out _ ((HB1.out.alloc _).alloc _)).mono ?_); rintro e w3 ⟨m, rfl, hbm, hmle, hs3⟩; have HBm := hide hbm; have HB3 := hide (((HB1.out.alloc _).alloc _).same hs3); have HS3 := hide (Same.trans ((HS1.out.alloc _).alloc _) hs3); have HO3 := hide (own_chg (own_lit (w1.alloc (.cells #[.int .u8 (ck % 256)] 5)) w.heap.size 5 1 #[.int .u8 (16 + qk)] 1 (by have := HS1.out.size; simp; omega) (by decide) rfl) hs3 (fun _ _ h => h)); clear hbm hmle hs3 hk hlt1)
      | fail)
    rw [← Hno.out]
    go_loopg [4, 6, 26] N (fun k vb vn vi wr => ∃ (j : Nat) (A0 : Option Addr) (n0 c0 : Nat), j ≤ N ∧ k = N - j ∧ vi = .int .i64 (j : Int) ∧ vb = .slice A0 n0 c0 ∧ n0 = (kb.toUInt8 :: encL (Ns.take j)).length ∧ wr.ownsRow w.heap.size 5 1 (.slice A0 n0 c0) n0 (bs (kb.toUInt8 :: encL (Ns.take j))) ∧ Same w wr ∧ Blk wr w.heap.size 35 L.toArray ∧ Blk wr m 127 (ptrs w.heap.size O).toArray)
    case atStart => exact ⟨0, _, 1, 1, Nat.zero_le _, rfl, rfl, rfl, rfl, (by have h := HO3.out; rw [show [Value.int .u8 (16 + qk)] = bs [kb.toUInt8] from (by rw [← hq]; exact Hone.out.symm)] at h; first | exact h | (rw [World.size_alloc] at h; exact h)), HS3.out, HB3.out, HBm.out⟩
    case round =>
      obtain ⟨j, A0, n0, c0, hj, hk, rfl, rfl, hn0, ho, hsm, hbg, hbm⟩ := hrel
      have Hk := hide hk
      have Hn0 := hide hn0
      have Ho := hide ho
      have Hsm := hide hsm
      have Hbg := hide hbg
      have Hbm := hide hbm
      clear hk hn0 ho hsm hbg hbm HO3 HB3 HBm HS3
      have hn0b : n0 ≤ 41 := by have h1 := Hll.out j; have h2 := Htl.out j; rw [Hn0.out, List.length_cons]; omega
      by_cases hlt : j < N
      · have hjl : j < Ns.length := by rw [HN.out]; exact hlt
        obtain ⟨o, hp, hv⟩ := Hnum.out j hjl
        have hcm : wr.cell? ⟨m, j, none⟩ = some (.pointer (some ⟨w.heap.size, o, none⟩)) := by rw [Hbm.out.cell]; simpa using hp
        have hcg : wr.cell? ⟨w.heap.size, o, none⟩ = some (.int .i64 Ns[j]) := by rw [Hbg.out.cell]; simpa using hv
        have hin := Hin.out j hjl
        have HP := hide (put_any Ns[j] wr hin.1 hin.2 Ho.out Hsm.out.size (by omega))
        have Htk2 := hide (Htk.out j hjl)
        clear hp hv hin
        generalize Ns[j] = x at *
        go_wp2_with (first
          | (go_at_call 96; have hF := HP.out; (with_reducible refine hF.mono ?_); rintro e w4 ⟨A4, c4, rfl, ho4, hc4, hb4⟩; have Hc4 := hide hc4; have Ho4 := hide ho4; clear ho4 hc4 hb4 hF)
          | fail)
        go_roundg (N - (j + 1))
        case measure => have := Hk.out; omega
        case rel =>
          have hne : ∀ g t cs, Blk wr g t cs → t ≠ 5 → ¬ blkOf A0 = some g := fun g t cs hb ht e => by
            have h1 := own_ty Ho.out (b := g) (by rw [ownBlock_slice]; exact e)
            rw [hb.ty] at h1
            exact ht (Option.some.inj h1)
          refine ⟨j + 1, A4, _, c4, by omega, rfl, by go_num, rfl, ?_, ?_, ?_, Hbg.out.chg Hc4.out (hne _ _ _ Hbg.out (by decide)), Hbm.out.chg Hc4.out (hne _ _ _ Hbm.out (by decide))⟩
          · rw [Htk2.out, Hn0.out]; simp; omega
          · rw [Htk2.out]; exact Ho4.out
          · exact Chg.fresh (S := fun k => w.heap.size ≤ k) (Chg.trans (Same.to Hsm.out) Hc4.out fun k _ e => (Ho.out.lt k (by rw [ownBlock_slice]; exact e)).1) fun _ h => h
      · have hjN : j = N := by omega
        subst hjN
        have htk : Ns.take j = Ns := List.take_of_length_le (by rw [HN.out]; exact Nat.le_refl _)
        have ho2 := Ho.out
        have hn2 := Hn0.out
        rw [htk] at ho2 hn2
        obtain ⟨A5, c5, hv5, h51, h52, h53, _, h55, _⟩ := own_form ho2
        cases hv5
        obtain ⟨b5, o5, rfl, _⟩ := h52 (by simp [bs])
        have HE := hide (HEnd.out wr ⟨b5, o5, none⟩ c0 n0 hn2 (by exact h52) (by exact h53) h51 h55 Hsm.out)
        clear ho2 hn2 h51 h52 h53 h55 htk
        go_wp2_with fail
        go_ret2
        exact HE.out
end Go.Proofs.YtlodanjpkjfjiaaGreatDoor
/-! TrA -/
namespace Go.Proofs.YtlodanjpkjfjiaaGreatDoor
open Go.RowKit Go.Al
set_option linter.unusedVariables false

theorem results_cc {P : Program} {w : World} {fn : Func} {x y : Tmp} {ty ty2 t : TypeId} {g g2 : Nat} (hf : fn.results = #[.cell x ty, .cell y ty2]) {tmps : Array Value} {cs : Array Value} {d : TypeDesc} {v2 : Value}
    (ha : tmps.getD x undef = .pointer (some ⟨g, 0, none⟩)) (hb : Blk w g t cs) (hu : P.underlying ty = some d) (hd : (match d with | .struct _ | .array _ _ => true | _ => false) = true) (hi : (P.info? ty).map (·.size) = some cs.size)
    (ha2 : tmps.getD y undef = .pointer (some ⟨g2, 0, none⟩)) (hl : (loadVar ty2 ⟨g2, 0, none⟩).run P w = .ok v2 w) :
    (results fn tmps).run P w = .ok (.tuple #[.agg cs, v2]) w := by
  rw [Array.getD_eq_getD_getElem?] at ha ha2
  simp [results, hf, asAddr, ha, ha2, hl, run_loadVar_row w g t ty cs (0, 0) d hb hu hd hi, Result.andThen]
/-- what is thrown: where, and a code -/
def fault (wh c : Int) : List PanicEntry := [{ v := .iface 94 (.agg #[.int .i64 wh, .int .i64 c]), recovered := false }]

set_option maxHeartbeats 400000 in
theorem throw_ok (wh : Int) (w : World) :
    Calls Tryz.prog 93 #[.int .i64 wh, .int .i64 0] w fun e w' => e = .returned (.tuple #[]) ∧ w = w' := by
  go_enter Tryz.func93, Tryz.ntmps93
  go_wp2_with fail
  go_end0
  exact ⟨rfl, rfl⟩
set_option maxHeartbeats 400000 in
theorem throw_bad (wh c : Int) (w : World) (h : ¬ c = 0) :
    Calls Tryz.prog 93 #[.int .i64 wh, .int .i64 c] w fun e w' => e = .panicked (fault wh c) ∧ w = w' := by
  go_enter Tryz.func93, Tryz.ntmps93
  go_wp2_with fail
  exact ⟨rfl, rfl, rfl⟩
set_option maxHeartbeats 400000 in
theorem Throw_ok (wh : Int) (w : World) :
    Calls Tryz.prog 74 #[.int .i64 wh, .int .i64 0] w fun e w' => e = .returned (.tuple #[]) ∧ w = w' := by
  go_enter Tryz.func74, Tryz.ntmps74
  go_wp2_with (go_at_call 93; refine (throw_ok _ _).mono ?_; rintro e w' ⟨rfl, rfl⟩)
  go_end0
  exact ⟨rfl, rfl⟩
set_option maxHeartbeats 400000 in
theorem Throw_bad (wh c : Int) (w : World) (h : ¬ c = 0) :
    Calls Tryz.prog 74 #[.int .i64 wh, .int .i64 c] w fun e w' => e = .panicked (fault wh c) ∧ w = w' := by
  have H := hide h
  clear h
  go_enter Tryz.func74, Tryz.ntmps74
  go_wp2_with (go_at_call 93; refine (throw_bad _ _ _ H.out).mono ?_; rintro e w' ⟨rfl, rfl⟩)
  exact ⟨rfl, rfl, rfl⟩
set_option maxHeartbeats 400000 in
theorem caught_nil (w : World) :
    Calls Tryz.prog 70 #[.nilIface] w fun e w' => e = .returned (.tuple #[.agg #[.int .i64 0, .int .i64 0], .bool false]) ∧ Same w w' := by
  go_enter Tryz.func70, Tryz.ntmps70
  go_wp2_with fail
  exact bodyPost_ret (results_cell2 rfl rfl (Blk.new w _ _) Tryz.underlying94 rfl (by kernel_rfl)) rfl ⟨rfl, (Chg.refl _ _).alloc _⟩
set_option maxRecDepth 100000 in
set_option maxHeartbeats 1000000 in
theorem caught_fault (wh c : Int) (w : World) :
    Calls Tryz.prog 70 #[.iface 94 (.agg #[.int .i64 wh, .int .i64 c])] w fun e w' => e = .returned (.tuple #[.agg #[.int .i64 wh, .int .i64 c], .bool true]) ∧ Same w w' := by
  have hta : ∀ w, (Instr.typeAssert (.iface 94 (.agg #[.int .i64 wh, .int .i64 c])) 20 94 true).run Tryz.prog w = .ok (.tuple #[.agg #[.int .i64 wh, .int .i64 c], .bool true]) w := fun _ => by kernel_rfl
  go_enter Tryz.func70, Tryz.ntmps70
  go_wp2_with fail
  exact bodyPost_ret (results_cell2 rfl rfl ((Blk.new w _ _).alloc _) Tryz.underlying94 rfl (by kernel_rfl)) rfl ⟨rfl, ((Chg.refl _ _).alloc _).alloc _⟩

/-- the closure that catch defers, met by a panic -/
theorem catch1_bad (wh c : Int) (g h : Nat) (w : World) (hg : Blk w g 94 #[.int .i64 0, .int .i64 0]) (hh : Blk w h 4 #[.bool false]) (hne : g ≠ h) :
    CallsD Tryz.prog 69 #[.pointer (some ⟨g, 0, none⟩), .pointer (some ⟨h, 0, none⟩)] (.panicking (fault wh c)) w fun e u' w' =>
      e = .returned (.tuple #[]) ∧ u' = .panicking [{ v := .iface 94 (.agg #[.int .i64 wh, .int .i64 c]), recovered := true }] ∧ Blk w' g 94 #[.int .i64 wh, .int .i64 c] ∧ Blk w' h 4 #[.bool true] ∧ Chg (fun k => k = g ∨ k = h) w w' := by
  refine callsD_of_wpS Tryz.func69 rfl fun c₀ cs hu => ?_
  apply wpS_region
  simp [wpOpsS, go_sem, recoverD, hu, fault, Tryz.ntmps69]
  refine (caught_fault wh c w).mono ?_
  rintro e w1 ⟨rfl, hs1⟩
  have hg1 := hg.same hs1
  have hh1 := hh.same hs1
  have c0 := hg1.cell 0
  have c1 := hg1.cell 1
  have d0 := hh1.cell 0
  have f0 := hg1.frozen 0
  have f1 := hg1.frozen 1
  have e0 := hh1.frozen 0
  simp at c0 c1 d0
  have hne' : ¬ g = h := hne
  simp [go_sem, c0, c1, d0, f0, f1, e0]
  refine ⟨rfl, _, rfl, .tuple #[], by simp [results, Tryz.results69], rfl, rfl, ?_, ?_, ?_⟩
  · exact ((hg1.set_ 0 _).set_ 1 _).far (p := ⟨h, 0, none⟩) hne _
  · exact ((hh1.far (p := ⟨g, 0, none⟩) (fun e => hne e.symm) _).far (p := ⟨g, 1, none⟩) (fun e => hne e.symm) _).set_ 0 _
  · exact (((hs1.to.setCell (p := ⟨g, 0, none⟩) (.inl (.inl rfl)) _).setCell (p := ⟨g, 1, none⟩) (.inl (.inl rfl)) _).setCell (p := ⟨h, 0, none⟩) (.inl (.inr rfl)) _)
/-- the same, behind a call that returned -/
theorem catch1_ok (g h : Nat) (w : World) (hg : Blk w g 94 #[.int .i64 0, .int .i64 0]) (hh : Blk w h 4 #[.bool false]) (hne : g ≠ h) :
    CallsD Tryz.prog 69 #[.pointer (some ⟨g, 0, none⟩), .pointer (some ⟨h, 0, none⟩)] .returning w fun e u' w' =>
      e = .returned (.tuple #[]) ∧ u' = .returning ∧ Blk w' g 94 #[.int .i64 0, .int .i64 0] ∧ Blk w' h 4 #[.bool false] ∧ Chg (fun k => k = g ∨ k = h) w w' := by
  refine callsD_of_wpS Tryz.func69 rfl fun c₀ cs hu => ?_
  apply wpS_region
  simp [wpOpsS, go_sem, recoverD, hu, Tryz.ntmps69]
  refine (caught_nil w).mono ?_
  rintro e w1 ⟨rfl, hs1⟩
  have hg1 := hg.same hs1
  have hh1 := hh.same hs1
  have c0 := hg1.cell 0
  have c1 := hg1.cell 1
  have d0 := hh1.cell 0
  have f0 := hg1.frozen 0
  have f1 := hg1.frozen 1
  have e0 := hh1.frozen 0
  simp at c0 c1 d0
  simp [go_sem, c0, c1, d0, f0, f1, e0]
  refine ⟨rfl, .returning, (by rw [← hu]), .tuple #[], by simp [results, Tryz.results69], rfl, rfl, ?_, ?_, ?_⟩
  · exact ((hg1.set_ 0 _).set_ 1 _).far (p := ⟨h, 0, none⟩) hne _
  · exact ((hh1.far (p := ⟨g, 0, none⟩) (fun e => hne e.symm) _).far (p := ⟨g, 1, none⟩) (fun e => hne e.symm) _).set_ 0 _
  · exact (((hs1.to.setCell (p := ⟨g, 0, none⟩) (.inl (.inl rfl)) _).setCell (p := ⟨g, 1, none⟩) (.inl (.inl rfl)) _).setCell (p := ⟨h, 0, none⟩) (.inl (.inr rfl)) _)

set_option maxRecDepth 100000 in
set_option maxHeartbeats 1000000 in
theorem catch_ok {K : Nat} {caps : Array Value} (eK : ∀ args w, (callFunc K args).run Tryz.prog w = .ok (.enter K args) w) {S : Nat → Prop} (Q : World → World → Prop) (w : World) (hS : ∀ k, S k → k < w.heap.size)
    (hf : ∀ w1, Same w w1 → Calls Tryz.prog K caps w1 fun e w2 => e = .returned (.tuple #[]) ∧ Chg S w1 w2 ∧ Q w1 w2) :
    Calls Tryz.prog 52 #[.func (.func K) #[] caps] w fun e w' => e = .returned (.tuple #[.agg #[.int .i64 0, .int .i64 0], .bool false]) ∧ ∃ w1 w2, Same w w1 ∧ Chg S w1 w2 ∧ Q w1 w2 ∧ Chg (fun k => w.heap.size ≤ k ∧ k < w1.heap.size) w2 w' := by
  have HF := hide hf
  have HS := hide hS
  clear hf hS
  have hmf : ∀ (fn : Fn) (first cap : Array Value) (w : World), (Instr.makeFunc fn first cap).run Tryz.prog w = .ok (.func fn first cap) w := fun _ _ _ _ => rfl
  go_enter_defers Tryz.func52, Tryz.ntmps52
  go_wp2_with fail
  have hs1 : Same w ((w.alloc (.cells #[.int .i64 0, .int .i64 0] 94)).alloc (.cells #[.bool false] 4)) := ((Chg.refl _ w).alloc _).alloc _
  have hb1 := (Blk.new w 94 #[.int .i64 0, .int .i64 0]).alloc (.cells #[.bool false] 4)
  have hb2 := Blk.new (w.alloc (.cells #[.int .i64 0, .int .i64 0] 94)) 4 #[.bool false]
  have hz : ((w.alloc (.cells #[.int .i64 0, .int .i64 0] 94)).alloc (.cells #[.bool false] 4)).heap.size = w.heap.size + 2 := by simp
  simp only [World.size_alloc] at hb2
  have Hs1 := hide hs1
  have Hb1 := hide hb1
  have Hb2 := hide hb2
  have Hz := hide hz
  clear hs1 hb1 hb2 hz
  refine (HF.out _ Hs1.out).mono ?_
  rintro e w2 ⟨rfl, hc, hq⟩
  have Hc := hide hc
  have Hq := hide hq
  have HB1 := hide (Hb1.out.chg hc fun h => by have := HS.out _ h; omega)
  have HB2 := hide (Hb2.out.chg hc fun h => by have := HS.out _ h; omega)
  clear hc hq
  go_wp2_with fail
  refine leaves_cons (f := 69) (args := #[.pointer (some ⟨w.heap.size, 0, none⟩), .pointer (some ⟨w.heap.size + 1, 0, none⟩)]) (by simp) (by simp [go_sem]) ?_
  refine (catch1_ok _ _ _ HB1.out HB2.out (by omega)).mono ?_
  rintro e u w3 ⟨rfl, rfl, h1, h2, h3⟩
  have hd := h2.cell 0
  simp at hd
  refine ⟨_, results_cc rfl rfl h1 Tryz.underlying94 rfl (by kernel_rfl) rfl (v2 := .bool false) (by simp [go_sem, hd]), rfl, _, w2, Hs1.out, Hc.out, Hq.out, h3.mono fun k _ hk => ?_⟩
  have := Hz.out
  omega

set_option maxRecDepth 100000 in
set_option maxHeartbeats 1000000 in
theorem catch_bad {K : Nat} {caps : Array Value} (eK : ∀ args w, (callFunc K args).run Tryz.prog w = .ok (.enter K args) w) {S : Nat → Prop} (Q : World → World → Prop) (wh c : Int) (w : World) (hS : ∀ k, S k → k < w.heap.size)
    (hf : ∀ w1, Same w w1 → Calls Tryz.prog K caps w1 fun e w2 => e = .panicked (fault wh c) ∧ Chg S w1 w2 ∧ Q w1 w2) :
    Calls Tryz.prog 52 #[.func (.func K) #[] caps] w fun e w' => e = .returned (.tuple #[.agg #[.int .i64 wh, .int .i64 c], .bool true]) ∧ ∃ w1 w2, Same w w1 ∧ Chg S w1 w2 ∧ Q w1 w2 ∧ Chg (fun k => w.heap.size ≤ k ∧ k < w1.heap.size) w2 w' := by
  have HF := hide hf
  have HS := hide hS
  clear hf hS
  have hmf : ∀ (fn : Fn) (first cap : Array Value) (w : World), (Instr.makeFunc fn first cap).run Tryz.prog w = .ok (.func fn first cap) w := fun _ _ _ _ => rfl
  go_enter_defers Tryz.func52, Tryz.ntmps52
  go_wp2_with fail
  have hs1 : Same w ((w.alloc (.cells #[.int .i64 0, .int .i64 0] 94)).alloc (.cells #[.bool false] 4)) := ((Chg.refl _ w).alloc _).alloc _
  have hb1 := (Blk.new w 94 #[.int .i64 0, .int .i64 0]).alloc (.cells #[.bool false] 4)
  have hb2 := Blk.new (w.alloc (.cells #[.int .i64 0, .int .i64 0] 94)) 4 #[.bool false]
  have hz : ((w.alloc (.cells #[.int .i64 0, .int .i64 0] 94)).alloc (.cells #[.bool false] 4)).heap.size = w.heap.size + 2 := by simp
  simp only [World.size_alloc] at hb2
  have Hs1 := hide hs1
  have Hb1 := hide hb1
  have Hb2 := hide hb2
  have Hz := hide hz
  clear hs1 hb1 hb2 hz
  refine (HF.out _ Hs1.out).mono ?_
  rintro e w2 ⟨rfl, hc, hq⟩
  have Hc := hide hc
  have Hq := hide hq
  have HB1 := hide (Hb1.out.chg hc fun h => by have := HS.out _ h; omega)
  have HB2 := hide (Hb2.out.chg hc fun h => by have := HS.out _ h; omega)
  clear hc hq
  go_wp2_with fail
  refine leaves_cons (f := 69) (args := #[.pointer (some ⟨w.heap.size, 0, none⟩), .pointer (some ⟨w.heap.size + 1, 0, none⟩)]) (by simp) (by simp [go_sem]) ?_
  refine (catch1_bad wh c _ _ _ HB1.out HB2.out (by omega)).mono ?_
  rintro e u w3 ⟨rfl, rfl, h1, h2, h3⟩
  have hd := h2.cell 0
  simp at hd
  refine ⟨_, results_cc rfl rfl h1 Tryz.underlying94 rfl (by kernel_rfl) rfl (v2 := .bool true) (by simp [go_sem, hd]), rfl, _, w2, Hs1.out, Hc.out, Hq.out, h3.mono fun k _ hk => ?_⟩
  have := Hz.out
  omega
end Go.Proofs.YtlodanjpkjfjiaaGreatDoor
/-! CdI -/
namespace Go.Proofs.YtlodanjpkjfjiaaGreatDoor
open Go.RowKit Go.Al
set_option linter.unusedVariables false

set_option maxRecDepth 100000 in
set_option maxHeartbeats 2000000 in
theorem tindexB_bad {A : Option Addr} {n c : Nat} (i : Int) (w : World) (h : i < 0 ∨ (n : Int) ≤ i) :
    Calls Tryz.prog 117 #[.slice A n c, .int .i64 i] w fun e w' => e = .panicked (fault 0 1) ∧ Same w w' := by
  by_cases h0 : i < 0
  · clear h
    go_enter Tryz.func117, Tryz.ntmps117
    go_wp2_with (first
      | (go_at_call 93; refine (throw_bad 0 1 _ (by decide)).mono ?_; rintro e w' ⟨rfl, rfl⟩)
      | fail)
    first | exact ⟨rfl, rfl, Chg.refl _ _⟩ | exact ⟨rfl, rfl, (Chg.refl _ _).alloc _⟩
  · have h1 : (n : Int) ≤ i := by omega
    clear h
    go_enter Tryz.func117, Tryz.ntmps117
    go_wp2_with (first
      | (go_at_call 93; refine (throw_bad 0 1 _ (by decide)).mono ?_; rintro e w' ⟨rfl, rfl⟩)
      | fail)
    first | exact ⟨rfl, rfl, Chg.refl _ _⟩ | exact ⟨rfl, rfl, (Chg.refl _ _).alloc _⟩
set_option maxRecDepth 100000 in
set_option maxHeartbeats 2000000 in
theorem tindexB_ok {b off n c : Nat} {v : Value} (i : Nat) (w : World) (h : i < n) (hc : w.cell? ⟨b, off + i, none⟩ = some v) (hv : v.oneCell' = true) :
    Calls Tryz.prog 117 #[.slice (some ⟨b, off, none⟩) n c, .int .i64 (i : Int)] w fun e w' => e = .returned v ∧ Same w w' := by
  have h0 : ¬ (i : Int) < 0 := by omega
  go_enter Tryz.func117, Tryz.ntmps117
  go_wp2_with fail
  go_ret
  exact ⟨rfl, Chg.refl _ _⟩
set_option maxRecDepth 100000 in
set_option maxHeartbeats 2000000 in
theorem tindexS_bad {A : Option Addr} {n c : Nat} (i : Int) (w : World) (h : i < 0 ∨ (n : Int) ≤ i) :
    Calls Tryz.prog 72 #[.slice A n c, .int .i64 i] w fun e w' => e = .panicked (fault 0 1) ∧ Same w w' := by
  by_cases h0 : i < 0
  · clear h
    go_enter Tryz.func72, Tryz.ntmps72
    go_wp2_with (first
      | (go_at_call 93; refine (throw_bad 0 1 _ (by decide)).mono ?_; rintro e w' ⟨rfl, rfl⟩)
      | fail)
    first | exact ⟨rfl, rfl, Chg.refl _ _⟩ | exact ⟨rfl, rfl, (Chg.refl _ _).alloc _⟩
  · have h1 : (n : Int) ≤ i := by omega
    clear h
    go_enter Tryz.func72, Tryz.ntmps72
    go_wp2_with (first
      | (go_at_call 93; refine (throw_bad 0 1 _ (by decide)).mono ?_; rintro e w' ⟨rfl, rfl⟩)
      | fail)
    first | exact ⟨rfl, rfl, Chg.refl _ _⟩ | exact ⟨rfl, rfl, (Chg.refl _ _).alloc _⟩
set_option maxRecDepth 100000 in
set_option maxHeartbeats 2000000 in
theorem tindexS_ok {b off n c : Nat} {v : Value} (i : Nat) (w : World) (h : i < n) (hc : w.cell? ⟨b, off + i, none⟩ = some v) (hv : v.oneCell' = true) :
    Calls Tryz.prog 72 #[.slice (some ⟨b, off, none⟩) n c, .int .i64 (i : Int)] w fun e w' => e = .returned v ∧ Same w w' := by
  have h0 : ¬ (i : Int) < 0 := by omega
  go_enter Tryz.func72, Tryz.ntmps72
  go_wp2_with fail
  go_ret
  exact ⟨rfl, Chg.refl _ _⟩
end Go.Proofs.YtlodanjpkjfjiaaGreatDoor
/-! StA -/
namespace Go.Proofs.YtlodanjpkjfjiaaGreatDoor
open Go.RowKit Go.Al
set_option linter.unusedVariables false

/-- bytes as a string -/
def strV (l : List UInt8) : Value := .string ⟨l.toArray⟩
theorem bapp (a b : List UInt8) : ((⟨a.toArray⟩ : ByteArray) ++ (⟨b.toArray⟩ : ByteArray)) = ⟨(a ++ b).toArray⟩ := by
  apply ByteArray.ext
  simp
theorem digit_cut (u : Nat) (hu : u < 10) : ∀ w : World, (Instr.slice 9 (.string ⟨#[48, 49, 50, 51, 52, 53, 54, 55, 56, 57]⟩) (some (.int .u64 (u : Int))) (some (.int .u64 ((u : Int) + 1))) none).run Tryz.prog w = .ok (strV (Lib.decDigits u)) w := by
  have h : u = 0 ∨ u = 1 ∨ u = 2 ∨ u = 3 ∨ u = 4 ∨ u = 5 ∨ u = 6 ∨ u = 7 ∨ u = 8 ∨ u = 9 := by omega
  intro w
  rcases h with rfl | rfl | rfl | rfl | rfl | rfl | rfl | rfl | rfl | rfl <;> (rw [Lib.decDigits_one (by decide)]; kernel_rfl)
theorem dec_len (u : Nat) (h : u < 18446744073709551616) : (Lib.decDigits u).length ≤ 20 := by
  have go : ∀ k u, u < 10 ^ k → 0 < k → (Lib.decDigits u).length ≤ k := by
    intro k
    induction k with
    | zero => intro u _ h; omega
    | succ k ih =>
      intro u hu _
      by_cases h10 : u < 10
      · rw [Lib.decDigits_one h10]; simp
      · rw [Lib.decDigits, dif_neg h10, List.length_append]
        have : u / 10 < 10 ^ k := by rw [Nat.pow_succ] at hu; omega
        have hk : 0 < k := by
          rcases Nat.eq_zero_or_pos k with rfl | h
          · simp at this; omega
          · exact h
        have := ih (u / 10) this hk
        simp; omega
  exact go 20 u (by omega) (by omega)
set_option maxRecDepth 100000 in
set_option maxHeartbeats 2000000 in
theorem num_any : ∀ (k : Nat) (u : Nat), u < 10 ^ (k + 1) → u < 18446744073709551616 → ∀ w : World,
    Calls Tryz.prog 40 #[.int .u64 (u : Int)] w fun e w' => e = .returned (strV (Lib.decDigits u)) ∧ w = w' := by
  intro k
  induction k with
  | zero =>
    intro u hu h64 w
    have hu10 : u < 10 := by simpa using hu
    have hc := digit_cut u hu10
    have Hd := hide hu10
    go_enter Tryz.func40, Tryz.ntmps40
    go_wp2_with fail
    go_ret
    exact ⟨rfl, rfl⟩
  | succ k ih =>
    intro u hu h64 w
    by_cases hu10 : u < 10
    · exact ih u (Nat.lt_of_lt_of_le hu10 (Nat.le_self_pow (by omega) 10)) h64 w
    · have h1 : ∀ w : World, Calls Tryz.prog 40 #[.int .u64 ((u : Int) / 10)] w fun e w' => e = .returned (strV (Lib.decDigits (u / 10))) ∧ w = w' := fun w => by
        have := ih (u / 10) (by rw [Nat.pow_succ] at hu; omega) (by omega) w
        rw [Int.natCast_ediv] at this
        exact this
      have h2 : ∀ w : World, Calls Tryz.prog 40 #[.int .u64 ((u : Int) % 10)] w fun e w' => e = .returned (strV (Lib.decDigits (u % 10))) ∧ w = w' := fun w => by
        have := ih (u % 10) (Nat.lt_of_lt_of_le (Nat.mod_lt _ (by decide)) (Nat.le_self_pow (by omega) 10)) (by omega) w
        rw [Int.natCast_emod] at this
        exact this
      have H1 := hide h1
      have H2 := hide h2
      have HD := hide (show Lib.decDigits u = Lib.decDigits (u / 10) ++ Lib.decDigits (u % 10) by rw [Lib.decDigits, dif_neg hu10, Lib.decDigits_one (Nat.mod_lt _ (by decide))])
      have hn : decide (u < 10) = false := by simp; omega
      have hn2 : ((u : Int) < 10) = False := by simp; omega
      have l1 := dec_len (u / 10) (by omega)
      have l2 := dec_len (u % 10) (by omega)
      clear h1 h2 ih hu
      generalize Lib.decDigits (u / 10) = D1 at *
      generalize Lib.decDigits (u % 10) = D2 at *
      unfold strV at H1 H2
      go_enter Tryz.func40, Tryz.ntmps40
      go_wp2_with (first
        | (go_at_call 40; (with_reducible refine (H1.out _).mono ?_); rintro e w' ⟨rfl, rfl⟩)
        | (go_at_call 40; (with_reducible refine (H2.out _).mono ?_); rintro e w' ⟨rfl, rfl⟩))
      go_ret
      exact ⟨ret_eq (show Value.string _ = _ by rw [bapp, HD.out]; rfl), rfl⟩
theorem num_is (u : Nat) (h : u < 18446744073709551616) (w : World) : Calls Tryz.prog 40 #[.int .u64 (u : Int)] w fun e w' => e = .returned (strV (Lib.decDigits u)) ∧ w = w' :=
  num_any 19 u (by omega) h w
theorem itoa_len (n : Int) (h0 : -9223372036854775808 ≤ n) (h1 : n ≤ 9223372036854775807) : (Lib.itoa n).length ≤ 21 := by
  unfold Lib.itoa
  split
  · have := dec_len n.natAbs (by omega); simp; omega
  · have := dec_len n.toNat (by omega); omega
set_option maxRecDepth 100000 in
set_option maxHeartbeats 2000000 in
theorem int_is (n : Int) (h0 : -9223372036854775808 ≤ n) (h1 : n ≤ 9223372036854775807) (w : World) :
    Calls Tryz.prog 25 #[.int .i64 n] w fun e w' => e = .returned (strV (Lib.itoa n)) ∧ w = w' := by
  by_cases hn : n < 0
  · have hN := num_is n.natAbs (by omega)
    rw [show ((n.natAbs : Nat) : Int) = -(n + 1) + 1 by omega] at hN
    have hi : Lib.itoa n = [45] ++ Lib.decDigits n.natAbs := by unfold Lib.itoa; rw [if_pos hn]; rfl
    rw [hi]
    have hl := dec_len n.natAbs (by omega)
    unfold strV at hN
    have HN := hide hN
    clear hN hi
    generalize Lib.decDigits n.natAbs = D at *
    go_enter Tryz.func25, Tryz.ntmps25
    go_wp2_with (go_at_call 40; (with_reducible refine (HN.out _).mono ?_); rintro e w' ⟨rfl, rfl⟩)
    go_ret
    exact ⟨ret_eq (show Value.string _ = _ by exact congrArg Value.string (bapp [45] D)), rfl⟩
  · have hp : 0 ≤ n := by omega
    have hN := num_is n.toNat (by omega)
    rw [show ((n.toNat : Nat) : Int) = n by omega] at hN
    have hi : Lib.itoa n = Lib.decDigits n.toNat := by unfold Lib.itoa; rw [if_neg hn]
    rw [hi]
    have HN := hide hN
    clear hN hi
    generalize Lib.decDigits n.toNat = D at *
    go_enter Tryz.func25, Tryz.ntmps25
    go_wp2_with (go_at_call 40; (with_reducible refine (HN.out _).mono ?_); rintro e w' ⟨rfl, rfl⟩)
    go_ret
    exact ⟨ret_eq rfl, rfl⟩
end Go.Proofs.YtlodanjpkjfjiaaGreatDoor
