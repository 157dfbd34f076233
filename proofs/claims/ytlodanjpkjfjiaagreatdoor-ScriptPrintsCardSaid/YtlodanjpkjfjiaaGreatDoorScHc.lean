/-
  What two digits are taken for; an act that its words tell holds numbers that an int holds. No conditions.
  script.hex, Hex: bytes as digits. Condition: at most 1000000 bytes.
  script.reader.bytes. Condition: a word of a sound length.
  script.reader: a word, a number, a request, bytes: each contract over the words' plain reading. Conditions: Go's errors and the table of white space are laid; words of a sound length, not too many.
-/
import Derived.Test.YtlodanjpkjfjiaaGreatDoorScR
import Derived.Test.YtlodanjpkjfjiaaGreatDoorStI

/-! ScM -/
namespace Go.Proofs.YtlodanjpkjfjiaaGreatDoor
open Go.RowKit Go.Al
set_option linter.unusedVariables false

/-- what two digits are taken for -/
def oneW (c d : UInt8) : UInt8 := ((bits .or .i64 (IntKind.i64.wrap (hexV c * 16)) (bits .and .i64 (hexV d) 15)) % 256).toNat.toUInt8
theorem hexV_D : ∀ n : Fin 16, hexV (hexD n.val) = (n.val : Int) := by decide +kernel
theorem or16 : ∀ n : Fin 256, ((bits .or .i64 (IntKind.i64.wrap (((n.val / 16 : Nat) : Int) * 16)) (bits .and .i64 ((n.val % 16 : Nat) : Int) 15)) % 256).toNat.toUInt8 = n.val.toUInt8 := by decide +kernel
theorem ones_W : Ones oneW := fun x => by
  have h1 := hexV_D ⟨x.toNat / 16, by have := x.toNat_lt; omega⟩
  have h2 := hexV_D ⟨x.toNat % 16, by omega⟩
  have h3 := or16 ⟨x.toNat, x.toNat_lt⟩
  simp only at h1 h2 h3
  unfold oneW
  rw [h1, h2, h3]
  simp
theorem hexV_in (c : UInt8) : -1 ≤ hexV c ∧ hexV c ≤ 15 := by
  have : ∀ n : Fin 256, -1 ≤ hexV n.val.toUInt8 ∧ hexV n.val.toUInt8 ≤ 15 := by decide +kernel
  have h := this ⟨c.toNat, c.toNat_lt⟩
  simpa using h
theorem popI_in {l l' : List (List UInt8)} {v : Int} (h : popI l = .ok (v, l')) : inI' v := by
  cases l with
  | nil => simp [popI] at h
  | cons w r =>
    unfold popI at h
    cases hw : intW w with
    | error c => simp [hw] at h
    | ok u =>
      simp [hw] at h
      rw [← h.1]
      exact intW_in hw
theorem intsW_in : ∀ {l : List (List UInt8)} {vs : List Int}, intsW l = .ok vs → ∀ v ∈ vs, inI' v
  | [], vs, h => by
    simp [intsW] at h
    subst h
    simp
  | w :: l, vs, h => by
    unfold intsW at h
    cases hw : intW w with
    | error c => simp [hw] at h
    | ok u =>
      simp only [hw] at h
      cases hl : intsW l with
      | error c => simp [hl] at h
      | ok us =>
        simp [hl] at h
        subst h
        intro v hv
        rcases List.mem_cons.1 hv with rfl | hv
        · exact intW_in hw
        · exact intsW_in hl v hv
theorem in0 : inI' 0 := by unfold inI'; omega
theorem ofNums_wf {k : Int} {l : List Int} {r : Rq} (h : ofNums k l = some r) (hl : ∀ v ∈ l, inI' v) : WfR r := by
  have h0 := in0
  unfold ofNums at h
  split at h
  · rename_i x
    have hx := hl x (by simp)
    split at h
    · cases h; exact ⟨fun n hn => (by simp only [List.mem_cons, List.not_mem_nil, or_false] at hn; rcases hn with rfl | rfl | rfl | rfl | rfl | rfl | rfl | rfl | rfl | rfl | rfl | rfl | rfl | rfl | rfl <;> first | exact hx | exact h0)⟩
    · split at h
      · cases h; exact ⟨fun n hn => (by simp only [List.mem_cons, List.not_mem_nil, or_false] at hn; rcases hn with rfl | rfl | rfl | rfl | rfl | rfl | rfl | rfl | rfl | rfl | rfl | rfl | rfl | rfl | rfl <;> first | exact hx | exact h0)⟩
      · split at h
        · cases h; exact ⟨fun n hn => (by simp only [List.mem_cons, List.not_mem_nil, or_false] at hn; rcases hn with rfl | rfl | rfl | rfl | rfl | rfl | rfl | rfl | rfl | rfl | rfl | rfl | rfl | rfl | rfl <;> first | exact hx | exact h0)⟩
        · cases h
  · rename_i x y
    have hx := hl x (by simp)
    have hy := hl y (by simp)
    split at h
    · cases h; exact ⟨fun n hn => (by simp only [List.mem_cons, List.not_mem_nil, or_false] at hn; rcases hn with rfl | rfl | rfl | rfl | rfl | rfl | rfl | rfl | rfl | rfl | rfl | rfl | rfl | rfl | rfl <;> first | exact hx | exact hy | exact h0)⟩
    · split at h
      · cases h; exact ⟨fun n hn => (by simp only [List.mem_cons, List.not_mem_nil, or_false] at hn; rcases hn with rfl | rfl | rfl | rfl | rfl | rfl | rfl | rfl | rfl | rfl | rfl | rfl | rfl | rfl | rfl <;> first | exact hx | exact hy | exact h0)⟩
      · cases h
  · rename_i x y z
    have hx := hl x (by simp)
    have hy := hl y (by simp)
    have hz := hl z (by simp)
    split at h
    · cases h; exact ⟨fun n hn => (by simp only [List.mem_cons, List.not_mem_nil, or_false] at hn; rcases hn with rfl | rfl | rfl | rfl | rfl | rfl | rfl | rfl | rfl | rfl | rfl | rfl | rfl | rfl | rfl <;> first | exact hx | exact hy | exact hz | exact h0)⟩
    · split at h
      · cases h; exact ⟨fun n hn => (by simp only [List.mem_cons, List.not_mem_nil, or_false] at hn; rcases hn with rfl | rfl | rfl | rfl | rfl | rfl | rfl | rfl | rfl | rfl | rfl | rfl | rfl | rfl | rfl <;> first | exact hx | exact hy | exact hz | exact h0)⟩
      · split at h
        · cases h; exact ⟨fun n hn => (by simp only [List.mem_cons, List.not_mem_nil, or_false] at hn; rcases hn with rfl | rfl | rfl | rfl | rfl | rfl | rfl | rfl | rfl | rfl | rfl | rfl | rfl | rfl | rfl <;> first | exact hx | exact hy | exact hz | exact h0)⟩
        · split at h
          · cases h; exact ⟨fun n hn => (by simp only [List.mem_cons, List.not_mem_nil, or_false] at hn; rcases hn with rfl | rfl | rfl | rfl | rfl | rfl | rfl | rfl | rfl | rfl | rfl | rfl | rfl | rfl | rfl <;> first | exact hx | exact hy | exact hz | exact h0)⟩
          · cases h
  · rename_i x y z u
    have hx := hl x (by simp)
    have hy := hl y (by simp)
    have hz := hl z (by simp)
    have hu := hl u (by simp)
    split at h
    · cases h; exact ⟨fun n hn => (by simp only [List.mem_cons, List.not_mem_nil, or_false] at hn; rcases hn with rfl | rfl | rfl | rfl | rfl | rfl | rfl | rfl | rfl | rfl | rfl | rfl | rfl | rfl | rfl <;> first | exact hx | exact hy | exact hz | exact hu | exact h0)⟩
    · split at h
      · cases h; exact ⟨fun n hn => (by simp only [List.mem_cons, List.not_mem_nil, or_false] at hn; rcases hn with rfl | rfl | rfl | rfl | rfl | rfl | rfl | rfl | rfl | rfl | rfl | rfl | rfl | rfl | rfl <;> first | exact hx | exact hy | exact hz | exact hu | exact h0)⟩
      · cases h
  · cases h
theorem reqW_wf {l : List (List UInt8)} {r : Rq} (h : reqW l = .ok r) : WfR r := by
  unfold reqW at h
  cases l with
  | nil => simp [popW] at h
  | cons w l =>
    simp only [popW] at h
    cases hi : intsW l with
    | error c => simp [hi] at h
    | ok vs =>
      simp only [hi] at h
      cases ho : ofNums (placeOf wordsR w) vs with
      | none => simp [ho] at h
      | some r' =>
        simp [ho] at h
        subst h
        exact ofNums_wf ho (intsW_in hi)
theorem wf_rqz : WfR rqz := ⟨fun n hn => (by have h0 := in0; simp only [List.mem_cons, List.not_mem_nil, or_false] at hn; rcases hn with rfl | rfl | rfl | rfl | rfl | rfl | rfl | rfl | rfl | rfl | rfl | rfl | rfl | rfl | rfl <;> exact h0)⟩
theorem actW_wf {one : UInt8 → UInt8 → UInt8} {ws : List (List UInt8)} {a : Ac} (h : actW one ws = .ok a) : WfA a := by
  unfold actW at h
  cases ws with
  | nil => simp [popW] at h
  | cons w l =>
    simp only [popW] at h
    generalize hq : (if placeOf wordsA w = 4 then .ok (0, l) else popI l : Except Int (Int × List (List UInt8))) = q at h
    cases q with
    | error c => simp at h
    | ok p =>
      obtain ⟨id, l1⟩ := p
      have hid : inI' id := by
        split at hq
        · cases hq; exact in0
        · exact popI_in hq
      simp only at h
      split at h
      · cases hr : reqW l1 with
        | error c => simp [hr] at h
        | ok r => simp [hr] at h; subst h; exact ⟨hid, in0, reqW_wf hr⟩
      · split at h
        · cases hp : popI l1 with
          | error c => simp [hp] at h
          | ok p => obtain ⟨n, l2⟩ := p; simp [hp] at h; subst h; exact ⟨hid, popI_in hp, wf_rqz⟩
        · split at h
          · cases l1 with
            | nil => simp at h
            | cons x l2 => simp at h; subst h; exact ⟨hid, in0, wf_rqz⟩
          · cases h; exact ⟨hid, in0, wf_rqz⟩
theorem pairs_len (one : UInt8 → UInt8 → UInt8) : ∀ l : List UInt8, (pairsW one l).length ≤ l.length
  | [] => by simp [pairsW]
  | [_] => by simp [pairsW]
  | c :: d :: l => by
    have := pairs_len one l
    simp only [pairsW, List.length_cons]
    omega
theorem bytesW_len (one : UInt8 → UInt8 → UInt8) (l : List UInt8) : (bytesW one l).length ≤ l.length := by
  unfold bytesW
  split
  · simp
  · exact pairs_len one l
end Go.Proofs.YtlodanjpkjfjiaaGreatDoor
/-! ScG -/
namespace Go.Proofs.YtlodanjpkjfjiaaGreatDoor
open Go.RowKit Go.Al
open Go.Shelf
set_option linter.unusedVariables false

theorem and15 : ∀ a : Fin 256, bits .and .u8 ((a.val : Nat) : Int) 15 = ((a.val % 16 : Nat) : Int) := by decide +kernel
theorem and15_u8 (y : Nat) (h : y < 256) : bits .and .u8 (y : Int) 15 = ((y % 16 : Nat) : Int) := and15 ⟨y, h⟩
theorem hex_get (n : Nat) (h : n < 16) (hh : n < (⟨#[48, 49, 50, 51, 52, 53, 54, 55, 56, 57, 97, 98, 99, 100, 101, 102]⟩ : ByteArray).size) : (⟨#[48, 49, 50, 51, 52, 53, 54, 55, 56, 57, 97, 98, 99, 100, 101, 102]⟩ : ByteArray)[n]'hh = hexD n := by
  have hall : ∀ m : Fin 16, ((⟨#[48, 49, 50, 51, 52, 53, 54, 55, 56, 57, 97, 98, 99, 100, 101, 102]⟩ : ByteArray)[m.val]'(m.isLt)) = hexD m.val := by decide +kernel
  exact hall ⟨n, h⟩
/-- the digits of bytes -/
def hexL (l : List UInt8) : List UInt8 := l.flatMap fun x => [hexD (x.toNat / 16), hexD (x.toNat % 16)]
theorem hexL_take {l : List UInt8} {i : Nat} (h : i < l.length) : hexL (l.take (i + 1)) = hexL (l.take i) ++ [hexD (l[i].toNat / 16)] ++ [hexD (l[i].toNat % 16)] := by
  unfold hexL
  rw [List.take_succ_eq_append_getElem h, List.flatMap_append]
  simp
theorem hexL_len : ∀ l : List UInt8, (hexL l).length = 2 * l.length
  | [] => rfl
  | x :: l => by
    have := hexL_len l
    unfold hexL at this ⊢
    rw [List.flatMap_cons, List.length_append, this]
    simp
    omega
theorem hexB_L {l : List UInt8} (h : l ≠ []) : hexB l = hexL l := by
  unfold hexB
  rw [if_neg h]
  rfl
set_option maxRecDepth 100000 in
set_option maxHeartbeats 4000000 in
theorem hex_any {A : Option Addr} {c : Nat} (l : List UInt8) (w : World) (h : Rd w A (bs l)) (hn : l.length ≤ 1000000) :
    Calls Tryz.prog 34 #[.slice A l.length c] w fun e w' => e = .returned (strV (hexB l)) ∧ Same w w' := by
  by_cases hne : l = []
  · subst hne
    go_enter Tryz.func34, Tryz.ntmps34
    go_wp2_with fail
    go_ret
    exact ⟨rfl, Chg.refl _ _⟩
  · have h0 : ¬ l.length = 0 := fun e => hne (List.eq_nil_of_length_eq_zero e)
    obtain ⟨b, off, rfl, hcell⟩ := h (fun e => hne (List.map_eq_nil_iff.1 e))
    have Hcell : Hid (∀ i (hi : i < l.length), w.cell? ⟨b, off + i, none⟩ = some (.int .u8 ((l[i].toNat : Nat) : Int))) := hide fun i hi => hcell i _ (by unfold bs; rw [List.getElem?_map, List.getElem?_eq_getElem hi]; rfl)
    have hbw : b < w.heap.size := World.block_lt_of_cell? (a := ⟨b, off + 0, none⟩) w (Hcell.out 0 (by omega))
    rw [hexB_L hne]
    clear h hcell hne
    obtain ⟨n, hnn⟩ : ∃ n, l.length = n := ⟨_, rfl⟩
    rw [hnn] at hn h0 ⊢
    have Hn := hide hnn
    clear hnn
    have hb0 : (((n : Nat) : Int) == 0) = false := by simpa using h0
    have Hb0 := hide (Lib.fresh_isBuilder 70 5 w)
    go_enter Tryz.func34, Tryz.ntmps34
    go_wp2_with fail
    go_loopg [5, 11] n (fun k u vi wr => ∃ i : Nat, i ≤ n ∧ k = n - i ∧ vi = .int .i64 i ∧ Same w wr ∧ Lib.IsBuilder 70 5 w.heap.size w.heap.size (Lib.byteCells (hexL (l.take i))) wr)
    case atStart => exact ⟨0, Nat.zero_le _, rfl, rfl, (Chg.refl _ w).alloc _, Hb0.out⟩
    case round =>
      obtain ⟨i, hi, hk, rfl, hsm, hbd⟩ := hrel
      have Hk := hide hk
      have Hsm := hide hsm
      have Hbd := hide hbd
      clear hk hsm hbd
      by_cases hlt : i < n
      · have hil : i < l.length := by rw [Hn.out]; exact hlt
        have hcw : wr.cell? ⟨b, off + i, none⟩ = some (.int .u8 ((l[i].toNat : Nat) : Int)) := (Hsm.out.cell (p := ⟨b, off + i, none⟩) hbw (fun h => h)).trans (Hcell.out i hil)
        have Htk := hide (hexL_take hil)
        have Hle := hide (show (hexL (l.take i)).length ≤ 2000000 by rw [hexL_len, List.length_take]; omega)
        have hy := l[i].toNat_lt
        generalize l[i] = y at *
        have hi0 := hex_get (y.toNat / 16) (by omega)
        have hi1 := hex_get (y.toNat % 16) (by omega)
        have hand := and15_u8 y.toNat hy
        have HW1 := hide (fun (w' : World) (hz : w.heap.size ≤ w'.heap.size) (hb : Lib.IsBuilder 70 5 w.heap.size w.heap.size (Lib.byteCells (hexL (l.take i))) w') => bbyte w.heap.size w.heap.size _ (((hexD (y.toNat / 16)).toNat : Nat) : Int) w' hb (by rw [byteCells_len]; have := Hle.out; omega) hz)
        have HW2 := hide (fun (w' : World) (hz : w.heap.size ≤ w'.heap.size) (hb : Lib.IsBuilder 70 5 w.heap.size w.heap.size (Lib.byteCells (hexL (l.take i) ++ [hexD (y.toNat / 16)])) w') => bbyte w.heap.size w.heap.size _ (((hexD (y.toNat % 16)).toNat : Nat) : Int) w' hb (by rw [byteCells_len, List.length_append]; have := Hle.out; simp; omega) hz)
        simp only [byteCells_one] at HW1 HW2
        rw [← Htk.out] at HW2
        go_wp2_with (first
          | (go_at_call 48; (with_reducible refine (HW1.out wr Hsm.out.size Hbd.out).mono ?_); rintro e w2 ⟨rfl, hb2, hs2⟩; have HS2 := hide (same_belowB Hsm.out hs2 (Nat.le_refl _)); have HB2 := hide hb2; clear hb2 hs2)
          | (go_at_call 48; (with_reducible refine (HW2.out w2 HS2.out.size (isb_of HB2.out)).mono ?_); rintro e w3 ⟨rfl, hb3, hs3⟩; have HS3 := hide (same_belowB HS2.out hs3 (Nat.le_refl _)); have HB3 := hide hb3; clear hb3 hs3)
          | fail)
        go_roundg (n - (i + 1))
        case measure => have := Hk.out; omega
        case rel =>
          exact ⟨i + 1, by omega, rfl, by go_num, HS3.out, .inr HB3.out⟩
      · have hie : i = n := by omega
        subst hie
        have Htk := hide (show l.take i = l from List.take_of_length_le (by rw [Hn.out]; exact Nat.le_refl _))
        have HBs := hide (bstring w.heap.size w.heap.size _ _ Hbd.out Hsm.out.size)
        go_wp2_with (first
          | (go_at_call 32; (with_reducible refine HBs.out.mono ?_); rintro e w3 ⟨rfl, hs3⟩; have HS3 := hide (same_belowB Hsm.out hs3 (Nat.le_refl _)); clear hs3)
          | fail)
        go_ret
        exact ⟨by rw [Htk.out]; rfl, HS3.out⟩
theorem Hex_any {A : Option Addr} {c : Nat} (l : List UInt8) (w : World) (h : Rd w A (bs l)) (hn : l.length ≤ 1000000) :
    Calls Tryz.prog 20 #[.slice A l.length c] w fun e w' => e = .returned (strV (hexB l)) ∧ Same w w' := by
  have HH := hide (fun w' (hs : Same w w') => hex_any (c := c) l w' (h.same hs) hn)
  clear h hn
  generalize l.length = n at *
  generalize strV (hexB l) = sv at *
  go_enter Tryz.func20, Tryz.ntmps20
  go_wp2_with (first
    | (go_at_call 34; (with_reducible refine (HH.out _ (Chg.refl _ _)).mono ?_); rintro e w1 ⟨rfl, hs1⟩; have Hs1 := hide hs1; clear hs1)
    | fail)
  go_ret
  exact ⟨rfl, Hs1.out⟩
end Go.Proofs.YtlodanjpkjfjiaaGreatDoor
/-! ScI -/
namespace Go.Proofs.YtlodanjpkjfjiaaGreatDoor
open Go.RowKit Go.Al
set_option linter.unusedVariables false

set_option maxRecDepth 100000 in
set_option maxHeartbeats 4000000 in
theorem rbytes_none {g : Nat} (w : World) (h : RdrAt w g []) :
    Calls Tryz.prog 59 #[.pointer (some ⟨g, 0, none⟩)] w fun e w' => e = .panicked (fault 0 1) ∧ Same w w' := by
  have HW := hide (rword_none w h)
  clear h
  go_enter Tryz.func59, Tryz.ntmps59
  go_wp2_with (first
    | (go_at_call 56; (refine HW.out.mono ?_); rintro e w1 ⟨rfl, hs1⟩; have Hs1 := hide hs1; clear hs1)
    | fail)
  exact ⟨rfl, rfl, Hs1.out⟩
/-- bytes that were read -/
def BytesEnd (g : Nat) (l : List UInt8) (ws : List (List UInt8)) (w : World) (e : Ending) (w' : World) : Prop :=
  ∃ A c, e = .returned (.slice A l.length c) ∧ Rd w' A (bs l) ∧ (∀ b, blkOf A = some b → w.heap.size ≤ b) ∧ l.length ≤ c ∧ c ≤ maxLen ∧ Chg (fun k => k = g) w w' ∧ RdrAt w' g ws
theorem RdrAt.chg {w w' : World} {g b0 : Nat} {ws : List (List UInt8)} (h : RdrAt w g ws) (hs : Same w w') : RdrAt w' g ws := h.same hs
theorem rd_of_blk1 {w : World} {b : Nat} {t : TypeId} {v : Value} (h : Blk w b t #[v]) : Rd w (some ⟨b, 0, none⟩) [v] := fun _ => ⟨b, 0, rfl, fun i y hy => by rw [Nat.zero_add, h.cell]; simpa using hy⟩
theorem idxB (c : UInt8) (w : World) : Calls Tryz.prog 79 #[.string ⟨#[48, 49, 50, 51, 52, 53, 54, 55, 56, 57, 97, 98, 99, 100, 101, 102]⟩, .int .u8 ((c.toNat : Nat) : Int)] w fun e w' => e = .returned (.int .i64 (hexV c)) ∧ Same w w' :=
  (strings_IndexByte ⟨#[48, 49, 50, 51, 52, 53, 54, 55, 56, 57, 97, 98, 99, 100, 101, 102]⟩ ((c.toNat : Nat) : Int) w).mono fun e w' ⟨he, hw⟩ => ⟨by rw [he]; simp [hexV], hw ▸ Chg.refl _ _⟩
theorem one_byte (c d : UInt8) : IntKind.u8.wrap (bits .or .i64 (IntKind.i64.wrap (hexV c * 16)) (bits .and .i64 (hexV d) 15)) = (((oneW c d).toNat : Nat) : Int) := by
  unfold oneW
  generalize bits .or .i64 (IntKind.i64.wrap (hexV c * 16)) (bits .and .i64 (hexV d) 15) = z
  rw [u8_of _ (by omega), IntKind.wrap_u8]
  omega
set_option maxRecDepth 100000 in
set_option maxHeartbeats 4000000 in
theorem rbytes_some {g : Nat} (x : List UInt8) (ws : List (List UInt8)) (w : World) (h : RdrAt w g (x :: ws)) (hx : x.length ≤ 1000000) :
    Calls Tryz.prog 59 #[.pointer (some ⟨g, 0, none⟩)] w (BytesEnd g (bytesW oneW x) ws w) := by
  have HW := hide (rword_some x ws w h)
  have Hgw : Hid (g < w.heap.size) := hide (by obtain ⟨A, c, hb, _⟩ := h; exact hb.lt)
  clear h
  by_cases h45 : x = [45]
  · subst h45
    have HE := hide (fun w' (h1 : Chg (fun k => k = g) w w') (h2 : RdrAt w' g ws) => (show BytesEnd g (bytesW oneW [45]) ws w (.returned (.slice none 0 0)) w' from ⟨none, 0, by rw [show bytesW oneW [45] = [] from rfl]; rfl, Rd.nil _ _, by simp [blkOf], by rw [show bytesW oneW [45] = [] from rfl]; exact Nat.le_refl _, by decide, h1, h2⟩))
    unfold strV at HW
    generalize BytesEnd g (bytesW oneW [45]) ws w = Q at *
    go_enter Tryz.func59, Tryz.ntmps59
    go_wp2_with (first
      | (go_at_call 56; (refine HW.out.mono ?_); rintro e w1 ⟨rfl, hc1, hr1⟩; have Hc1 := hide hc1; have Hr1 := hide hr1; clear hc1 hr1)
      | fail)
    exact HE.out _ Hc1.out Hr1.out
  · have hne : (x == [45]) = false := by simpa using h45
    have HE : Hid (∀ (l : List UInt8) (A : Option Addr) (n c B : Nat) (w' : World), w.heap.size ≤ B → bytesW oneW x = l → l.length = n → w'.ownsRow B 5 1 (.slice A n c) n (bs l) → Chg (fun k => k = g) w w' → RdrAt w' g ws → BytesEnd g (bytesW oneW x) ws w (.returned (.slice A n c)) w') := hide fun l A n c B w' hB e1 e2 ho hc hr => by
      rw [e1]
      subst e2
      obtain ⟨A', c', hv, k1, k2, _, _, k5, k6⟩ := own_form ho
      cases hv
      exact ⟨A, c, rfl, k2, fun b hb => Nat.le_trans hB (k6 b hb), k1, k5, hc, hr⟩
    have Hb : Hid (bytesW oneW x = pairsW oneW x) := hide (by unfold bytesW; rw [if_neg h45])
    have Hl : Hid (x.length ≤ 1000000) := hide hx
    clear h45 hx
    unfold strV at HW
    generalize BytesEnd g (bytesW oneW x) ws w = Q at *
    go_enter Tryz.func59, Tryz.ntmps59
    go_wp2_with (first
      | (go_at_call 56; (refine HW.out.mono ?_); rintro e wa ⟨rfl, hc1, hr1⟩; have Hc1 := hide hc1; have Hr1 := hide hr1; clear hc1 hr1)
      | fail)
    go_loopg [3, 4] x.length (fun k v3 v4 wr => ∃ (l acc : List UInt8) (A0 : Option Addr) (n0 c0 : Nat), k = l.length ∧ v3 = .string ⟨l.toArray⟩ ∧ v4 = .slice A0 n0 c0 ∧ acc.length = n0 ∧ pairsW oneW x = acc ++ pairsW oneW l ∧ n0 + l.length ≤ 1000000 ∧ wr.ownsRow wa.heap.size 5 1 (.slice A0 n0 c0) n0 (bs acc) ∧ Same wa wr)
    case atStart => exact ⟨x, [], none, 0, 0, rfl, rfl, rfl, rfl, rfl, by rw [Nat.zero_add]; exact Hl.out, World.ownsRow_nil _ _ _ _, Chg.refl _ _⟩
    case round =>
      obtain ⟨l, acc, A0, n0, c0, hk, rfl, rfl, hn0, hp, hlen, ho, hsm⟩ := hrel
      have Hk := hide hk
      have Hn0 := hide hn0
      have Hp := hide hp
      have Hlen := hide hlen
      have Ho := hide ho
      have Hsm := hide hsm
      clear hk hn0 hp hlen ho hsm hne HW
      match l, Hk, Hp, Hlen with
      | [], Hk, Hp, Hlen =>
        have HF := hide (HE.out acc A0 n0 c0 _ wr Hc1.out.size (by rw [Hb.out, Hp.out]; simp [pairsW]) Hn0.out Ho.out (Hc1.out.same Hsm.out) (Hr1.out.same Hsm.out))
        have hz := ba_size []
        go_wp2_with fail
        exact HF.out
      | [c], Hk, Hp, Hlen =>
        have HF := hide (HE.out acc A0 n0 c0 _ wr Hc1.out.size (by rw [Hb.out, Hp.out]; simp [pairsW]) Hn0.out Ho.out (Hc1.out.same Hsm.out) (Hr1.out.same Hsm.out))
        have hz := ba_size [c]
        go_wp2_with fail
        exact HF.out
      | c :: d :: l, Hk, Hp, Hlen =>
        have hi0 := str_idx (l := c :: d :: l) (i := 0) (c := c) rfl 0 rfl
        have hi1 := str_idx (l := c :: d :: l) (i := 1) (c := d) rfl 1 rfl
        have hcut := str_from (l := c :: d :: l) (b := l) (n := 2) rfl (by simp) 2 rfl
        obtain ⟨m, hm⟩ : ∃ m, l.length + 2 = m := ⟨_, rfl⟩
        have hz : (⟨(c :: d :: l).toArray⟩ : ByteArray).size = m := hm
        have hm2 : (2 : Int) ≤ (m : Int) := by omega
        have HI1 := hide (idxB c)
        have HI2 := hide (idxB d)
        have hob := one_byte c d
        have hin := hexV_in c
        have hwr : IntKind.i64.wrap (hexV c * 16) = hexV c * 16 := IntWalk.i64_in _ (by omega)
        have hln := Hlen.out
        rw [List.length_cons, List.length_cons] at hln
        obtain ⟨sq, hsq⟩ : ∃ s, (⟨(c :: d :: l).toArray⟩ : ByteArray) = s := ⟨_, rfl⟩
        rw [hsq] at hi0 hi1 hcut hz ⊢
        clear hsq
        rw [hwr] at hob
        generalize hexV c = p at *
        generalize hexV d = q at *
        obtain ⟨r, hr⟩ : ∃ r, oneW c d = r := ⟨_, rfl⟩
        rw [hr] at hob
        have Hon := hide hr
        clear hr
        clear hin hm
        go_wp2_with fail
        refine wp_region_mixS 12 (by kernel_rfl) (by kernel_rfl) fun Fin hFin => ?_
        simp only [List.take_succ_cons, List.take_zero]
        iterate 11 (
            (refine mix_lit ?_ ?_ (fun w => Chg.refl _ w) ?_ ?_ ?_ ?_
             rotate_left; rotate_left
             · intro e w1 hR hF K hK; (skip); go_simp; (first | (refine hK _ _ (Chg.refl _ _) ?_; rfl) | (go_at_call 79; (with_reducible refine (HI1.out _).mono ?_); rintro _ w2 ⟨rfl, hs⟩; refine hK _ _ hs ?_; rfl) | (go_at_call 79; (with_reducible refine (HI2.out _).mono ?_); rintro _ w2 ⟨rfl, hs⟩; refine hK _ _ hs ?_; rfl))
             · intro e; simp only [Act.put, List.setIfInBounds_toArray, List.set_cons_zero, List.set_cons_succ]; rfl
             · exact Loc.const _ _))
        refine mix_letS (fun _ v w9 => ∃ b, v = .slice (some ⟨b, 0, none⟩) 1 1 ∧ Blk w9 b 5 #[.int .u8 ((r.toNat : Nat) : Int)]) ?_ (by exact Loc.const _ _) ?_ ?_ ?_ ?_ ?_
        rotate_left
        · rintro e u w1 w2 hs ⟨b, rfl, h1⟩; exact ⟨b, rfl, h1.same hs⟩
        · intro e; rfl
        · intro e w1 hR hF K hK; go_simp; exact hK _ _ _ ((Chg.refl _ _).alloc _) ⟨_, rfl, Blk.new _ _ _⟩ (by simp only [Act.put, List.setIfInBounds_toArray, List.set_cons_zero, List.set_cons_succ])
        · intro e; simp only [Act.put, List.setIfInBounds_toArray, List.set_cons_zero, List.set_cons_succ]; rfl
        refine mix_nil fun e w1 hR hF => hFin _ _ ?_
        simp only [List.drop_succ_cons, List.drop_zero]
        obtain ⟨b9, hb9, hk9⟩ := (show ∃ b, e 11 = .slice (some ⟨b, 0, none⟩) 1 1 ∧ Blk w1 b 5 #[.int .u8 ((r.toNat : Nat) : Int)] from hF 11 (by decide))
        rw [hb9]
        have HK9 := hide hk9
        have HR := hide hR
        clear hR hF hFin hb9 hk9
        (refine wpList_appS (by rfl) (.tmp 14) (.tmp 25) _ (by rfl) slB (by rfl) (base := wa.heap.size) (by exact own_chg Ho.out HR.out (fun _ _ h => h)) (by rfl) (show ([Value.int .u8 ((r.toNat : Nat) : Int)]).length = 1 * 1 from rfl) (by exact rd_of_blk1 HK9.out) (by simp [Value.oneCell']) (by omega) (by omega) (by have := Hsm.out.size; have := HR.out.size; first | omega | (simp; omega)) ?_; intro A3 c3 w5 hown hc hb5; have Hown := hide hown; have Hc5 := hide hc; clear hown hc hb5)
        go_wp2_with fail
        go_roundg l.length
        case measure => have h7 := Hk.out; simp at h7; omega
        case rel =>
          have hA0 : ∀ b, blkOf A0 = some b → wa.heap.size ≤ b := fun b hb => (Ho.out.lt b (by rw [ownBlock_slice]; exact hb)).1
          have hcw : Chg (fun k => blkOf A0 = some k) wr w5 := Chg.trans (Same.to HR.out) Hc5.out (fun _ _ h => h)
          refine ⟨l, acc ++ [r], A3, n0 + 1, c3, rfl, rfl, rfl, by rw [List.length_append, Hn0.out]; rfl, ?_, by omega, ?_, ?_⟩
          · rw [Hp.out, pairsW, Hon.out]; simp
          · have h9 := Hown.out
            rwa [show bs acc ++ [Value.int .u8 ((r.toNat : Nat) : Int)] = bs (acc ++ [r]) by simp [bs]] at h9
          · exact Chg.fresh (Chg.trans (Same.to Hsm.out) hcw (fun k _ e => e)) (fun k e => hA0 k e)
end Go.Proofs.YtlodanjpkjfjiaaGreatDoor
/-! ScHc -/
namespace Go.Proofs.YtlodanjpkjfjiaaGreatDoor
open Go.RowKit Go.Al
set_option linter.unusedVariables false

/-- words of a sound length, not too many -/
def FitW (ws : List (List UInt8)) : Prop := ws.length ≤ 1000 ∧ ∀ y ∈ ws, y.length ≤ 1000000
theorem FitW.tail {x : List UInt8} {l : List (List UInt8)} (h : FitW (x :: l)) : FitW l := ⟨by have := h.1; simp at this; omega, fun y hy => h.2 y (List.mem_cons_of_mem _ hy)⟩
theorem FitW.popI {ws l : List (List UInt8)} {v : Int} (h : FitW ws) (hp : popI ws = .ok (v, l)) : FitW l := by
  cases ws with
  | nil => simp [Go.Proofs.YtlodanjpkjfjiaaGreatDoor.popI] at hp
  | cons x r =>
    unfold Go.Proofs.YtlodanjpkjfjiaaGreatDoor.popI at hp
    cases hx : intW x with
    | error c => simp [hx] at hp
    | ok u => simp [hx] at hp; rw [← hp.2]; exact h.tail
theorem rword_pop {g : Nat} {ws l : List (List UInt8)} {x : List UInt8} (w : World) (h : RdrAt w g ws) (hp : popW ws = .ok (x, l)) :
    Calls Tryz.prog 56 #[.pointer (some ⟨g, 0, none⟩)] w fun e w' => e = .returned (strV x) ∧ Chg (fun k => k = g) w w' ∧ RdrAt w' g l := by
  cases ws with
  | nil => simp [popW] at hp
  | cons y r =>
    simp [popW] at hp
    obtain ⟨rfl, rfl⟩ := hp
    exact rword_some y r w h
theorem rword_err {g : Nat} {ws : List (List UInt8)} {c : Int} (w : World) (h : RdrAt w g ws) (hp : popW ws = .error c) :
    Calls Tryz.prog 56 #[.pointer (some ⟨g, 0, none⟩)] w fun e w' => e = .panicked (fault 0 c) ∧ Same w w' := by
  cases ws with
  | nil => simp [popW] at hp; subst hp; exact rword_none w h
  | cons y r => simp [popW] at hp
theorem rint_pop {g : Nat} {ws l : List (List UInt8)} {v : Int} (w : World) (h : RdrAt w g ws) (he : Errs w) (hf : FarE g) (hw : FitW ws) (hp : popI ws = .ok (v, l)) :
    Calls Tryz.prog 57 #[.pointer (some ⟨g, 0, none⟩)] w fun e w' => e = .returned (.int .i64 v) ∧ Chg (fun k => k = g) w w' ∧ RdrAt w' g l := by
  cases ws with
  | nil => simp [popI] at hp
  | cons y r =>
    unfold popI at hp
    cases hy : intW y with
    | error c => simp [hy] at hp
    | ok u =>
      simp [hy] at hp
      obtain ⟨rfl, rfl⟩ := hp
      refine (rint_some y r w h he hf (hw.2 y List.mem_cons_self)).mono fun e w' ⟨h1, h2, h3⟩ => ⟨?_, h2, h3⟩
      rcases h1 with ⟨v, h4, h5⟩ | ⟨h4, _⟩
      · rw [hy] at h4; cases h4; exact h5
      · rw [hy] at h4; cases h4
theorem rint_err {g : Nat} {ws : List (List UInt8)} {c : Int} (w : World) (h : RdrAt w g ws) (he : Errs w) (hf : FarE g) (hw : FitW ws) (hp : popI ws = .error c) :
    Calls Tryz.prog 57 #[.pointer (some ⟨g, 0, none⟩)] w fun e w' => e = .panicked (fault 0 c) ∧ Chg (fun k => k = g) w w' := by
  cases ws with
  | nil => simp [popI] at hp; subst hp; exact (rint_none w h).mono fun e w' ⟨h1, h2⟩ => ⟨h1, Same.to h2⟩
  | cons y r =>
    unfold popI at hp
    cases hy : intW y with
    | ok u => simp [hy] at hp
    | error u =>
      simp [hy] at hp
      obtain rfl := intW_8 hy
      subst hp
      refine (rint_some y r w h he hf (hw.2 y List.mem_cons_self)).mono fun e w' ⟨h1, h2, h3⟩ => ⟨?_, h2⟩
      rcases h1 with ⟨v, h4, h5⟩ | ⟨_, h4⟩
      · rw [hy] at h4; cases h4
      · exact h4
theorem rreq_any {g : Nat} (ws : List (List UInt8)) (w : World) (h : RdrAt w g ws) (he : Errs w) (hf : FarE g) (ht : Lib.TabIs Tryz.prog w "strings.asciiSpace" .u8 Lib.asciiSpaceTab) (hw : FitW ws) :
    Calls Tryz.prog 58 #[.pointer (some ⟨g, 0, none⟩)] w (ReqEnd g ws w) := by
  cases ws with
  | nil => exact (rreq_none w h ht).mono fun e w' ⟨h1, h2⟩ => ⟨.inr ⟨1, rfl, h1⟩, Same.to h2⟩
  | cons x l => exact rreq_some x l w h he hf ht (by have := hw.1; simp at this; omega) (fun y hy => hw.2 y (List.mem_cons_of_mem _ hy))
theorem rreq_ok {g : Nat} {ws : List (List UInt8)} {r : Rq} (w : World) (h : RdrAt w g ws) (he : Errs w) (hf : FarE g) (ht : Lib.TabIs Tryz.prog w "strings.asciiSpace" .u8 Lib.asciiSpaceTab) (hw : FitW ws) (hp : reqW ws = .ok r) :
    Calls Tryz.prog 58 #[.pointer (some ⟨g, 0, none⟩)] w fun e w' => e = .returned (rqV r) ∧ Chg (fun k => k = g) w w' :=
  (rreq_any ws w h he hf ht hw).mono fun e w' ⟨h1, h2⟩ => by
    refine ⟨?_, h2⟩
    rcases h1 with ⟨r', h3, h4⟩ | ⟨c, h3, _⟩
    · rw [hp] at h3; cases h3; exact h4
    · rw [hp] at h3; cases h3
theorem rreq_err {g : Nat} {ws : List (List UInt8)} {c : Int} (w : World) (h : RdrAt w g ws) (he : Errs w) (hf : FarE g) (ht : Lib.TabIs Tryz.prog w "strings.asciiSpace" .u8 Lib.asciiSpaceTab) (hw : FitW ws) (hp : reqW ws = .error c) :
    Calls Tryz.prog 58 #[.pointer (some ⟨g, 0, none⟩)] w fun e w' => e = .panicked (fault 0 c) ∧ Chg (fun k => k = g) w w' :=
  (rreq_any ws w h he hf ht hw).mono fun e w' ⟨h1, h2⟩ => by
    refine ⟨?_, h2⟩
    rcases h1 with ⟨r', h3, h4⟩ | ⟨c', h3, h4⟩
    · rw [hp] at h3; cases h3
    · rw [hp] at h3; cases h3; exact h4
theorem rbytes_pop {g : Nat} {ws l : List (List UInt8)} {x : List UInt8} (w : World) (h : RdrAt w g ws) (hw : FitW ws) (hp : popW ws = .ok (x, l)) :
    Calls Tryz.prog 59 #[.pointer (some ⟨g, 0, none⟩)] w (BytesEnd g (bytesW oneW x) l w) := by
  cases ws with
  | nil => simp [popW] at hp
  | cons y r =>
    simp [popW] at hp
    obtain ⟨rfl, rfl⟩ := hp
    exact rbytes_some y r w h (hw.2 y List.mem_cons_self)
theorem rbytes_err {g : Nat} {ws : List (List UInt8)} {c : Int} (w : World) (h : RdrAt w g ws) (hp : popW ws = .error c) :
    Calls Tryz.prog 59 #[.pointer (some ⟨g, 0, none⟩)] w fun e w' => e = .panicked (fault 0 c) ∧ Same w w' := by
  cases ws with
  | nil => simp [popW] at hp; subst hp; exact rbytes_none w h
  | cons y r => simp [popW] at hp
theorem place_inA (x : List UInt8) : 0 ≤ placeOf wordsA x ∧ placeOf wordsA x ≤ 5 := by
  unfold placeOf
  split
  · rename_i h
    have h1 := List.idxOf_lt_length_of_mem h
    have h2 : wordsA.length = 5 := rfl
    omega
  · omega
end Go.Proofs.YtlodanjpkjfjiaaGreatDoor
