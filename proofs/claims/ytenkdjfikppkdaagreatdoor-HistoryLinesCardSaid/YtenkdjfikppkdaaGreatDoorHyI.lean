/-
  The text of events, by the code's Text. Conditions: the two tables of Go's library are as laid; at most 64 events.
-/
import Derived.Test.YtenkdjfikppkdaaGreatDoorHyG
import Derived.Test.YtenkdjfikppkdaaGreatDoorHyA
namespace Go.Proofs.YtenkdjfikppkdaaGreatDoor
open Go.RowKit Go.Al
open Go.Shelf
set_option linter.unusedVariables false

theorem lays166 : Go.Proofs.Lays.n166 Tryz.prog lays156_ren := {
  mixed := lays156.mixed,
  f166 := lays156.f166,
  f240 := lays156.f240,
  f276 := lays156.f276,
  t0 := lays156.t0,
  a0 := lays156.a0,
  z0 := lays156.z0,
  v0 := lays156.v0,
  t3 := lays156.t3,
  a3 := lays156.a3,
  z3 := lays156.z3,
  v3 := lays156.v3,
  t4 := lays156.t4,
  a4 := lays156.a4,
  z4 := lays156.z4,
  v4 := lays156.v4,
  t9 := lays156.t9,
  a9 := lays156.a9,
  z9 := lays156.z9,
  v9 := lays156.v9,
  t20 := lays156.t20,
  a20 := lays156.a20,
  z20 := lays156.z20,
  v20 := lays156.v20,
  t37 := lays156.t37,
  a37 := lays156.a37,
  z37 := lays156.z37,
  v37 := lays156.v37,
  t70 := lays156.t70,
  a70 := lays156.a70,
  z70 := lays156.z70,
  v70 := lays156.v70,
  t72 := lays156.t72,
  a72 := lays156.a72,
  z72 := lays156.z72,
  v72 := lays156.v72,
  t75 := lays156.t75,
  a75 := lays156.a75,
  z75 := lays156.z75,
  v75 := lays156.v75,
  t164 := lays156.t164,
  a164 := lays156.a164,
  z164 := lays156.z164,
  v164 := lays156.v164 }
theorem bwrite (B b : Nat) (bs : List Value) (s : ByteArray) (w : World) (h : Lib.IsBuilder 79 5 B b bs w) (hlen : bs.length + s.size ≤ 140737488355328) (hBw : B ≤ w.heap.size) :
    Calls Tryz.prog 24 #[.pointer (some ⟨b, 0, none⟩), .string s] w fun e w' => e = .returned (.tuple #[.int .i64 s.size, .nilIface]) ∧ (Lib.BuilderAt 79 5 B b (.pointer (some ⟨b, 0, none⟩)) (bs ++ Lib.strCells s) w' ∧ Below B w w') :=
  Any.Builder_WriteString lays166 Builder_Extra_156 B b bs s w h hlen hBw
theorem bstring (B b : Nat) (l : List UInt8) (w : World) (h : Lib.IsBuilder 79 5 B b (Lib.byteCells l) w) (hBw : B ≤ w.heap.size) :
    Calls Tryz.prog 25 #[.pointer (some ⟨b, 0, none⟩)] w fun e w' => e = .returned (.string ⟨l.toArray⟩) ∧ Below B w w' :=
  Any.Builder_String_any lays169 Builder_Extra_169 B b l w h hBw
theorem batSame {T e : TypeId} {B b : Nat} {p : Value} {bs : List Value} {w w' : World} (h : Lib.BuilderAt T e B b p bs w) (hs : Same w w') : Lib.BuilderAt T e B b p bs w' := by
  obtain ⟨h1, v, h2, h3, h4⟩ := h
  exact ⟨h1, v, (hs.block b (Array.getElem?_eq_some_iff.1 h2).1 (fun h => h)).trans h2, own_chg h3 hs (fun _ _ h => h), h4⟩
theorem isbSame {T e : TypeId} {B b : Nat} {bs : List Value} {w w' : World} (h : Lib.IsBuilder T e B b bs w) (hs : Same w w') : Lib.IsBuilder T e B b bs w' :=
  h.elim (fun h => .inl (batSame h hs)) (fun h => .inr (batSame h hs))
theorem same_belowB {B : Nat} {w0 w w' : World} (h : Same w0 w) (h' : Below B w w') (hB : w0.heap.size ≤ B) : Same w0 w' :=
  ⟨h'.os.trans h.os, h'.tape.trans h.tape, h'.output.trans h.output, Nat.le_trans h.size h'.size, fun k hk => (ty_of_heap (h'.block k (by omega))).trans (h.tys k hk), fun k hk hn => (h'.block k (by omega)).trans (h.block k hk hn)⟩
/-- the text of events -/
def textB (l : List Ev) : List UInt8 := l.flatMap fun e => lineB e ++ [10]
theorem textB_take {l : List Ev} {i : Nat} (h : i < l.length) : textB (l.take (i + 1)) = textB (l.take i) ++ (lineB l[i] ++ [10]) := by
  unfold textB
  rw [List.take_succ_eq_append_getElem h, List.flatMap_append]
  simp
theorem lineB_len (e : Ev) (hw : WfEv e) : (lineB e).length ≤ 200 := by
  have n1 := itoa_len e.st hw.st.1 hw.st.2
  have n2 := itoa_len e.ss hw.ss.1 hw.ss.2
  have n3 := itoa_len e.op hw.op.1 hw.op.2
  have n4 := itoa_len e.t.e hw.te.1 hw.te.2
  have n5 := itoa_len e.t.n hw.tn.1 hw.tn.2
  have n6 := wordB_len e.k
  unfold lineB partsB
  split
  · simp [Lib.join]; omega
  · split
    · simp [Lib.join]; omega
    · simp [Lib.join]; omega
theorem textB_len : ∀ l : List Ev, (∀ e ∈ l, WfEv e) → (textB l).length ≤ l.length * 201
  | [], _ => by simp [textB]
  | e :: r, h => by
    have h1 := textB_len r fun x hx => h x (List.mem_cons_of_mem _ hx)
    have h2 := lineB_len e (h e List.mem_cons_self)
    unfold textB at h1 ⊢
    rw [List.flatMap_cons, List.length_append, List.length_append, List.length_cons]
    simp only [List.length_cons, List.length_nil]
    omega
theorem byteCells_app (a b : List UInt8) : Lib.byteCells a ++ Lib.strCells (⟨b.toArray⟩ : ByteArray) = Lib.byteCells (a ++ b) := by simp [Lib.byteCells, Lib.strCells]
theorem byteCells_len (a : List UInt8) : (Lib.byteCells a).length = a.length := by simp [Lib.byteCells]
set_option maxRecDepth 100000 in
set_option maxHeartbeats 4000000 in
theorem text_any {A : Option Addr} {c : Nat} {l : List Ev} (w : World) (hl : Laid w) (h : Evs w A l) (hwf : ∀ d ∈ l, WfEv d) (hn : l.length ≤ 64) :
    Calls Tryz.prog 9 #[.slice A l.length c] w fun e w' => e = .returned (strV (textB l)) ∧ Same w w' := by
  have H := hide h
  have Hl := hide hl
  have Hwf := hide hwf
  have HT := hide (textB_len l hwf)
  obtain ⟨n, hnn⟩ : ∃ n, l.length = n := ⟨_, rfl⟩
  rw [hnn] at hn HT ⊢
  have Hn := hide hnn
  clear hnn h hl hwf
  have Hb0 := hide (Lib.fresh_isBuilder 79 5 w)
  go_enter Tryz.func9, Tryz.ntmps9
  go_wp2_with fail
  go_loopg [5, 8] n (fun k u vi wr => ∃ i : Nat, i ≤ n ∧ k = n - i ∧ vi = .int .i64 i ∧ Same w wr ∧ Lib.IsBuilder 79 5 w.heap.size w.heap.size (Lib.byteCells (textB (l.take i))) wr)
  case atStart => exact ⟨0, Nat.zero_le _, rfl, rfl, (Chg.refl _ w).alloc _, Hb0.out⟩
  case round =>
    obtain ⟨i, hi, hk, rfl, hsm, hbd⟩ := hrel
    have Hk := hide hk
    have Hsm := hide hsm
    have Hbd := hide hbd
    clear hk hsm hbd
    by_cases hlt : i < n
    · have hil : i < l.length := by rw [Hn.out]; exact hlt
      obtain ⟨b, off, rfl, hbl, hra, hrp⟩ := (H.out.same Hsm.out).at_ hil
      have Hra := hide hra
      have hwe := Hwf.out _ (List.getElem_mem hil)
      have HLi := hide (fun w' (hs : Same w w') => line_any l[i] w' (Hl.out.same hs) hwe)
      have Htk := hide (textB_take hil)
      have Hlt : Hid ((textB (l.take i)).length ≤ 64 * 201) := hide (Nat.le_trans (textB_len _ fun e he => Hwf.out e (List.mem_of_mem_take he)) (by rw [List.length_take]; exact Nat.mul_le_mul_right _ (Nat.le_trans (Nat.min_le_right _ _) (by rw [Hn.out]; exact hn))))
      have hll := lineB_len l[i] hwe
      have Hlen := hide (evL_length l[i])
      have Hon := hide (one_evL l[i])
      have HBl := hide (Blk.new wr 46 (evL l[i]).toArray)
      have q1 : ¬ 9223372036854775807 < (lineB l[i]).length + 1 := by omega
      have HW : Hid (∀ w', Lib.IsBuilder 79 5 w.heap.size w.heap.size (Lib.byteCells (textB (l.take i))) w' → w.heap.size ≤ w'.heap.size → Calls Tryz.prog 24 #[.pointer (some ⟨w.heap.size, 0, none⟩), .string ((⟨(lineB l[i]).toArray⟩ : ByteArray) ++ (⟨#[10]⟩ : ByteArray))] w' fun e w'' => e = .returned (.tuple #[.int .i64 ((⟨(lineB l[i]).toArray⟩ : ByteArray) ++ (⟨#[10]⟩ : ByteArray)).size, .nilIface]) ∧ Lib.BuilderAt 79 5 w.heap.size w.heap.size (.pointer (some ⟨w.heap.size, 0, none⟩)) (Lib.byteCells (textB (l.take (i + 1)))) w'' ∧ Below w.heap.size w' w'') := hide fun w' hb hz => by
        have h1 := Hlt.out
        have := bwrite w.heap.size w.heap.size _ ((⟨(lineB l[i]).toArray⟩ : ByteArray) ++ (⟨#[10]⟩ : ByteArray)) w' hb (by rw [byteCells_len, ByteArray.size_append]; show _ + ((lineB l[i]).length + 1) ≤ _; omega) hz
        rw [show ((⟨#[10]⟩ : ByteArray)) = (⟨([10] : List UInt8).toArray⟩ : ByteArray) from rfl, bapp, byteCells_app, ← Htk.out] at this
        rw [show ((⟨#[10]⟩ : ByteArray)) = (⟨([10] : List UInt8).toArray⟩ : ByteArray) from rfl, bapp]
        exact this
      clear hra hrp hwe hll
      unfold evV strV at HLi
      generalize lineB l[i] = S at *
      generalize evL l[i] = L at *
      go_wp2_with (first
        | (refine wpList_ld (by rfl) 46 _ rfl b (off + i * 27) rfl L _ Hra.out Tryz.underlying46 rfl (by rw [Hlen.out]; exact infoEvt) ?_)
        | (refine wpList_st (by rfl) 46 _ _ rfl rfl L rfl _ _ (by rw [Hlen.out]; exact infoEvt) (by rw [Hlen.out]; rfl) Hon.out ?_)
        | (refine wpList_ld (by rfl) 46 _ rfl wr.heap.size 0 rfl L _ (rangeAt_lit wr L 46) Tryz.underlying46 rfl (by rw [Hlen.out]; exact infoEvt) ?_)
        | (go_at_call 22; (with_reducible refine (HLi.out _ (Hsm.out.alloc _)).mono ?_); rintro e w2 ⟨rfl, hs⟩; have hs2 := Same.trans ((Chg.refl (fun _ => False) wr).alloc (.cells L.toArray 46)) hs; have Hs2 := hide hs2; clear hs hs2)
        | (go_at_call 24; (with_reducible refine (HW.out w2 (isbSame Hbd.out Hs2.out) (Same.trans Hsm.out Hs2.out).size).mono ?_); rintro e w3 ⟨rfl, hb3, hs3⟩; have HS3 := hide (same_belowB (Same.trans Hsm.out Hs2.out) hs3 (Nat.le_refl _)); have HB3 := hide hb3; clear hb3 hs3)
        | fail)
      go_roundg (n - (i + 1))
      case measure => have := Hk.out; omega
      case rel =>
        exact ⟨i + 1, by omega, rfl, by go_num, HS3.out, .inr HB3.out⟩
    · have hie : i = n := by omega
      subst hie
      have Htk := hide (show l.take i = l from List.take_of_length_le (by rw [Hn.out]; exact Nat.le_refl _))
      have HBs := hide (bstring w.heap.size w.heap.size _ _ Hbd.out Hsm.out.size)
      go_wp2_with (first
        | (go_at_call 25; (with_reducible refine HBs.out.mono ?_); rintro e w3 ⟨rfl, hs3⟩; have HS3 := hide (same_belowB Hsm.out hs3 (Nat.le_refl _)); clear hs3)
        | fail)
      go_ret
      exact ⟨by rw [Htk.out]; rfl, HS3.out⟩
end Go.Proofs.YtenkdjfikppkdaaGreatDoor
