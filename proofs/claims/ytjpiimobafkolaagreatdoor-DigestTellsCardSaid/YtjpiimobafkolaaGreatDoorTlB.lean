/-
  A line of numbers, and the text of points and intervals, by the code. Conditions: numbers that an int holds; few of them; the table of Go's library is as laid.
-/
import Derived.Test.YtjpiimobafkolaaGreatDoorTlS
import Derived.Test.YtjpiimobafkolaaGreatDoorTcP
namespace Go.Proofs.YtjpiimobafkolaaGreatDoor
open Go.RowKit Go.Al
set_option linter.unusedVariables false

def inI (n : Int) : Prop := -9223372036854775808 ≤ n ∧ n ≤ 9223372036854775807
/-- numbers behind a letter -/
def numsT (l : List Int) : List UInt8 := l.flatMap fun n => 32 :: Lib.itoa n
def lineT (c : List UInt8) (l : List Int) : List UInt8 := c ++ numsT l ++ [10]
theorem numsT_take {l : List Int} {i : Nat} (h : i < l.length) : numsT (l.take (i + 1)) = numsT (l.take i) ++ (32 :: Lib.itoa l[i]) := by
  unfold numsT
  rw [List.take_succ_eq_append_getElem h, List.flatMap_append, List.flatMap_cons, List.flatMap_nil, List.append_nil]
theorem numsT_len : ∀ l : List Int, (∀ n ∈ l, inI n) → (numsT l).length ≤ l.length * 22
  | [], _ => by simp [numsT]
  | n :: l, h => by
    have h1 := numsT_len l fun x hx => h x (List.mem_cons_of_mem _ hx)
    have h2 := itoa_len n (h n List.mem_cons_self).1 (h n List.mem_cons_self).2
    unfold numsT at h1 ⊢
    rw [List.flatMap_cons, List.length_append, List.length_cons, List.length_cons]
    omega
set_option maxRecDepth 100000 in
set_option maxHeartbeats 4000000 in
theorem line_any {A : Option Addr} {c : Nat} (cc : List UInt8) (l : List Int) (w : World) (hl : LaidP w) (h : Rd w A (is l)) (hA : ∀ b, blkOf A = some b → b < w.heap.size) (hw : ∀ n ∈ l, inI n) (hn : l.length ≤ 3) (hc : cc.length ≤ 10) :
    Calls Tryz.prog 12 #[.string ⟨cc.toArray⟩, .slice A l.length c] w fun e w' => e = .returned (.string ⟨(lineT cc l).toArray⟩) ∧ Same w w' := by
  have Hl := hide hl
  have Hr := hide h
  have Htk := hide (fun (j : Nat) (hj : j < l.length) => numsT_take hj)
  have Hln := hide (fun (j : Nat) => numsT_len (l.take j) (fun x hx => hw x (List.mem_of_mem_take hx)))
  have Hfull := hide (fun (j : Nat) (hj : j = l.length) => (by rw [hj, List.take_length] : l.take j = l))
  have Hw := hide (fun (j : Nat) (hj : j < l.length) => hw _ (List.getElem_mem hj))
  clear hl h hw
  obtain ⟨n, hnn⟩ : ∃ n, l.length = n := ⟨_, rfl⟩
  rw [hnn] at hn ⊢
  have Hn := hide hnn
  clear hnn
  go_enter Tryz.func12, Tryz.ntmps12
  go_wp2_with fail
  go_loopg [0, 6, 9] n (fun g v0 v6 v9 wr => ∃ j : Nat, j ≤ n ∧ g = n - j ∧ v9 = .int .i64 j ∧ v0 = .string ⟨(cc ++ numsT (l.take j)).toArray⟩ ∧ Same w wr)
  case atStart => exact ⟨0, Nat.zero_le _, rfl, rfl, by simp [numsT], Chg.refl _ _⟩
  case round =>
    obtain ⟨j, hj, hg, rfl, rfl, hs⟩ := hrel
    have Hg := hide hg
    have Hs := hide hs
    clear hg hs
    have hll := Hln.out j
    rw [List.length_take] at hll
    have hT : (cc ++ numsT (l.take j)).length ≤ 80 := by
      rw [List.length_append]
      have : min j l.length ≤ 3 := by rw [Hn.out]; omega
      omega
    by_cases hlt : j < n
    · have hjl : j < l.length := by rw [Hn.out]; exact hlt
      obtain ⟨b, off, rfl, hcell⟩ := (Hr.out.same Hs.out).at_ (i := j) (by simpa [is] using hjl)
      rw [show (is l)[j]'(by simpa [is] using hjl) = .int .i64 l[j] by simp [is]] at hcell
      have Htk1 := hide (Htk.out j hjl)
      have hwj := Hw.out j hjl
      have HI := hide (fun w' (hs : Same w w') => itoaP_any l[j] hwj.1 hwj.2 w' (Hl.out.same hs))
      have hSl := itoa_len l[j] hwj.1 hwj.2
      obtain ⟨S, hS⟩ : ∃ S, Lib.itoa l[j] = S := ⟨_, rfl⟩
      rw [hS] at Htk1 HI hSl
      unfold strV at HI
      generalize l[j] = z at *
      obtain ⟨U, hU⟩ : ∃ U, cc ++ numsT (l.take j) = U := ⟨_, rfl⟩
      have HU : Hid (∀ X, cc ++ (numsT (l.take j) ++ X) = U ++ X) := hide fun X => by rw [← hU, List.append_assoc]
      rw [hU] at hT ⊢
      clear hU
      have q1 : ¬ 9223372036854775807 < 1 + S.length := by omega
      have q2 : ¬ 9223372036854775807 < U.length + (1 + S.length) := by omega
      clear hll hS hwj
      go_wp2_with (first
        | (go_at_call 19; (with_reducible refine (HI.out _ Hs.out).mono ?_); rintro e w2 ⟨rfl, hs2⟩; have Hs2 := hide (Same.trans Hs.out hs2); clear hs2)
        | fail)
      go_roundg (n - (j + 1))
      case measure => have := Hg.out; omega
      case rel => exact ⟨j + 1, by omega, rfl, by first | rfl | go_num, by rw [Htk1.out, show ((⟨#[32]⟩ : ByteArray)) = (⟨([32] : List UInt8).toArray⟩ : ByteArray) from rfl, bapp, bapp, HU.out]; rfl, Hs2.out⟩
    · have hje : j = n := by omega
      subst hje
      have htk := Hfull.out j Hn.out.symm
      rw [htk] at hT ⊢
      obtain ⟨U, hU⟩ : ∃ U, cc ++ numsT l = U := ⟨_, rfl⟩
      have HU : Hid (lineT cc l = U ++ [10]) := hide (by rw [← hU]; rfl)
      rw [hU] at hT ⊢
      clear hU
      have q1 : ¬ 9223372036854775807 < U.length + 1 := by omega
      go_wp2_with fail
      go_ret
      exact ⟨ret_eq (by rw [HU.out, ← bapp]; rfl), Hs.out⟩

def ptT (x : P3) : List UInt8 := lineT [112] [x.1, x.2.1, x.2.2]
def spT (x : P3) : List UInt8 := lineT [105] [x.1, x.2.1, x.2.2]
def linesT (f : P3 → List UInt8) (l : List P3) : List UInt8 := l.flatMap f
theorem linesT_take (f : P3 → List UInt8) {l : List P3} {i : Nat} (h : i < l.length) : linesT f (l.take (i + 1)) = linesT f (l.take i) ++ f l[i] := by
  unfold linesT
  rw [List.take_succ_eq_append_getElem h, List.flatMap_append, List.flatMap_cons, List.flatMap_nil, List.append_nil]
/-- numbers of three that ints hold -/
def In3 (x : P3) : Prop := inI x.1 ∧ inI x.2.1 ∧ inI x.2.2
theorem in3_mem {x : P3} (h : In3 x) : ∀ n ∈ [x.1, x.2.1, x.2.2], inI n := by
  intro n hn
  simp only [List.mem_cons, List.not_mem_nil, or_false] at hn
  rcases hn with rfl | rfl | rfl
  · exact h.1
  · exact h.2.1
  · exact h.2.2
theorem lineT_len (cc : List UInt8) {x : P3} (h : In3 x) (hc : cc.length ≤ 10) : (lineT cc [x.1, x.2.1, x.2.2]).length ≤ 80 := by
  have := numsT_len _ (in3_mem h)
  unfold lineT
  simp only [List.length_append, List.length_cons, List.length_nil] at this ⊢
  omega
theorem linesT_len (f : P3 → List UInt8) (hf : ∀ x, In3 x → (f x).length ≤ 80) : ∀ l : List P3, (∀ x ∈ l, In3 x) → (linesT f l).length ≤ l.length * 80
  | [], _ => by simp [linesT]
  | x :: l, h => by
    have h1 := linesT_len f hf l fun y hy => h y (List.mem_cons_of_mem _ hy)
    have h2 := hf x (h x List.mem_cons_self)
    unfold linesT at h1 ⊢
    rw [List.flatMap_cons, List.length_append, List.length_cons]
    omega
theorem ptT_len (x : P3) (h : In3 x) : (ptT x).length ≤ 80 := lineT_len [112] h (by decide)
theorem spT_len (x : P3) (h : In3 x) : (spT x).length ≤ 80 := lineT_len [105] h (by decide)
def textT (p s : List P3) : List UInt8 := linesT ptT p ++ linesT spT s
theorem linesT_at (f : P3 → List UInt8) (hf : ∀ x, In3 x → (f x).length ≤ 80) {l : List P3} (h : ∀ x ∈ l, In3 x) (hn : l.length ≤ 40) (j : Nat) : (linesT f (l.take j)).length ≤ 3200 := by
  have := linesT_len f hf (l.take j) fun x hx => h x (List.mem_of_mem_take hx)
  rw [List.length_take] at this
  have : min j l.length ≤ 40 := by omega
  omega
/-- a line of three numbers that lie in a row of their own -/
theorem line3_any (k : UInt8) (y1 y2 y3 : Int) (w : World) (hl : LaidP w) (h : In3 (y1, y2, y3)) (b : Nat) (hb : Blk w b 3 #[.int .i64 y1, .int .i64 y2, .int .i64 y3]) :
    Calls Tryz.prog 12 #[.string ⟨#[k]⟩, .slice (some ⟨b, 0, none⟩) 3 3] w fun e w' => e = .returned (.string ⟨(lineT [k] [y1, y2, y3]).toArray⟩) ∧ Same w w' :=
  line_any (A := some ⟨b, 0, none⟩) (c := 3) [k] [y1, y2, y3] w hl (fun _ => ⟨b, 0, rfl, fun q v hv => by rw [hb.cell, Nat.zero_add]; simpa [is] using hv⟩) (fun b' hb' => by cases hb'; exact hb.lt) (in3_mem h) (by simp) (by simp)
set_option maxRecDepth 100000 in
set_option maxHeartbeats 8000000 in
theorem dtext_any {A1 A2 : Option Addr} {n1 c1 n2 c2 : Nat} (p s : List P3) (w : World) (hl : LaidP w) (h1 : Row3 w A1 n1 c1 p) (h2 : Row3 w A2 n2 c2 s) (hp : ∀ x ∈ p, In3 x) (hs : ∀ x ∈ s, In3 x) (hb1 : n1 ≤ 40) (hb2 : n2 ≤ 40) :
    Calls Tryz.prog 8 #[.slice A1 n1 c1, .slice A2 n2 c2] w fun e w' => e = .returned (.string ⟨(textT p s).toArray⟩) ∧ Same w w' := by
  have HL := hide hl
  have Hn1 := hide h1.2.1
  have Hn2 := hide h2.2.1
  have HR1 := hide h1
  have HR2 := hide h2
  have Hlp := hide (linesT_at ptT ptT_len hp (by rw [h1.2.1]; exact hb1))
  have Hls := hide (linesT_at spT spT_len hs (by rw [h2.2.1]; exact hb2))
  have Hp := hide hp
  have Hs := hide hs
  have Hb0 := hide (Lib.fresh_isBuilder 35 5 w)
  obtain ⟨B, hB⟩ : ∃ B, w.heap.size = B := ⟨_, rfl⟩
  have HB := hide hB
  clear hl h1 h2 hp hs
  go_enter Tryz.func8, Tryz.ntmps8
  go_wp2_with fail
  go_loopg [7, 12] n1 (fun g vx vi wr => ∃ i : Nat, i ≤ n1 ∧ g = n1 - i ∧ vi = .int .i64 i ∧ Same w wr ∧ Lib.IsBuilder 35 5 B B (Lib.byteCells (linesT ptT (p.take i))) wr)
  case atStart => exact ⟨0, Nat.zero_le _, rfl, rfl, (Chg.refl _ w).alloc _, by rw [← HB.out]; simpa [linesT, Lib.byteCells] using Hb0.out⟩
  case round =>
    obtain ⟨i, hi, hg, rfl, hsm, hbd⟩ := hrel
    have Hg := hide hg
    have Hsm := hide hsm
    have Hbd := hide hbd
    clear hg hsm hbd
    by_cases hlt : i < n1
    · have hil : i < p.length := by rw [Hn1.out]; exact hlt
      obtain ⟨b, off, rfl, hbl, hc0, hc1, hc2⟩ := (HR1.out.same Hsm.out).at_ hil
      have h3 := Hp.out _ (List.getElem_mem hil)
      have Htk := hide (linesT_take ptT hil)
      have hln := Hlp.out i
      have hle := ptT_len _ h3
      obtain ⟨⟨y1, y2, y3⟩, hy⟩ : ∃ y, p[i] = y := ⟨_, rfl⟩
      rw [hy] at hc0 hc1 hc2 h3 Htk hle
      simp only at hc0 hc1 hc2
      have HLi : Hid (∀ w' bb, Same w w' → Blk w' bb 3 #[.int .i64 y1, .int .i64 y2, .int .i64 y3] → Calls Tryz.prog 12 #[.string ⟨#[112]⟩, .slice (some ⟨bb, 0, none⟩) 3 3] w' fun e w'' => e = .returned (.string ⟨(ptT (y1, y2, y3)).toArray⟩) ∧ Same w' w'') := hide fun w' bb hs hb => line3_any 112 y1 y2 y3 w' (HL.out.same hs) h3 bb hb
      have hwi : IntKind.i64.wrap ((i : Int) + 1) = (i : Int) + 1 := IntWalk.i64_in _ (by omega)
      generalize ptT (y1, y2, y3) = S at *
      have hU : (linesT ptT (p.take i)).length ≤ 6400 := by
        have := Hlp.out p.length
        rw [List.take_length] at this
        first | omega | (simp only [List.length_append]; omega)
      have HU : Hid (linesT ptT (p.take (i + 1)) = (linesT ptT (p.take i)) ++ S) := hide (by first | (rw [Htk.out]; done) | (rw [Htk.out, List.append_assoc]; done))
      generalize hU0 : linesT ptT (p.take i) = U at *
      have HW : Hid (∀ w', Lib.IsBuilder 35 5 B B (Lib.byteCells U) w' → B ≤ w'.heap.size → Calls Tryz.prog 11 #[.pointer (some ⟨B, 0, none⟩), .string ⟨S.toArray⟩] w' fun e w'' => e = .returned (.tuple #[.int .i64 ((⟨S.toArray⟩ : ByteArray).size : Nat), .nilIface]) ∧ Lib.BuilderAt 35 5 B B (.pointer (some ⟨B, 0, none⟩)) (Lib.byteCells (U ++ S)) w'' ∧ Below B w' w'') := hide fun w' hb hz => by
        have := bwrite B B _ (⟨S.toArray⟩ : ByteArray) w' hb (by rw [byteCells_len]; show _ + S.length ≤ _; omega) hz
        rw [byteCells_app] at this
        exact this
      have hs2 : Same wr ((wr.alloc (.cells #[.int .i64 y1, .int .i64 y2, .int .i64 y3] 37)).alloc (.cells #[.int .i64 y1, .int .i64 y2, .int .i64 y3] 3)) := ((Chg.refl _ _).alloc _).alloc _
      have hlit : Blk ((wr.alloc (.cells #[.int .i64 y1, .int .i64 y2, .int .i64 y3] 37)).alloc (.cells #[.int .i64 y1, .int .i64 y2, .int .i64 y3] 3)) (wr.heap.size + 1) 3 #[.int .i64 y1, .int .i64 y2, .int .i64 y3] := by
        have := Blk.new (wr.alloc (.cells #[.int .i64 y1, .int .i64 y2, .int .i64 y3] 37)) 3 #[.int .i64 y1, .int .i64 y2, .int .i64 y3]
        simpa using this
      have Hlit := hide hlit
      have Hs2 := hide (Same.trans Hsm.out hs2)
      have Hs2' := hide hs2
      clear hs2 hlit hy hln hle h3 hU
      go_wp2_with (first
        | (go_at_call 12; (with_reducible refine (HLi.out _ _ Hs2.out Hlit.out).mono ?_); rintro e w3 ⟨rfl, hs3⟩; have Hs3 := hide (Same.trans Hs2.out hs3); have Hs3' := hide (Same.trans Hs2'.out hs3); clear hs3)
        | (go_at_call 11; (with_reducible refine (HW.out w3 (isbSame Hbd.out Hs3'.out) (by have := Hs3.out.size; have := HB.out; omega)).mono ?_); rintro e w4 ⟨rfl, hb4, hs4⟩; have HS4 := hide (same_belowB Hs3.out hs4 (Nat.le_of_eq HB.out)); have HB4 := hide hb4; clear hb4 hs4)
        | fail)
      go_roundg (n1 - (i + 1))
      case measure => have := Hg.out; omega
      case rel => exact ⟨i + 1, by omega, by omega, by first | rfl | go_num, HS4.out, .inr (by rw [HU.out]; exact HB4.out)⟩
    · have hie : i = n1 := by omega
      subst hie
      have htk : p.take i = p := List.take_of_length_le (Nat.le_of_eq Hn1.out)
      have hbd := Hbd.out
      rw [htk] at hbd
      have Hbe := hide hbd
      clear hbd Hbd htk
      go_wp2_with fail
      go_loopg [9, 28] n2 (fun g vx vi wr => ∃ k : Nat, k ≤ n2 ∧ g = n2 - k ∧ vi = .int .i64 k ∧ Same w wr ∧ Lib.IsBuilder 35 5 B B (Lib.byteCells (linesT ptT p ++ linesT spT (s.take k))) wr)
      case atStart => exact ⟨0, Nat.zero_le _, rfl, rfl, Hsm.out, by simpa [linesT] using Hbe.out⟩
      case round =>
        obtain ⟨k, hi, hg, rfl, hsm, hbd⟩ := hrel
        have Hg := hide hg
        have Hsm := hide hsm
        have Hbd := hide hbd
        clear hg hsm hbd
        by_cases hlt : k < n2
        · have hil : k < s.length := by rw [Hn2.out]; exact hlt
          obtain ⟨b, off, rfl, hbl, hc0, hc1, hc2⟩ := (HR2.out.same Hsm.out).at_ hil
          have h3 := Hs.out _ (List.getElem_mem hil)
          have Htk := hide (linesT_take spT hil)
          have hln := Hls.out k
          have hle := spT_len _ h3
          obtain ⟨⟨y1, y2, y3⟩, hy⟩ : ∃ y, s[k] = y := ⟨_, rfl⟩
          rw [hy] at hc0 hc1 hc2 h3 Htk hle
          simp only at hc0 hc1 hc2
          have HLi : Hid (∀ w' bb, Same w w' → Blk w' bb 3 #[.int .i64 y1, .int .i64 y2, .int .i64 y3] → Calls Tryz.prog 12 #[.string ⟨#[105]⟩, .slice (some ⟨bb, 0, none⟩) 3 3] w' fun e w'' => e = .returned (.string ⟨(spT (y1, y2, y3)).toArray⟩) ∧ Same w' w'') := hide fun w' bb hs hb => line3_any 105 y1 y2 y3 w' (HL.out.same hs) h3 bb hb
          have hwi : IntKind.i64.wrap ((k : Int) + 1) = (k : Int) + 1 := IntWalk.i64_in _ (by omega)
          generalize spT (y1, y2, y3) = S at *
          have hU : (linesT ptT p ++ linesT spT (s.take k)).length ≤ 6400 := by
            have := Hlp.out p.length
            rw [List.take_length] at this
            first | omega | (simp only [List.length_append]; omega)
          have HU : Hid (linesT ptT p ++ linesT spT (s.take (k + 1)) = (linesT ptT p ++ linesT spT (s.take k)) ++ S) := hide (by first | (rw [Htk.out]; done) | (rw [Htk.out, List.append_assoc]; done))
          generalize hU0 : linesT ptT p ++ linesT spT (s.take k) = U at *
          have HW : Hid (∀ w', Lib.IsBuilder 35 5 B B (Lib.byteCells U) w' → B ≤ w'.heap.size → Calls Tryz.prog 11 #[.pointer (some ⟨B, 0, none⟩), .string ⟨S.toArray⟩] w' fun e w'' => e = .returned (.tuple #[.int .i64 ((⟨S.toArray⟩ : ByteArray).size : Nat), .nilIface]) ∧ Lib.BuilderAt 35 5 B B (.pointer (some ⟨B, 0, none⟩)) (Lib.byteCells (U ++ S)) w'' ∧ Below B w' w'') := hide fun w' hb hz => by
            have := bwrite B B _ (⟨S.toArray⟩ : ByteArray) w' hb (by rw [byteCells_len]; show _ + S.length ≤ _; omega) hz
            rw [byteCells_app] at this
            exact this
          have hs2 : Same wr ((wr.alloc (.cells #[.int .i64 y1, .int .i64 y2, .int .i64 y3] 44)).alloc (.cells #[.int .i64 y1, .int .i64 y2, .int .i64 y3] 3)) := ((Chg.refl _ _).alloc _).alloc _
          have hlit : Blk ((wr.alloc (.cells #[.int .i64 y1, .int .i64 y2, .int .i64 y3] 44)).alloc (.cells #[.int .i64 y1, .int .i64 y2, .int .i64 y3] 3)) (wr.heap.size + 1) 3 #[.int .i64 y1, .int .i64 y2, .int .i64 y3] := by
            have := Blk.new (wr.alloc (.cells #[.int .i64 y1, .int .i64 y2, .int .i64 y3] 44)) 3 #[.int .i64 y1, .int .i64 y2, .int .i64 y3]
            simpa using this
          have Hlit := hide hlit
          have Hs2 := hide (Same.trans Hsm.out hs2)
          have Hs2' := hide hs2
          clear hs2 hlit hy hln hle h3 hU
          go_wp2_with (first
            | (go_at_call 12; (with_reducible refine (HLi.out _ _ Hs2.out Hlit.out).mono ?_); rintro e w3 ⟨rfl, hs3⟩; have Hs3 := hide (Same.trans Hs2.out hs3); have Hs3' := hide (Same.trans Hs2'.out hs3); clear hs3)
            | (go_at_call 11; (with_reducible refine (HW.out w3 (isbSame Hbd.out Hs3'.out) (by have := Hs3.out.size; have := HB.out; omega)).mono ?_); rintro e w4 ⟨rfl, hb4, hs4⟩; have HS4 := hide (same_belowB Hs3.out hs4 (Nat.le_of_eq HB.out)); have HB4 := hide hb4; clear hb4 hs4)
            | fail)
          go_roundg (n2 - (k + 1))
          case measure => have := Hg.out; omega
          case rel => exact ⟨k + 1, by omega, by omega, by first | rfl | go_num, HS4.out, .inr (by rw [HU.out]; exact HB4.out)⟩
        · have hie : k = n2 := by omega
          subst hie
          have htk : s.take k = s := List.take_of_length_le (Nat.le_of_eq Hn2.out)
          have hbd := Hbd.out
          rw [htk] at hbd
          have Hbe := hide hbd
          clear hbd Hbd htk
          have HSt := hide (bstring B B (textT p s) wr Hbe.out (by rw [← HB.out]; exact Hsm.out.size))
          go_wp2_with (first
            | (go_at_call 13; (with_reducible refine HSt.out.mono ?_); rintro e w5 ⟨rfl, hs5⟩; have HS5 := hide (same_belowB Hsm.out hs5 (Nat.le_of_eq HB.out)); clear hs5)
            | fail)
          go_ret
          exact ⟨rfl, HS5.out⟩
end Go.Proofs.YtjpiimobafkolaaGreatDoor
