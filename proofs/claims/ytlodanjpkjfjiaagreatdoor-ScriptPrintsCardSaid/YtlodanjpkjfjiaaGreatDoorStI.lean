/-
  strings.Builder: a byte, a string written, its text. Condition: at most 2^47 bytes.
  Strings of bytes: a byte of one, its end. No conditions.
-/
import Derived.Test.YtlodanjpkjfjiaaGreatDoorStA
import Derived.Test.YtlodanjpkjfjiaaGreatDoorStr
/-! ScBu -/
namespace Go.Proofs.YtlodanjpkjfjiaaGreatDoor
open Go.RowKit Go.Al
open Go.Shelf
set_option linter.unusedVariables false

theorem lays166 : Go.Proofs.Lays.n166 Tryz.prog lays156_ren := {
  mixed := lays156.mixed,
  f166 := lays156.f166,
  f240 := lays156.f240,
  f276 := lays156.f276,
  t0 := lays156.t0,
  a0 := lays156.a0,
  z0 := lays156.z0,
  v0 := lays156.v0,
  t3 := lays156.t3,
  a3 := lays156.a3,
  z3 := lays156.z3,
  v3 := lays156.v3,
  t4 := lays156.t4,
  a4 := lays156.a4,
  z4 := lays156.z4,
  v4 := lays156.v4,
  t9 := lays156.t9,
  a9 := lays156.a9,
  z9 := lays156.z9,
  v9 := lays156.v9,
  t20 := lays156.t20,
  a20 := lays156.a20,
  z20 := lays156.z20,
  v20 := lays156.v20,
  t37 := lays156.t37,
  a37 := lays156.a37,
  z37 := lays156.z37,
  v37 := lays156.v37,
  t70 := lays156.t70,
  a70 := lays156.a70,
  z70 := lays156.z70,
  v70 := lays156.v70,
  t72 := lays156.t72,
  a72 := lays156.a72,
  z72 := lays156.z72,
  v72 := lays156.v72,
  t75 := lays156.t75,
  a75 := lays156.a75,
  z75 := lays156.z75,
  v75 := lays156.v75,
  t164 := lays156.t164,
  a164 := lays156.a164,
  z164 := lays156.z164,
  v164 := lays156.v164 }
def lays167_ren : Go.Shelf.Ren := { lays156_ren with f := fun | 167 => 48 | n => lays156_ren.f n }
theorem lays167 : Go.Proofs.Lays.n167 Tryz.prog lays167_ren := {
  mixed := lays156.mixed,
  f167 := Tryz.func48.trans (congrArg some (by kernel_rfl)),
  f240 := lays156.f240,
  f276 := lays156.f276,
  t0 := lays156.t0,
  a0 := lays156.a0,
  z0 := lays156.z0,
  v0 := lays156.v0,
  t4 := lays156.t4,
  a4 := lays156.a4,
  z4 := lays156.z4,
  v4 := lays156.v4,
  t5 := Builder_Extra_156.t5,
  a5 := Builder_Extra_156.a5,
  z5 := Builder_Extra_156.z5,
  v5 := Builder_Extra_156.v5,
  t9 := lays156.t9,
  a9 := lays156.a9,
  z9 := lays156.z9,
  v9 := lays156.v9,
  t20 := lays156.t20,
  a20 := lays156.a20,
  z20 := lays156.z20,
  v20 := lays156.v20,
  t37 := lays156.t37,
  a37 := lays156.a37,
  z37 := lays156.z37,
  v37 := lays156.v37,
  t70 := lays156.t70,
  a70 := lays156.a70,
  z70 := lays156.z70,
  v70 := lays156.v70,
  t72 := lays156.t72,
  a72 := lays156.a72,
  z72 := lays156.z72,
  v72 := lays156.v72,
  t75 := lays156.t75,
  a75 := lays156.a75,
  z75 := lays156.z75,
  v75 := lays156.v75,
  t164 := lays156.t164,
  a164 := lays156.a164,
  z164 := lays156.z164,
  v164 := lays156.v164 }
set_option maxRecDepth 100000 in
theorem Builder_Extra_167 : Builder.Extra Tryz.prog lays167_ren := {
  sizeBuilder := Builder_Extra_156.sizeBuilder
  liesBuilder := Builder_Extra_156.liesBuilder
  t5 := Builder_Extra_156.t5
  a5 := Builder_Extra_156.a5
  z5 := Builder_Extra_156.z5
  v5 := Builder_Extra_156.v5
  infoByte := Builder_Extra_156.infoByte
  cellsByte := Builder_Extra_156.cellsByte
  sizeByte := Builder_Extra_156.sizeByte
  neB5 := Builder_Extra_156.neB5 }
set_option maxRecDepth 100000 in
theorem bbyte (B b : Nat) (bs : List Value) (c : Int) (w : World) (h : Lib.IsBuilder 70 5 B b bs w) (hlen : bs.length + 1 ≤ 140737488355328) (hBw : B ≤ w.heap.size) :
    Calls Tryz.prog 48 #[.pointer (some ⟨b, 0, none⟩), .int .u8 c] w fun e w' => e = .returned .nilIface ∧ (Lib.BuilderAt 70 5 B b (.pointer (some ⟨b, 0, none⟩)) (bs ++ [.int .u8 c]) w' ∧ Below B w w') :=
  Any.Builder_WriteByte lays167 Builder_Extra_167 B b bs c w h hlen hBw
theorem bwrite (B b : Nat) (bs : List Value) (s : ByteArray) (w : World) (h : Lib.IsBuilder 70 5 B b bs w) (hlen : bs.length + s.size ≤ 140737488355328) (hBw : B ≤ w.heap.size) :
    Calls Tryz.prog 31 #[.pointer (some ⟨b, 0, none⟩), .string s] w fun e w' => e = .returned (.tuple #[.int .i64 s.size, .nilIface]) ∧ (Lib.BuilderAt 70 5 B b (.pointer (some ⟨b, 0, none⟩)) (bs ++ Lib.strCells s) w' ∧ Below B w w') :=
  Any.Builder_WriteString lays166 Builder_Extra_156 B b bs s w h hlen hBw
theorem bstring (B b : Nat) (l : List UInt8) (w : World) (h : Lib.IsBuilder 70 5 B b (Lib.byteCells l) w) (hBw : B ≤ w.heap.size) :
    Calls Tryz.prog 32 #[.pointer (some ⟨b, 0, none⟩)] w fun e w' => e = .returned (.string ⟨l.toArray⟩) ∧ Below B w w' :=
  Any.Builder_String_any lays169 Builder_Extra_169 B b l w h hBw
theorem batSame {T e : TypeId} {B b : Nat} {p : Value} {bs : List Value} {w w' : World} (h : Lib.BuilderAt T e B b p bs w) (hs : Same w w') : Lib.BuilderAt T e B b p bs w' := by
  obtain ⟨h1, v, h2, h3, h4⟩ := h
  exact ⟨h1, v, (hs.block b (Array.getElem?_eq_some_iff.1 h2).1 (fun h => h)).trans h2, own_chg h3 hs (fun _ _ h => h), h4⟩
theorem isbSame {T e : TypeId} {B b : Nat} {bs : List Value} {w w' : World} (h : Lib.IsBuilder T e B b bs w) (hs : Same w w') : Lib.IsBuilder T e B b bs w' :=
  h.elim (fun h => .inl (batSame h hs)) (fun h => .inr (batSame h hs))
theorem same_belowB {B : Nat} {w0 w w' : World} (h : Same w0 w) (h' : Below B w w') (hB : w0.heap.size ≤ B) : Same w0 w' :=
  ⟨h'.os.trans h.os, h'.tape.trans h.tape, h'.output.trans h.output, Nat.le_trans h.size h'.size, fun k hk => (ty_of_heap (h'.block k (by omega))).trans (h.tys k hk), fun k hk hn => (h'.block k (by omega)).trans (h.block k hk hn)⟩
theorem byteCells_app (a b : List UInt8) : Lib.byteCells a ++ Lib.strCells (⟨b.toArray⟩ : ByteArray) = Lib.byteCells (a ++ b) := by simp [Lib.byteCells, Lib.strCells]
theorem byteCells_len (a : List UInt8) : (Lib.byteCells a).length = a.length := by simp [Lib.byteCells]
theorem isb_of {T e : TypeId} {B b : Nat} {bs : List Value} {w : World} (h : Lib.BuilderAt T e B b (.pointer (some ⟨b, 0, none⟩)) bs w) : Lib.IsBuilder T e B b bs w := .inr h
theorem byteCells_one (a : List UInt8) (c : UInt8) : Lib.byteCells a ++ [Value.int .u8 ((c.toNat : Nat) : Int)] = Lib.byteCells (a ++ [c]) := by simp [Lib.byteCells]
end Go.Proofs.YtlodanjpkjfjiaaGreatDoor
/-! StI -/
namespace Go.Proofs.YtlodanjpkjfjiaaGreatDoor
open Go.RowKit Go.Al
set_option linter.unusedVariables false

theorem ba_size (l : List UInt8) : (⟨l.toArray⟩ : ByteArray).size = l.length := rfl
theorem ba_get (l : List UInt8) (i : Nat) (h : i < (⟨l.toArray⟩ : ByteArray).size) : (⟨l.toArray⟩ : ByteArray)[i] = l[i]'h := rfl
theorem ba_extract (l : List UInt8) (i j : Nat) : (⟨l.toArray⟩ : ByteArray).extract i j = ⟨((l.take j).drop i).toArray⟩ := by
  apply ByteArray.ext
  rw [ByteArray.data_extract]
  apply Array.ext'
  simp [List.drop_take]
theorem str_idx {l : List UInt8} {i : Nat} {c : UInt8} (h : l[i]? = some c) (j : Int) (hj : j = i) (w : World) : (Instr.index 9 (.string ⟨l.toArray⟩) (.int .i64 j)).run Tryz.prog w = .ok (.int .u8 (c.toNat : Int)) w := by
  subst hj
  obtain ⟨hi, rfl⟩ := List.getElem?_eq_some_iff.1 h
  rw [run_index_string _ _ _ _ _ Tryz.underlying9, dif_pos ⟨by omega, by rw [ba_size]; omega⟩, ba_get]
  rfl
theorem str_from {l b : List UInt8} {n : Nat} (h : l.drop n = b) (hn : n ≤ l.length) (j : Int) (hj : j = n) (w : World) : (Instr.slice 9 (.string ⟨l.toArray⟩) (some (.int .i64 j)) none none).run Tryz.prog w = .ok (.string ⟨b.toArray⟩) w := by
  subst hj
  subst h
  rw [run_slice_string_from_if _ _ _ _ _ Tryz.underlying9, if_pos ⟨by omega, by rw [ba_size]; omega⟩, ba_extract, ba_size, List.take_length]
  rfl
theorem str_to {l b : List UInt8} {n : Nat} (h : l.take n = b) (hn : n ≤ l.length) (j : Int) (hj : j = n) (w : World) : (Instr.slice 9 (.string ⟨l.toArray⟩) none (some (.int .i64 j)) none).run Tryz.prog w = .ok (.string ⟨b.toArray⟩) w := by
  subst hj
  subst h
  rw [run_slice_string_to_if _ _ _ _ _ Tryz.underlying9, if_pos ⟨by omega, by rw [ba_size]; omega⟩, ba_extract]
  rfl
theorem str_cut {l b : List UInt8} {n m : Nat} (h : (l.take m).drop n = b) (hn : n ≤ m) (hm : m ≤ l.length) (i j : Int) (hi : i = n) (hj : j = m) (w : World) : (Instr.slice 9 (.string ⟨l.toArray⟩) (some (.int .i64 i)) (some (.int .i64 j)) none).run Tryz.prog w = .ok (.string ⟨b.toArray⟩) w := by
  subst hi
  subst hj
  subst h
  rw [run_slice_string_if _ _ _ _ _ _ _ Tryz.underlying9]
  simp only [ba_size]
  rw [if_pos (by omega), if_pos (by omega), ba_extract]
  rfl
theorem ba_eq (a b : List UInt8) : ((⟨a.toArray⟩ : ByteArray) = ⟨b.toArray⟩) ↔ a = b := by
  constructor
  · intro h
    have := congrArg ByteArray.data h
    exact List.toArray_inj this
  · rintro rfl
    rfl
end Go.Proofs.YtlodanjpkjfjiaaGreatDoor
