/-
  Contracts of strings.Builder and of Itoa, as they serve here. Condition: the table of powers of ten is as laid.
-/
import Derived.Test.YtjpiimobafkolaaGreatDoorStr
import Derived.Test.YtjpiimobafkolaaGreatDoorStA
namespace Go.Proofs.YtjpiimobafkolaaGreatDoor
open Go.RowKit Go.Al
open Go.Shelf
open Go.Sort (grow)
set_option linter.unusedVariables false

theorem tab_same {P : Program} {w w' : World} {name : String} {k : IntKind} {zs : List Int} (h : Lib.TabIs P w name k zs) (hs : Same w w') : Lib.TabIs P w' name k zs := by
  unfold Lib.TabIs World.var? at h ⊢
  cases hg : P.globalNamed name with
  | none => rw [hg] at h; cases h
  | some g =>
    rw [hg] at h
    simp only [Option.bind_some] at h ⊢
    have hlt : g < w.heap.size := by
      rcases Nat.lt_or_ge g w.heap.size with h' | h'
      · exact h'
      · rw [Array.getElem?_eq_none h'] at h; cases h
    rw [hs.block g hlt (fun h => h)]
    exact h
/-- the table of Go's library that a number wants -/
structure LaidP (w : World) : Prop where
  p10 : Lib.TabIs Tryz.prog w "internal/strconv.uint64pow10" .u64 Lib.pow10Tab
theorem LaidP.same {w w' : World} (h : LaidP w) (hs : Same w w') : LaidP w' := ⟨tab_same h.p10 hs⟩
theorem same_growB (w : World) (k : Nat) (os : Array Obj) : Same w (grow (w.drewN k) os) :=
  ⟨rfl, rfl, rfl, by simp [grow], fun b hb => ty_of_heap (by simp only [grow]; exact Array.getElem?_append_left hb), fun b hb _ => by simp only [grow]; exact Array.getElem?_append_left hb⟩
theorem itoaP_any (n : Int) (h0 : -9223372036854775808 ≤ n) (h1 : n ≤ 9223372036854775807) (w : World) (h : LaidP w) :
    Calls Tryz.prog 19 #[.int .i64 n] w fun e w' => e = .returned (strV (Lib.itoa n)) ∧ Same w w' :=
  (strconv_Itoa n h0 h1 w h.p10).mono fun e w' ⟨he, k, os, hw⟩ => ⟨he, hw ▸ same_growB w k os⟩
def lays166_ren : Go.Shelf.Ren := ⟨fun | 166 => 11 | 240 => 18 | 276 => 30 | n => n, fun | 0 => 0 | 3 => 3 | 4 => 4 | 5 => 5 | 9 => 9 | 20 => 20 | 37 => 22 | 70 => 33 | 72 => 35 | 75 => 39 | 76 => 40 | 80 => 45 | 127 => 55 | 164 => 73 | n => n, fun | n => n⟩
theorem lays166 : Go.Proofs.Lays.n166 Tryz.prog lays166_ren := {
  mixed := by kernel_rfl
  f166 := Tryz.func11.trans (congrArg some (by kernel_rfl))
  f240 := Tryz.func18.trans (congrArg some (by kernel_rfl))
  f276 := Tryz.func30.trans (congrArg some (by kernel_rfl))
  t0 := Tryz.underlying0
  a0 := Tryz.isAgg0
  z0 := Tryz.sizeOf0
  v0 := Tryz.zeroValue0
  t3 := Tryz.underlying3
  a3 := Tryz.isAgg3
  z3 := Tryz.sizeOf3
  v3 := Tryz.zeroValue3
  t4 := Tryz.underlying4
  a4 := Tryz.isAgg4
  z4 := Tryz.sizeOf4
  v4 := Tryz.zeroValue4
  t9 := Tryz.underlying9
  a9 := Tryz.isAgg9
  z9 := Tryz.sizeOf9
  v9 := Tryz.zeroValue9
  t20 := Tryz.underlying20
  a20 := Tryz.isAgg20
  z20 := Tryz.sizeOf20
  v20 := Tryz.zeroValue20
  t37 := Tryz.underlying22
  a37 := Tryz.isAgg22
  z37 := Tryz.sizeOf22
  v37 := Tryz.zeroValue22
  t70 := Tryz.underlying33
  a70 := Tryz.isAgg33
  z70 := Tryz.sizeOf33
  v70 := Tryz.zeroValue33
  t72 := Tryz.underlying35
  a72 := Tryz.isAgg35
  z72 := Tryz.sizeOf35
  v72 := Tryz.zeroValue35
  t75 := Tryz.underlying39
  a75 := Tryz.isAgg39
  z75 := Tryz.sizeOf39
  v75 := Tryz.zeroValue39
  t164 := Tryz.underlying73
  a164 := Tryz.isAgg73
  z164 := Tryz.sizeOf73
  v164 := Tryz.zeroValue73 }
theorem Builder_Extra_166 : Builder.Extra Tryz.prog lays166_ren := {
  sizeBuilder := by kernel_rfl
  liesBuilder := by kernel_rfl
  t5 := Tryz.underlying5
  a5 := Tryz.isAgg5
  z5 := Tryz.sizeOf5
  v5 := Tryz.zeroValue5
  infoByte := by kernel_rfl
  cellsByte := by kernel_rfl
  sizeByte := by kernel_rfl
  neB5 := by decide }
theorem bwrite (B b : Nat) (bs : List Value) (s : ByteArray) (w : World) (h : Lib.IsBuilder 35 5 B b bs w) (hlen : bs.length + s.size ≤ 140737488355328) (hBw : B ≤ w.heap.size) :
    Calls Tryz.prog 11 #[.pointer (some ⟨b, 0, none⟩), .string s] w fun e w' => e = .returned (.tuple #[.int .i64 s.size, .nilIface]) ∧ (Lib.BuilderAt 35 5 B b (.pointer (some ⟨b, 0, none⟩)) (bs ++ Lib.strCells s) w' ∧ Below B w w') :=
  Any.Builder_WriteString lays166 Builder_Extra_166 B b bs s w h hlen hBw
theorem bstring (B b : Nat) (l : List UInt8) (w : World) (h : Lib.IsBuilder 35 5 B b (Lib.byteCells l) w) (hBw : B ≤ w.heap.size) :
    Calls Tryz.prog 13 #[.pointer (some ⟨b, 0, none⟩)] w fun e w' => e = .returned (.string ⟨l.toArray⟩) ∧ Below B w w' :=
  Any.Builder_String_any lays169 Builder_Extra_169 B b l w h hBw
theorem batSame {T e : TypeId} {B b : Nat} {p : Value} {bs : List Value} {w w' : World} (h : Lib.BuilderAt T e B b p bs w) (hs : Same w w') : Lib.BuilderAt T e B b p bs w' := by
  obtain ⟨h1, v, h2, h3, h4⟩ := h
  exact ⟨h1, v, (hs.block b (Array.getElem?_eq_some_iff.1 h2).1 (fun h => h)).trans h2, own_chg h3 hs (fun _ _ h => h), h4⟩
theorem isbSame {T e : TypeId} {B b : Nat} {bs : List Value} {w w' : World} (h : Lib.IsBuilder T e B b bs w) (hs : Same w w') : Lib.IsBuilder T e B b bs w' :=
  h.elim (fun h => .inl (batSame h hs)) (fun h => .inr (batSame h hs))
theorem same_belowB {B : Nat} {w0 w w' : World} (h : Same w0 w) (h' : Below B w w') (hB : w0.heap.size ≤ B) : Same w0 w' :=
  ⟨h'.os.trans h.os, h'.tape.trans h.tape, h'.output.trans h.output, Nat.le_trans h.size h'.size, fun k hk => (ty_of_heap (h'.block k (by omega))).trans (h.tys k hk), fun k hk hn => (h'.block k (by omega)).trans (h.block k hk hn)⟩
theorem byteCells_app (a b : List UInt8) : Lib.byteCells a ++ Lib.strCells (⟨b.toArray⟩ : ByteArray) = Lib.byteCells (a ++ b) := by simp [Lib.byteCells, Lib.strCells]
theorem byteCells_len (a : List UInt8) : (Lib.byteCells a).length = a.length := by simp [Lib.byteCells]
end Go.Proofs.YtjpiimobafkolaaGreatDoor
