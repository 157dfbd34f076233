/-
  The evaluator: copy, bytes as a string; all operations that touch memory and call nobody, in one. No program is named here. No conditions.
-/
import Derived.Test.YtopkdiiigidfdaaGreatEvS
namespace Go.Ev
open Go.RowKit Go.Al
set_option linter.unusedVariables false

def copyS (P : Program) (st : St) (td ts : TypeId) (d s : SV) : Option (SV × St) :=
  match P.underlying td, P.underlying ts, d, s with
  | some (.slice e), some (.slice _), .slice (some (id, off)) n _, .slice (some (id2, off2)) m _ => match szOf P e, look st.H id, look st.H id2 with
    | some sz, some (.cells e1 cs ext), some (.cells _ cs2 _) => cond (Nat.ble (off2 + Nat.min m n * sz) cs2.length && Nat.ble (off + Nat.min m n * sz) cs.length && ((cs2.drop off2).take (Nat.min m n * sz)).all oneB)
      (some (intOf (Nat.min m n), ⟨ins st.H id (.cells e1 (setR cs off ((cs2.drop off2).take (Nat.min m n * sz))) ext), st.nx, id :: st.wr⟩)) none
    | _, _, _ => none
  | _, _, _, _ => none
def byteOf : SV → Option UInt8
  | .int .u8 (.ofNat n) => cond (Nat.blt n 256) (some (UInt8.ofNat n)) none
  | _ => none
/-- bytes as a string -/
def bytesS (P : Program) (st : St) (s d : TypeId) (x : SV) : Option SV :=
  match P.underlying s, P.underlying d, x with
  | some (.slice e), some .string, .slice p n c => match P.underlying e with
    | some (.int .u8) => match p with
      | none => cond (Nat.beq n 0) (some (.str [])) none
      | some (id, off) => match look st.H id with
        | some (.cells _ cs _) => cond (Nat.ble (off + n) cs.length) (match mapO byteOf ((cs.drop off).take n) with
            | some l => some (.str l)
            | none => none) none
        | _ => none
    | _ => none
  | _, _, _ => none
section
variable {P : Program} {A : Nat → Prop} {I : In} {st : St} {w w' : World}
theorem copyS_run (hok : Ok P A I st w) {td ts : TypeId} {d s v : SV} {st' : St} (h : copyS P st td ts d s = some (v, st')) (ty : TypeId) :
    ∃ w', (Builtin.copy_ #[td, ts] ty #[d.den I, s.den I]).run P w = .ok (v.den I) w' ∧ Mv P A I st w I st' w' ∧ v.ok (up A st.nx st'.nx) I := by
  unfold copyS at h
  split at h
  · rename_i e e2 id off n c id2 off2 m c2 hu hu2
    split at h
    · rename_i sz e1 cs ext e3 cs2 ext2 hsz hl hl2
      cases hb : (Nat.ble (off2 + Nat.min m n * sz) cs2.length && Nat.ble (off + Nat.min m n * sz) cs.length && ((cs2.drop off2).take (Nat.min m n * sz)).all oneB)
      · rw [hb] at h; cases h
      rw [hb] at h
      cases h
      simp only [Bool.and_eq_true] at hb
      obtain ⟨⟨b1, b2⟩, b3⟩ := hb
      have b1 := Nat.le_of_ble_eq_true b1
      have b2 := Nat.le_of_ble_eq_true b2
      have hll : ((cs2.drop off2).take (Nat.min m n * sz)).length = Nat.min m n * sz := by rw [List.length_take, List.length_drop]; omega
      obtain ⟨w', hr, hm⟩ := hok.putC hl (by rw [hll]; exact b2) b3 (((hok.key id2 _ hl2).2.1.drop off2).take _)
      refine ⟨w', ?_, hm, trivial⟩
      have hld := hok.loadC hl2 b1
      simp only [SV.den, Option.map_some, padr]
      simp [Builtin.copy_, run_underlying hu, szOf_run hsz, Builtin.lenOf, Builtin.firstCells, hld, hr, intOf, goInt, SV.den]
    · cases h
  · cases h
theorem byteOf_den {x : SV} {b : UInt8} (h : byteOf x = some b) : x.den I = .int .u8 (b.toNat : Int) := by
  unfold byteOf at h
  split at h
  · rename_i n
    cases hb : Nat.blt n 256
    · rw [hb] at h; cases h
    · rw [hb] at h
      cases h
      have : n < 256 := Nat.le_of_ble_eq_true hb
      simp [SV.den]
      omega
  · cases h
theorem bytesOf_den : ∀ {l : List SV} {r : List UInt8}, mapO byteOf l = some r → denL I l = bs r
  | [], r, h => by cases h; rfl
  | x :: l, r, h => by
    obtain ⟨y, m, hy, hm, rfl⟩ := mapO_cons h
    simp only [denL, byteOf_den hy, bytesOf_den hm]
    rfl
theorem bytesS_run (hok : Ok P A I st w) {s d : TypeId} {x v : SV} (h : bytesS P st s d x = some v) : (convert s d (x.den I)).run P w = .ok (v.den I) w ∧ v.ok A I := by
  unfold bytesS at h
  split at h
  · rename_i e p n c hs hd
    split at h
    · rename_i he
      split at h
      · rw [beq_cond] at h
        split at h
        · rename_i h0
          subst h0
          cases h
          exact ⟨run_bs_string0 hs he hd _ (l := []) rfl (Rd.nil w _), trivial⟩
        · cases h
      · rename_i id off
        split at h
        · rename_i e3 cs ext hl
          cases hb : Nat.ble (off + n) cs.length
          · rw [hb] at h; cases h
          rw [hb] at h
          have hle := Nat.le_of_ble_eq_true hb
          simp only [cond_true] at h
          split at h
          · rename_i l hm
            cases h
            have hlen := mapO_length hm
            rw [List.length_take, List.length_drop, Nat.min_eq_left (by omega)] at hlen
            refine ⟨run_bs_string0 hs he hd _ (l := l) hlen fun _ => ⟨I.adr id, off, rfl, fun i v hv => ?_⟩, trivial⟩
            have := hok.range hl hle i v (by rw [bytesOf_den hm]; exact hv)
            rwa [add_lit] at this
          · cases h
        · cases h
    · cases h
  · cases h
end
/-- operations that touch memory, and call nobody; no value: an effect alone -/
def hop (P : Program) (o : Oper) (fr : List SV) (st : St) : Option (Option SV × St) :=
  match o.op with
  | .alloc e => match zeroS P e with
    | some zs => some (some (newS st e zs).1, (newS st e zs).2)
    | none => none
  | .box e x => match opv fr x with
    | some v => match cellsS v with
      | some cs => some (some (newS st e cs).1, (newS st e cs).2)
      | none => none
    | none => none
  | .load t x => match opv fr x with
    | some v => match loadS P st t v with
      | some r => some (some r, st)
      | none => none
    | none => none
  | .store t x y => match opv fr x, opv fr y with
    | some u, some v => match storeS P st t u v with
      | some st' => some (none, st')
      | none => none
    | _, _ => none
  | .buildSlice t len parts => match partsS fr parts.toList with
    | some ps => match buildSliceS P st t len ps with
      | some (v, st') => some (some v, st')
      | none => none
    | none => none
  | .makeSlice t l c => match opv fr l, opv fr c with
    | some u, some v => match makeSliceS P st t u v with
      | some (r, st') => some (some r, st')
      | none => none
    | _, _ => none
  | .binOp .eql t x y _ => match opv fr x, opv fr y with
    | some u, some v => match ptrEqS P st t u v with
      | some b => some (some (.bool b), st)
      | none => none
    | _, _ => none
  | .binOp .neq t x y _ => match opv fr x, opv fr y with
    | some u, some v => match ptrEqS P st t u v with
      | some b => some (some (.bool !b), st)
      | none => none
    | _, _ => none
  | .convert s d x => match opv fr x with
    | some v => match bytesS P st s d v with
      | some r => some (some r, st)
      | none => none
    | none => none
  | .slice t x lo hi mx => match opv fr x, mapO (opv fr) lo.toList, mapO (opv fr) hi.toList, mapO (opv fr) mx.toList with
    | some v, some l, some h, some m => match sliceE P st t v l.head? h.head? m.head? with
      | some (r, st') => some (some r, st')
      | none => none
    | _, _, _, _ => none
  | .makeMap _ none => some (some (newMapS st).1, (newMapS st).2)
  | .lookup t x i ok => match opv fr x, opv fr i with
    | some u, some v => match lookupS P st t u v ok with
      | some r => some (some r, st)
      | none => none
    | _, _ => none
  | .mapUpdate t m k x => match opv fr m, opv fr k, opv fr x with
    | some u, some v, some y => match updateS P st t u v y with
      | some st' => some (none, st')
      | none => none
    | _, _, _ => none
  | .insert t m k x => match opv fr m, opv fr k, opv fr x with
    | some u, some v, some y => match updateS P st t u v y with
      | some st' => some (none, st')
      | none => none
    | _, _, _ => none
  | .call c => match c.callee with
    | .builtin b => match mapO (opv fr) c.args.toList with
      | some args => match b, c.argTypes.toList, args with
        | .len, t :: _, [m] => match lenMapS P st t m with
          | some r => some (some r, st)
          | none => none
        | .delete, t :: _, [m, k] => match deleteS P st t m k with
          | some st' => some (some (.tup []), st')
          | none => none
        | .clear, t :: _, [m] => match clearMapS P st t m with
          | some st' => some (some (.tup []), st')
          | none => none
        | .append, [t, tx], [s, x] => match appendS P st t tx s x with
          | some (r, st') => some (some r, st')
          | none => none
        | .copy, [t, tx], [s, x] => match copyS P st t tx s x with
          | some (r, st') => some (some r, st')
          | none => none
        | _, _, _ => none
      | none => none
    | _ => none
  | _ => none
section
variable {P : Program} {A : Nat → Prop} {I : In} {st : St} {w w' : World} {fr : List SV} {a : Act}
def outOf (I : In) : Option SV → Next
  | some v => .value (v.den I)
  | none => .skip
theorem hop_run (hok : Ok P A I st w) {o : Oper} {r : Option SV} {st' : St} (hf : Fr A I fr a) (h : hop P o fr st = some (r, st')) :
    ∃ I' w', (execOp a.eval o).run P w = .ok (outOf I' r) w' ∧ Mv P A I st w I' st' w' ∧ ∀ v, r = some v → v.ok (up A st.nx st'.nx) I' := by
  have one : ∀ v : SV, v.ok A I → ∀ u, some v = some u → u.ok (up A st.nx st.nx) I := fun v hv u e => by cases e; exact ok_mono (fun i hi => .inl hi) v hv
  have new : ∀ (e : TypeId) {cs : List SV}, okL A I cs → ∃ I' w', w' = w.alloc (.cells (denL I cs).toArray e) ∧ (newS st e cs).1.den I' = .pointer (some ⟨w.heap.size, 0, none⟩) ∧ Mv P A I st w I' (newS st e cs).2 w' ∧ ∀ v, some (newS st e cs).1 = some v → v.ok (up A st.nx (newS st e cs).2.nx) I' := fun e cs hcs => by
    obtain ⟨h1, h2, h3⟩ := newS_run hok e hcs (Chg.refl _ w) rfl
    exact ⟨_, _, rfl, h2, h1, fun v e => by cases e; exact h3⟩
  unfold hop at h
  split at h
  case h_1 e ho =>
    split at h
    · rename_i zs hz
      cases h
      obtain ⟨z, z1, z2, z3, _⟩ := zeroS_run (A := A) (I := I) hz w
      obtain ⟨I', w', rfl, n1, n2, n3⟩ := new e z3
      refine ⟨I', _, ?_, n2, n3⟩
      simp [execOp, ho, Instr.alloc, z1, newVar, newRow, outOf, n1, ← z2]
    · cases h
  case h_2 e x ho =>
    split at h
    · rename_i v hv
      split at h
      · rename_i cs hcs
        cases h
        have hd := opv_den hf hv
        obtain ⟨c1, c2⟩ := cellsS_den (A := A) (I := I) hok.val hcs
        obtain ⟨I', w', rfl, n1, n2, n3⟩ := new e (c2 hd.2)
        refine ⟨I', _, ?_, n2, n3⟩
        simp [execOp, ho, Instr.box, hd.1, c1, newVar, newRow, outOf, n1]
      · cases h
    · cases h
  case h_3 t x ho =>
    split at h
    · rename_i v hv
      split at h
      · rename_i r hr
        cases h
        have hd := opv_den hf hv
        have := loadS_run hok hr
        exact ⟨I, w, by simp [execOp, ho, hd.1, this.1, outOf], Mv.refl hok, one _ this.2⟩
      · cases h
    · cases h
  case h_4 t x y ho =>
    split at h
    · rename_i u v hu hv
      split at h
      · rename_i st' hst
        cases h
        have h1 := opv_den hf hu
        have h2 := opv_den hf hv
        obtain ⟨w', hr, hm⟩ := storeS_run hok hst h2.2
        exact ⟨I, w', by simp [execOp, ho, h1.1, h2.1, hr, outOf], hm, fun v e => by cases e⟩
      · cases h
    · cases h
  case h_5 t len parts ho =>
    split at h
    · rename_i ps hps
      split at h
      · rename_i v st' hb
        cases h
        have h1 := partsS_den hf hps
        obtain ⟨I', w', hr, hm, hv⟩ := buildSliceS_run hok hb h1.2 (parts.map fun x => (x.1, a.eval x.2)) (by rw [Array.toList_map]; exact h1.1)
        refine ⟨I', w', ?_, hm, fun u e => by cases e; exact hv⟩
        simp only [execOp, ho]
        rw [Sem.run_bind, hr]
        rfl
      · cases h
    · cases h
  case h_6 t l c ho =>
    split at h
    · rename_i u v hu hv
      split at h
      · rename_i r st' hb
        cases h
        have h1 := opv_den hf hu
        have h2 := opv_den hf hv
        obtain ⟨I', w', hr, hm, hv⟩ := makeSliceS_run hok hb
        exact ⟨I', w', by simp [execOp, ho, h1.1, h2.1, hr, outOf], hm, fun u e => by cases e; exact hv⟩
      · cases h
    · cases h
  case h_7 t x y ty ho =>
    split at h
    · rename_i u v hu hv
      split at h
      · rename_i b hb
        cases h
        have h1 := opv_den hf hu
        have h2 := opv_den hf hv
        have := (ptrEqS_run hok hb x y).1
        refine ⟨I, w, ?_, Mv.refl hok, one _ trivial⟩
        simp only [execOp, ho, h1.1, h2.1]
        rw [Sem.run_bind, this]
        rfl
      · cases h
    · cases h
  case h_8 t x y ty ho =>
    split at h
    · rename_i u v hu hv
      split at h
      · rename_i b hb
        cases h
        have h1 := opv_den hf hu
        have h2 := opv_den hf hv
        have := (ptrEqS_run hok hb x y).2
        refine ⟨I, w, ?_, Mv.refl hok, one _ trivial⟩
        simp only [execOp, ho, h1.1, h2.1]
        rw [Sem.run_bind, this]
        rfl
      · cases h
    · cases h
  case h_9 s d x ho =>
    split at h
    · rename_i v hv
      split at h
      · rename_i r hr
        cases h
        have h1 := opv_den hf hv
        have := bytesS_run hok hr
        refine ⟨I, w, ?_, Mv.refl hok, one _ this.2⟩
        simp only [execOp, ho, h1.1]
        rw [Sem.run_bind, this.1]
        rfl
      · cases h
    · cases h
  case h_10 t x lo hi mx ho =>
    split at h
    · rename_i y l h' m hy hl hh hm
      split at h
      · rename_i r st' hs
        cases h
        have h1 := opv_den hf hy
        have e1 := opvO_den hf hl
        have e2 := opvO_den hf hh
        have e3 := opvO_den hf hm
        obtain ⟨I', w', hr, hm, hv⟩ := sliceE_run hok hs h1.2
        refine ⟨I', w', ?_, hm, fun u e => by cases e; exact hv⟩
        simp only [execOp, ho, h1.1, e1.1, e2.1, e3.1]
        rw [Sem.run_bind, hr]
        rfl
      · cases h
    · cases h
  case h_11 t ho =>
    cases h
    obtain ⟨n1, n2, n3⟩ := newMapS_run hok
    refine ⟨_, _, ?_, n1, fun v e => by cases e; exact n3⟩
    simp [execOp, ho, Instr.makeMap, outOf, n2]
  case h_12 t x i ok ho =>
    split at h
    · rename_i u v hu hv
      split at h
      · rename_i r hr
        cases h
        have h1 := opv_den hf hu
        have h2 := opv_den hf hv
        have := lookupS_run hok hr
        exact ⟨I, w, by simp [execOp, ho, h1.1, h2.1, this.1, outOf], Mv.refl hok, one _ this.2⟩
      · cases h
    · cases h
  case h_13 t m k x ho =>
    split at h
    · rename_i u v y hu hv hy
      split at h
      · rename_i st' hst
        cases h
        have h1 := opv_den hf hu
        have h2 := opv_den hf hv
        have h3 := opv_den hf hy
        obtain ⟨w', hr, hm⟩ := updateS_run hok hst h2.2 h3.2
        exact ⟨I, w', by simp [execOp, ho, h1.1, h2.1, h3.1, hr, outOf], hm, fun v e => by cases e⟩
      · cases h
    · cases h
  case h_14 t m k x ho =>
    split at h
    · rename_i u v y hu hv hy
      split at h
      · rename_i st' hst
        cases h
        have h1 := opv_den hf hu
        have h2 := opv_den hf hv
        have h3 := opv_den hf hy
        obtain ⟨w', hr, hm⟩ := updateS_run hok hst h2.2 h3.2
        exact ⟨I, w', by simp [execOp, ho, h1.1, h2.1, h3.1, hr, outOf], hm, fun v e => by cases e⟩
      · cases h
    · cases h
  case h_15 c ho =>
    split at h
    · rename_i b hb
      split at h
      · rename_i args hargs
        have h1 := opvL_den hf hargs
        have e1 : c.args.map a.eval = (denL I args).toArray := by rw [← h1.1, ← Array.toList_map, Array.toArray_toList]
        have hts0 : ∀ {t : TypeId} {l : List TypeId}, c.argTypes.toList = t :: l → c.argTypes[0]? = some t := fun e => by
          rw [← Array.getElem?_toList, e]
          rfl
        split at h
        · rename_i t l m hts
          split at h
          · rename_i r hr
            cases h
            have := lenMapS_run (ty := o.type) hok (hts0 hts) hr
            refine ⟨I, w, ?_, Mv.refl hok, one _ this.2⟩
            simp only [execOp, ho, resolve, hb, Sem.run_bind, Sem.run_pure, Result.andThen_ok, invoke, e1, builtin, denL]
            rw [this.1]
            rfl
          · cases h
        · rename_i t l m k hts
          split at h
          · rename_i st' hr
            cases h
            obtain ⟨w', hr, hm⟩ := deleteS_run (ty := o.type) hok (hts0 hts) hr
            refine ⟨I, w', ?_, hm, fun u e => by cases e; trivial⟩
            simp only [execOp, ho, resolve, hb, Sem.run_bind, Sem.run_pure, Result.andThen_ok, invoke, e1, builtin, denL]
            rw [hr]
            rfl
          · cases h
        · rename_i t l m hts
          split at h
          · rename_i st' hr
            cases h
            obtain ⟨w', hr, hm⟩ := clearMapS_run (ty := o.type) hok (hts0 hts) hr
            refine ⟨I, w', ?_, hm, fun u e => by cases e; trivial⟩
            simp only [execOp, ho, resolve, hb, Sem.run_bind, Sem.run_pure, Result.andThen_ok, invoke, e1, builtin, denL]
            rw [hr]
            rfl
          · cases h
        · rename_i t tx s x hts
          split at h
          · rename_i r st' hs
            cases h
            have ht : c.argTypes = #[t, tx] := by rw [← Array.toArray_toList (xs := c.argTypes), hts]
            obtain ⟨I', w', hr, hm, hv⟩ := appendS_run hok hs h1.2.1 o.type
            refine ⟨I', w', ?_, hm, fun u e => by cases e; exact hv⟩
            simp only [execOp, ho, resolve, hb, Sem.run_bind, Sem.run_pure, Result.andThen_ok, invoke, e1, builtin, ht, denL]
            rw [hr]
            rfl
          · cases h
        · rename_i t tx s x hts
          split at h
          · rename_i r st' hs
            cases h
            have ht : c.argTypes = #[t, tx] := by rw [← Array.toArray_toList (xs := c.argTypes), hts]
            obtain ⟨w', hr, hm, hv⟩ := copyS_run hok hs o.type
            refine ⟨I, w', ?_, hm, fun u e => by cases e; exact hv⟩
            simp only [execOp, ho, resolve, hb, Sem.run_bind, Sem.run_pure, Result.andThen_ok, invoke, e1, builtin, ht, denL]
            rw [hr]
            rfl
          · cases h
        · cases h
      · cases h
    · cases h
  case h_16 => cases h
end
end Go.Ev
