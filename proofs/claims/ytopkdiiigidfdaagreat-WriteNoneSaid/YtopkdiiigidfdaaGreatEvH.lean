/-
  The evaluator: loads, stores, new blocks, pointers compared. No program is named here. No conditions.
-/
import Derived.Test.YtopkdiiigidfdaaGreatEvG
namespace Go.Ev
open Go.RowKit Go.Al
set_option linter.unusedVariables false

section
variable {P : Program} {A : Nat → Prop} {I : In} {st : St} {w w' : World}
theorem Ok.cells (hok : Ok P A I st w) {id : Nat} {e : TypeId} {cs : List SV} {ext : Option Nat} (h : look st.H id = some (.cells e cs ext)) :
    ∃ tail : List Value, w.heap[I.adr id]? = some (.cells (denL I cs ++ tail).toArray e (0, 0)) ∧ (ext = none → tail = []) ∧ ∀ j, ext = some j → ∃ i, P.info? e = some i ∧ (denL I cs ++ tail).length = I.cap j * i.size := by
  obtain ⟨ob, h1, h2⟩ := hok.real id _ h
  cases ext with
  | none =>
    simp only [Real] at h2
    subst h2
    exact ⟨[], by simpa using h1, fun _ => rfl, fun j hj => by cases hj⟩
  | some j =>
    simp only [Real] at h2
    obtain ⟨tail, rfl, hi⟩ := h2
    exact ⟨tail, h1, fun hj => (by cases hj), fun k hk => by cases hk; exact hi⟩
theorem Real.of {e : TypeId} {cs : List SV} {ext : Option Nat} {tail : List Value} (h1 : ext = none → tail = []) (h2 : ∀ j, ext = some j → ∃ i, P.info? e = some i ∧ (denL I cs ++ tail).length = I.cap j * i.size) :
    Real P I (.cells e cs ext) (.cells (denL I cs ++ tail).toArray e) := by
  cases ext with
  | none => simp [Real, h1 rfl]
  | some j => exact ⟨tail, rfl, h2 j rfl⟩
theorem Ok.cell (hok : Ok P A I st w) {id off : Nat} {e : TypeId} {cs : List SV} {ext : Option Nat} (h : look st.H id = some (.cells e cs ext)) (hlt : off < cs.length) : w.cell? ⟨I.adr id, off, none⟩ = some ((cs[off]).den I) := by
  obtain ⟨tail, h1, _⟩ := hok.cells h
  have : (denL I cs ++ tail)[off]? = some ((cs[off]).den I) := by
    rw [List.getElem?_append_left (by simpa using hlt), denL_get, List.getElem?_eq_getElem hlt]
    rfl
  simp [World.cell?, h1, this]
theorem Ok.range (hok : Ok P A I st w) {id off n : Nat} {e : TypeId} {cs : List SV} {ext : Option Nat} (h : look st.H id = some (.cells e cs ext)) (hle : off + n ≤ cs.length) :
    ∀ j u, (denL I ((cs.drop off).take n))[j]? = some u → w.cell? ((⟨I.adr id, off, none⟩ : Addr).add j) = some u := fun j u hu => by
  rw [add_lit]
  have hj : j < n := by
    have := (List.getElem?_eq_some_iff.1 hu).1
    simp at this
    omega
  rw [hok.cell h (by omega)]
  rw [denL_get, List.getElem?_take_of_lt hj, List.getElem?_drop] at hu
  have : cs[off + j]? = some (cs[off + j]'(by omega)) := List.getElem?_eq_getElem _
  rw [this] at hu
  exact hu
theorem Ok.loadC (hok : Ok P A I st w) {id off n : Nat} {e : TypeId} {cs : List SV} {ext : Option Nat} (h : look st.H id = some (.cells e cs ext)) (hle : off + n ≤ cs.length) :
    (loadCells ⟨I.adr id, off, none⟩ n).run P w = .ok (denL I ((cs.drop off).take n)).toArray w := by
  have := run_loadCells_list (P := P) w ⟨I.adr id, off, none⟩ (denL I ((cs.drop off).take n)) (hok.range h hle)
  rwa [denL_length, List.length_take, List.length_drop, Nat.min_eq_left (by omega)] at this
end
def loadS (P : Program) (st : St) (t : TypeId) (x : SV) : Option SV :=
  match x, P.underlying t with
  | .ptr (some (id, off)), some _ => match look st.H id with
    | some (.cells e cs ext) => cond (isAggB P t) (match szOf P t with
        | some n => cond (Nat.ble (off + n) cs.length) (some (.agg ((cs.drop off).take n))) none
        | none => none) cs[off]?
    | _ => none
  | _, _ => none
def storeS (P : Program) (st : St) (t : TypeId) (x v : SV) : Option St :=
  match x with
  | .ptr (some (id, off)) => match look st.H id, cellsS v, szOf P t with
    | some (.cells e cs ext), some vs, some n => cond (Nat.beq vs.length n && Nat.ble (off + n) cs.length && vs.all oneB) (some ⟨ins st.H id (.cells e (setR cs off vs) ext), st.nx, id :: st.wr⟩) none
    | _, _, _ => none
  | _ => none
/-- cells of one block, written -/
def newS (st : St) (e : TypeId) (cs : List SV) : SV × St := (.ptr (some (st.nx, 0)), ⟨ins st.H st.nx (.cells e cs none), st.nx + 1, st.wr⟩)
section
variable {P : Program} {A : Nat → Prop} {I : In} {st : St} {w w' : World}
theorem loadS_run (hok : Ok P A I st w) {t : TypeId} {x v : SV} (h : loadS P st t x = some v) : (Instr.loadAt t (x.den I)).run P w = .ok (v.den I) w ∧ v.ok A I := by
  unfold loadS at h
  split at h
  · rename_i id off d hu
    split at h
    · rename_i e cs ext hl
      have hcs := (hok.key id _ hl).2.1
      cases hb : isAggB P t
      · rw [hb] at h
        simp only [cond_false] at h
        have hlt := (List.getElem?_eq_some_iff.1 h).1
        have hc := hok.cell hl hlt
        rw [List.getElem?_eq_getElem hlt] at h
        cases h
        refine ⟨?_, okL_iff.1 hcs _ (List.getElem_mem _)⟩
        simp [Instr.loadAt, Instr.sureAddr, SV.den, padr, loadVar, isAggB_run hu, hb, hc]
      · rw [hb] at h
        simp only [cond_true] at h
        split at h
        · rename_i n hn
          cases hle : Nat.ble (off + n) cs.length
          · rw [hle] at h; cases h
          · rw [hle] at h
            cases h
            have := hok.loadC hl (Nat.le_of_ble_eq_true hle)
            refine ⟨?_, (hcs.drop off).take n⟩
            simp [Instr.loadAt, Instr.sureAddr, SV.den, padr, loadVar, isAggB_run hu, hb, szOf_run hn, this]
        · cases h
    · cases h
  · cases h
theorem setR_length {cells vs : List SV} {off : Nat} (h : off + vs.length ≤ cells.length) : (setR cells off vs).length = cells.length := by
  simp [setR]; omega
theorem oneB_den (hok : Ok P A I st w) {vs : List SV} (h : vs.all oneB = true) : ∀ u ∈ denL I vs, u.oneCell' = true := by
  intro u hu
  rw [denL_map] at hu
  obtain ⟨v, hv, rfl⟩ := List.mem_map.1 hu
  exact (cells_one hok.val (List.all_eq_true.1 h v hv)).2
/-- cells written into a block -/
theorem Ok.putC (hok : Ok P A I st w) {id off : Nat} {e : TypeId} {cs vs : List SV} {ext : Option Nat} (hl : look st.H id = some (.cells e cs ext)) (hle : off + vs.length ≤ cs.length) (h1 : vs.all oneB = true) (hv : okL A I vs) :
    ∃ w', (storeCells ⟨I.adr id, off, none⟩ (denL I vs)).run P w = .ok () w' ∧ Mv P A I st w I ⟨ins st.H id (.cells e (setR cs off vs) ext), st.nx, id :: st.wr⟩ w' := by
  obtain ⟨tail, hh, he1, he2⟩ := hok.cells hl
  have hr := run_storeCells_at (P := P) (I.adr id) off e (denL I vs) 0 _ w hh (by simp; omega) (oneB_den hok h1)
  refine ⟨_, hr, ?_⟩
  have hrow : (List.take (off + 0) (denL I cs ++ tail).toArray.toList ++ denL I vs ++ List.drop (off + 0 + (denL I vs).length) (denL I cs ++ tail).toArray.toList) = denL I (setR cs off vs) ++ tail := by
    simp only [Nat.add_zero, denL_length, setR_den]
    rw [List.take_append_of_le_length (by simp; omega), List.drop_append_of_le_length (by simp; omega)]
    simp [List.append_assoc]
  rw [hrow]
  refine Mv.upd hok hl (Go.Proofs.YtopkdiiigidfdaaGreat.Chg.setRow (S := fun b => b = I.adr id) (Chg.refl _ w) (.inl rfl) _) (setRow_heap w _ _ _ e (0, 0) hh) ⟨setR_ok off (hok.key id _ hl).2.1 hv, (hok.key id _ hl).2.2⟩ ?_
  refine Real.of he1 fun j hj => ?_
  obtain ⟨i, hi, hlen⟩ := he2 j hj
  refine ⟨i, hi, ?_⟩
  simp only [List.length_append, denL_length] at hlen ⊢
  rw [setR_length hle]
  exact hlen
theorem storeS_run (hok : Ok P A I st w) {t : TypeId} {x v : SV} {st' : St} (h : storeS P st t x v = some st') (hv : v.ok A I) : ∃ w', (Instr.storeAt t (x.den I) (v.den I)).run P w = .ok () w' ∧ Mv P A I st w I st' w' := by
  unfold storeS at h
  split at h
  · rename_i id off
    split at h
    · rename_i e cs ext vs n hl hc hn
      cases hb : (Nat.beq vs.length n && Nat.ble (off + n) cs.length && vs.all oneB)
      · rw [hb] at h; cases h
      · rw [hb] at h
        cases h
        simp only [Bool.and_eq_true, Nat.beq_eq] at hb
        obtain ⟨⟨h1, h2⟩, h3⟩ := hb
        have h2 := Nat.le_of_ble_eq_true h2
        obtain ⟨c1, c2⟩ := cellsS_den (A := A) (I := I) hok.val hc
        obtain ⟨w', hr, hm⟩ := hok.putC (off := off) (vs := vs) hl (by omega) h3 (c2 hv)
        refine ⟨w', ?_, hm⟩
        have hv0 : (SV.ptr (some (id, off))).den I = .pointer (some ⟨I.adr id, off, none⟩) := rfl
        rw [hv0]
        simp [Instr.storeAt, Instr.sureAddr, storeVar, c1, szOf_run hn, h1, hr]
    · cases h
  · cases h
theorem newS_run (hok : Ok P A I st w) (e : TypeId) {cs : List SV} (hcs : okL A I cs) {w0 : World} (h0 : Same w w0) (hs : w0.heap.size = w.heap.size) :
    Mv P A I st w (I.put st.nx w.heap.size 0) (newS st e cs).2 (w0.alloc (.cells (denL I cs).toArray e)) ∧ (newS st e cs).1.den (I.put st.nx w.heap.size 0) = .pointer (some ⟨w.heap.size, 0, none⟩) ∧ (newS st e cs).1.ok (up A st.nx (st.nx + 1)) (I.put st.nx w.heap.size 0) := by
  have hagr := In.put_agr hok w.heap.size 0
  refine ⟨Mv.alloc hok 0 h0 hs ⟨okL_mono (fun i hi => .inl hi) _ (okL_agr hagr _ hcs), fun j hj => by cases hj⟩ ?_, ?_, fun q hq => ?_⟩
  · simp only [Real, denL_agr hagr _ hcs]
  · simp [newS, SV.den, padr, In.put]
  · cases hq
    exact up_succ _
theorem zeroS_run {t : TypeId} {zs : List SV} (h : zeroS P t = some zs) (w : World) : ∃ z, (zeroValue t).run P w = .ok z w ∧ z.cells.toList = denL I zs ∧ okL A I zs ∧ ∃ i, P.info? t = some i ∧ i.zero = some z := by
  unfold zeroS at h
  split at h
  · rename_i it hi
    split at h
    · rename_i z hz
      have := mapO_den (A := A) (I := I) (ofV_den 6) h
      exact ⟨z, by simp [zeroValue, typeInfo, hi, hz], this.1.symm, this.2, it, hi, hz⟩
    · cases h
  · cases h
/-- as many cells, each as one of the zero value's -/
def zerosS (zs : List SV) (n : Nat) : Option (List SV) := mapO (fun i => zs[i % zs.length]?) (List.range n)
theorem zerosS_den {zs r : List SV} {n : Nat} {z : Array Value} (h : zerosS zs n = some r) (hz : z.toList = denL I zs) (ho : okL A I zs) : ((Array.range n).map (z[· % z.size]!)) = (denL I r).toArray ∧ okL A I r ∧ r.length = n := by
  have key : ∀ (l : List Nat) (r : List SV), mapO (fun i => zs[i % zs.length]?) l = some r → l.map (z[· % z.size]!) = denL I r ∧ okL A I r := fun l => by
    induction l with
    | nil => intro r h; cases h; exact ⟨rfl, trivial⟩
    | cons x l ih =>
      intro r h
      obtain ⟨y, m, hy, hm, rfl⟩ := mapO_cons h
      have := ih m hm
      refine ⟨?_, ho.get hy, this.2⟩
      have hsz : z.size = zs.length := by rw [← Array.length_toList, hz, denL_length]
      have hg : z[x % z.size]? = some (y.den I) := by rw [← Array.getElem?_toList, hz, hsz, denL_get, hy]; rfl
      simp only [List.map_cons, denL, this.1]
      congr 1
      rw [getElem!_def, hg]
  have := key _ _ h
  refine ⟨?_, this.2, by rw [mapO_length h, List.length_range]⟩
  rw [← this.1]
  apply Array.ext'
  simp
end
end Go.Ev
