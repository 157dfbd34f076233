/-
  The evaluator: new blocks, slices and maps; pointers compared; an empty slice at an end. No program is named here. No conditions.
-/
import Derived.Test.YtopkdiiigidfdaaGreatEvH
namespace Go.Ev
open Go.RowKit Go.Al
set_option linter.unusedVariables false

def buildSliceC (P : Program) (t : TypeId) (len : Nat) (parts : List (Nat × SV)) : Option (TypeId × List SV) :=
  match P.underlying t with
  | some (.slice e) => match szOf P e with
    | some sz => match cond (Nat.beq (len * sz) 0) (some []) (match zeroS P e with
        | some zs => zerosS zs (len * sz)
        | none => none) with
      | some z => match cond (Nat.ble (len * sz) 16777216) (fillS (fun i => some (i * sz, sz)) z parts) none with
        | some r => some (e, r)
        | none => none
      | none => none
    | none => none
  | _ => none
def buildSliceS (P : Program) (st : St) (t : TypeId) (len : Nat) (parts : List (Nat × SV)) : Option (SV × St) :=
  match buildSliceC P t len parts with
  | some (e, r) => some (.slice (some (st.nx, 0)) len (.lit len), (newS st e r).2)
  | none => none
def makeSliceC (P : Program) (t : TypeId) (len cap : SV) : Option (TypeId × List SV × Nat × Nat) :=
  match P.underlying t, len, cap with
  | some (.slice e), .int _ (.ofNat n), .int _ (.ofNat c) => match P.info? e with
    | some i => match cond (Nat.ble n c && Nat.ble (i.bytes * c) 281474976710656 && Nat.blt c 1048576) (cond (Nat.beq (c * i.size) 0) (some []) (match zeroS P e with
        | some zs => zerosS zs (c * i.size)
        | none => none)) none with
      | some z => some (e, z, n, c)
      | none => none
    | none => none
  | _, _, _ => none
def makeSliceS (P : Program) (st : St) (t : TypeId) (len cap : SV) : Option (SV × St) :=
  match makeSliceC P t len cap with
  | some (e, z, n, c) => some (.slice (some (st.nx, 0)) n (.lit c), (newS st e z).2)
  | none => none
def ptrEqS (P : Program) (st : St) (t : TypeId) (x y : SV) : Option Bool :=
  match P.underlying t, x, y with
  | some (.pointer e), .ptr (some (i, o)), .ptr (some (j, p)) => match look st.H i, look st.H j, szOf P e with
    | some (.cells _ _ _), some (.cells _ _ _), some (_ + 1) => some (Nat.beq i j && Nat.beq o p)
    | _, _, _ => none
  | _, _, _ => none
def sliceE (P : Program) (st : St) (t : TypeId) (x : SV) (lo hi mx : Option SV) : Option (SV × St) :=
  match P.underlying t, x, mx with
  | some (.slice e), .slice p n (.sym j k), none => match bndsL n n lo hi none, szOf P e with
    | some (l, h, _), some _ => cond (Nat.beq l h) (some (.esl st.nx, ⟨st.H, st.nx + 1, st.wr⟩)) none
    | _, _ => none
  | _, _, _ => none
section
variable {P : Program} {A : Nat → Prop} {I : In} {st : St} {w w' : World}
theorem buildSliceS_run (hok : Ok P A I st w) {t : TypeId} {len : Nat} {parts : List (Nat × SV)} {v : SV} {st' : St} (h : buildSliceS P st t len parts = some (v, st')) (hp : ∀ x ∈ parts, x.2.ok A I) (pa : Array (Nat × Value)) (hpa : pa.toList = parts.map fun x => (x.1, x.2.den I)) :
    ∃ I' w', (Instr.buildSlice t len pa).run P w = .ok (v.den I') w' ∧ Mv P A I st w I' st' w' ∧ v.ok (up A st.nx st'.nx) I' := by
  unfold buildSliceS at h
  split at h
  case h_2 => cases h
  rename_i ee rr hc
  injection h with h
  injection h with hv hst
  subst hv hst
  have h := hc
  clear hc
  unfold buildSliceC at h
  split at h
  · rename_i e hu
    split at h
    · rename_i sz hsz
      split at h
      · rename_i z hz
        split at h
        · rename_i r hr
          injection h with h
          injection h with h1 h2
          subst h1 h2
          cases hle : Nat.ble (len * sz) 16777216
          · rw [hle] at hr; cases hr
          · rw [hle] at hr
            simp only [cond_true] at hr
            have hle := Nat.le_of_ble_eq_true hle
            by_cases h0 : len * sz = 0
            · rw [beq_t h0] at hz
              cases hz
              have f := fillS_run (A := A) (I := I) hok.val hr trivial hp
              have nw := newS_run hok e f.2 (Chg.refl _ w) rfl
              refine ⟨_, _, ?_, nw.1, fun q hq => nw.2.2 q (by cases hq; rfl), Nat.le_refl _⟩
              have f1 := f.1
              rw [← hpa] at f1
              simp only [denL] at f1
              have e0 : ∀ g : Nat → Value, Array.map g (Array.range 0) = #[] := fun g => by simp
              simp [Instr.buildSlice, run_underlying hu, szOf_run hsz, h0, e0, f1, newRow, SV.den, Cap.den, padr, In.put]
            · rw [beq_f h0] at hz
              simp only [cond_false] at hz
              split at hz
              · rename_i zs hzs
                obtain ⟨zv, z1, z2, z3, i, hi, hzi⟩ := zeroS_run (A := A) (I := I) hzs w
                have hd := zerosS_den hz z2 z3
                have f := fillS_run hok.val hr hd.2.1 hp
                have nw := newS_run hok e f.2 (Chg.refl _ w) rfl
                refine ⟨_, _, ?_, nw.1, fun q hq => nw.2.2 q (by cases hq; rfl), Nat.le_refl _⟩
                have hs : i.size = sz := by
                  unfold szOf at hsz
                  rw [hi] at hsz
                  exact Option.some.inj hsz
                have f1 := f.1
                rw [← hpa, ← hd.1, ← hs] at f1
                rw [run_buildSlice w t e len pa _ i zv hu hi hzi (by rw [hs]; omega) (by rw [hs]; exact h0) f1]
                simp [SV.den, Cap.den, padr, In.put]
              · cases hz
        · cases h
      · cases h
    · cases h
  · cases h
theorem makeSliceS_run (hok : Ok P A I st w) {t : TypeId} {len cap v : SV} {st' : St} (h : makeSliceS P st t len cap = some (v, st')) :
    ∃ I' w', (Instr.makeSlice t (len.den I) (cap.den I)).run P w = .ok (v.den I') w' ∧ Mv P A I st w I' st' w' ∧ v.ok (up A st.nx st'.nx) I' := by
  unfold makeSliceS at h
  split at h
  case h_2 => cases h
  rename_i ee zz nn cc hc
  injection h with h
  injection h with hv hst
  subst hv hst
  have h := hc
  clear hc
  unfold makeSliceC at h
  split at h
  · rename_i e k n k' c hu
    split at h
    · rename_i i hi
      split at h
      · rename_i z hz
        injection h with h
        injection h with h1 h
        injection h with h2 h
        injection h with h3 h4
        subst h1 h2 h3 h4
        cases hb : (Nat.ble n c && Nat.ble (i.bytes * c) 281474976710656 && Nat.blt c 1048576)
        · rw [hb] at hz; cases hz
        · rw [hb] at hz
          simp only [cond_true] at hz
          simp only [Bool.and_eq_true] at hb
          have b1 := Nat.le_of_ble_eq_true hb.1.1
          have b2 := Nat.le_of_ble_eq_true hb.1.2
          have b3 : c < 1048576 := Nat.le_of_ble_eq_true hb.2
          have wn : IntKind.i64.wrap (n : Int) = n := IntWalk.i64_in _ (by omega)
          have wc : IntKind.i64.wrap (c : Int) = c := IntWalk.i64_in _ (by omega)
          have q1 : ¬ ((c : Int) < 0) := by omega
          have q2 : ¬ (281474976710656 < (i.bytes : Int) * (c : Int)) := by
            have : ((i.bytes * c : Nat) : Int) ≤ ((281474976710656 : Nat) : Int) := Int.ofNat_le.2 b2
            rw [Int.natCast_mul] at this
            omega
          have q3 : ¬ ((n : Int) < 0) := by omega
          have q4 : ¬ ((c : Int) < n) := by omega
          have q4' : ¬ (c < n) := by omega
          by_cases h0 : c * i.size = 0
          · rw [beq_t h0] at hz
            cases hz
            have nw := newS_run hok e (cs := []) trivial (Chg.refl _ w) rfl
            refine ⟨_, _, ?_, nw.1, fun q hq => nw.2.2 q (by cases hq; rfl), b1⟩
            have e0 : ∀ g : Nat → Value, Array.map g (Array.range 0) = #[] := fun g => by simp
            simp [Instr.makeSlice, run_underlying hu, asInt, asIntOf, SV.den, typeInfo, hi, wn, wc, q1, q2, q3, q4', h0, e0, sizeOf, newRow, Cap.den, padr, In.put, denL]
          · rw [beq_f h0] at hz
            simp only [cond_false] at hz
            split at hz
            · rename_i zs hzs
              obtain ⟨zv, z1, z2, z3, i2, hi2, hzi⟩ := zeroS_run (A := A) (I := I) hzs w
              have hd := zerosS_den hz z2 z3
              have nw := newS_run hok e hd.2.1 (Chg.refl _ w) rfl
              refine ⟨_, _, ?_, nw.1, fun q hq => nw.2.2 q (by cases hq; rfl), b1⟩
              simp [Instr.makeSlice, run_underlying hu, asInt, asIntOf, SV.den, typeInfo, hi, wn, wc, q1, q2, q3, q4', h0, z1, hd.1, sizeOf, newRow, Cap.den, padr, In.put]
            · cases hz
      · cases h
    · cases h
  · cases h
theorem ptrEqS_run (hok : Ok P A I st w) {t : TypeId} {x y : SV} {b : Bool} (h : ptrEqS P st t x y = some b) (xo yo : Operand) :
    (do eqGuard .eql t xo yo (x.den I) (y.den I); binOp .eql t (x.den I) (y.den I) : Sem Value).run P w = .ok (.bool b) w ∧
    (do eqGuard .neq t xo yo (x.den I) (y.den I); binOp .neq t (x.den I) (y.den I) : Sem Value).run P w = .ok (.bool !b) w := by
  unfold ptrEqS at h
  split at h
  · rename_i e i o j p hu
    split at h
    · rename_i e1 cs1 x1 e2 cs2 x2 n hl1 hl2 hn
      cases h
      obtain ⟨t1, hh1, _⟩ := hok.cells hl1
      obtain ⟨t2, hh2, _⟩ := hok.cells hl2
      refine nil_fin rfl rfl rfl rfl ?_
      rw [Op.equalIn]
      simp only [SV.den, Option.map_some, padr]
      simp only [Sem.run_bind, run_underlying hu, Result.andThen_ok, szOf_run hn]
      rw [if_pos (by omega)]
      by_cases hij : i = j
      · subst hij
        rw [beq_t rfl]
        have : (({ block := I.adr i, off := o } : Addr) == { block := I.adr i, off := p }) = (true && Nat.beq o p) := by
          rw [Bool.eq_iff_iff]
          simp
        simp [sameAddr, this]
      · have hne : ¬ I.adr i = I.adr j := fun h => hij (hok.inj i j (by rw [hl1]; simp) (by rw [hl2]; simp) h)
        rw [beq_f hij]
        simp [sameAddr, hne, World.frozen?, hh1, hh2, noView, viewAt, World.shape?, mayBeOne, stringish]
    · cases h
  · cases h
theorem sliceE_run (hok : Ok P A I st w) {t : TypeId} {x v : SV} {lo hi mx : Option SV} {st' : St} (h : sliceE P st t x lo hi mx = some (v, st')) (hx : x.ok A I) :
    ∃ I' w', (Instr.sliceAt t (x.den I) (lo.map (SV.den I)) (hi.map (SV.den I)) (mx.map (SV.den I))).run P w = .ok (v.den I') w' ∧ Mv P A I st w I' st' w' ∧ v.ok (up A st.nx st'.nx) I' := by
  unfold sliceE at h
  split at h
  · rename_i e p n j k hu
    split at h
    · rename_i l h' m sz hb hz
      rw [beq_cond] at h
      split at h
      · rename_i hlh
        subst hlh
        cases h
        obtain ⟨hx1, hA, hcap⟩ := hx
        have hn : n ≤ I.cap j - k := by omega
        obtain ⟨hr, h1, h2, h3⟩ := bndsL_run' (P := P) (I := I) (b := true) hb hn w
        simp only [Option.map_none] at hr
        refine ⟨I.putE st.nx (if I.cap j - k = l then p.map (padr I) else (p.map (padr I)).map (·.add (l * sz)), I.cap j - k - l), w, ?_, Mv.letter hok _, up_succ _⟩
        simp only [Instr.sliceAt, Instr.slice, Sem.run_bind, run_underlying hu, Result.andThen_ok, SV.den, Cap.den, Option.map_none, hr, szOf_run hz, Sem.run_pure]
        simp [In.putE]
      · cases h
    · cases h
  · cases h
end
end Go.Ev
