/-
  The evaluator: operations that touch no memory. No program is named here. No conditions.
-/
import Derived.Test.YtopkdiiigidfdaaGreatEvB
namespace Go.Ev
open Go.RowKit Go.Al
set_option linter.unusedVariables false

def inI64 : Int → Bool
  | .ofNat m => Nat.blt m 9223372036854775808
  | .negSucc m => Nat.blt m 9223372036854775808
theorem inI64_wrap {n : Int} (h : inI64 n = true) : IntKind.i64.wrap n = n := by
  have h2 : -9223372036854775808 ≤ n ∧ n < 9223372036854775808 := by
    cases n with
    | ofNat m =>
      have := Nat.le_of_ble_eq_true h
      simp only [Int.ofNat_eq_natCast]
      omega
    | negSucc m =>
      have := Nat.le_of_ble_eq_true h
      simp only [Int.negSucc_eq]
      omega
  exact IntWalk.i64_in n ⟨h2.1, by omega⟩
def ltI : Int → Int → Bool
  | .ofNat m, .ofNat n => Nat.blt m n
  | .ofNat _, .negSucc _ => false
  | .negSucc _, .ofNat _ => true
  | .negSucc m, .negSucc n => Nat.blt n m
theorem ltI_eq (a b : Int) : ltI a b = decide (a < b) := by
  rw [Bool.eq_iff_iff, decide_eq_true_iff]
  cases a <;> cases b <;> simp only [ltI, Nat.blt, Nat.ble_eq, Int.ofNat_eq_natCast, Int.negSucc_eq, Bool.false_eq_true, true_iff, false_iff] <;> omega
def eqI : Int → Int → Bool
  | .ofNat m, .ofNat n => Nat.beq m n
  | .negSucc m, .negSucc n => Nat.beq m n
  | _, _ => false
theorem eqI_eq (a b : Int) : eqI a b = (a == b) := by
  rw [Bool.eq_iff_iff, beq_iff_eq]
  cases a <;> cases b <;> simp only [eqI, Nat.beq_eq, Int.ofNat_eq_natCast, Int.negSucc_eq, Bool.false_eq_true, false_iff] <;> omega
/-- the quick way at int's -/
def ibin (op : BinOp) (k : IntKind) (a b : Int) : Option SV :=
  match op with
  | .add => match k with
    | .i64 => cond (inI64 (a + b)) (some (.int .i64 (a + b))) none
    | _ => none
  | .sub => match k with
    | .i64 => cond (inI64 (a - b)) (some (.int .i64 (a - b))) none
    | _ => none
  | .mul => match k with
    | .i64 => cond (inI64 (a * b)) (some (.int .i64 (a * b))) none
    | _ => none
  | .eql => some (.bool (eqI a b))
  | .neq => some (.bool (!eqI a b))
  | .lss => some (.bool (ltI a b))
  | .leq => some (.bool (!ltI b a))
  | .gtr => some (.bool (ltI b a))
  | .geq => some (.bool (!ltI a b))
  | _ => none
section
variable {P : Program} {A : Nat → Prop} {I : In}
theorem ibin_run {op : BinOp} {k : IntKind} {a b : Int} {s : SV} (h : ibin op k a b = some s) (t : TypeId) (x y : Operand) (w : World) :
    (do eqGuard op t x y (.int k a) (.int k b); binOp op t (.int k a) (.int k b) : Sem Value).run P w = .ok (s.den I) w ∧ s.ok A I := by
  unfold ibin at h
  have h1 : ∀ {n : Int}, cond (inI64 n) (some (SV.int .i64 n)) none = some s → s = .int .i64 n ∧ IntKind.i64.wrap n = n := fun {n} hc => by
    cases hb : inI64 n
    · rw [hb] at hc; cases hc
    · rw [hb] at hc; cases hc; exact ⟨rfl, inI64_wrap hb⟩
  split at h
  · split at h
    · obtain ⟨rfl, hw⟩ := h1 h
      exact ⟨by simp [eqGuard, binOp, Op.intArith, SV.den, hw], trivial⟩
    · cases h
  · split at h
    · obtain ⟨rfl, hw⟩ := h1 h
      exact ⟨by simp [eqGuard, binOp, Op.intArith, SV.den, hw], trivial⟩
    · cases h
  · split at h
    · obtain ⟨rfl, hw⟩ := h1 h
      exact ⟨by simp [eqGuard, binOp, Op.intArith, SV.den, hw], trivial⟩
    · cases h
  all_goals first
    | cases h; done
    | (cases h; refine ⟨?_, trivial⟩; simp [eqGuard, binOp, Op.intCmp, SV.den, eqI_eq, ltI_eq]; try (first | rfl | (rw [Bool.eq_iff_iff]; simp)))
/-- nil against whatever -/
def nilEq (P : Program) (t : TypeId) (x y : SV) : Option Bool :=
  match P.underlying t, x, y with
  | some (.pointer _), .ptr none, .ptr b => some b.isNone
  | some (.pointer _), .ptr _, .ptr none => some false
  | some (.slice _), .slice none _ _, .slice b _ _ => some b.isNone
  | some (.slice _), .slice _ _ _, .slice none _ _ => some false
  | some (.map _ _), .map none, .map b => some b.isNone
  | some (.map _ _), .map _, .map none => some false
  | some (.func _ _ _), .nilFunc, .func _ _ _ => some false
  | some (.func _ _ _), .func _ _ _, .nilFunc => some false
  | some (.interface _), .nilIface, .iface _ _ => some false
  | some (.interface _), .iface _ _, .nilIface => some false
  | _, _, _ => none
theorem nil_fin {t : TypeId} {x y : Value} {b : Bool} {w : World} {xo yo : Operand} (h1 : binOp .eql t x y = (do pure (.bool (← Op.equal t x y)))) (h2 : binOp .neq t x y = (do pure (.bool (!(← Op.equal t x y)))))
    (h3 : eqGuard .eql t xo yo x y = pure ()) (h4 : eqGuard .neq t xo yo x y = pure ()) (he : (Op.equalIn (9999 + 1) t x y).run P w = .ok b w) :
    (do eqGuard .eql t xo yo x y; binOp .eql t x y : Sem Value).run P w = .ok (.bool b) w ∧ (do eqGuard .neq t xo yo x y; binOp .neq t x y : Sem Value).run P w = .ok (.bool !b) w := by
  have he' : (Op.equal t x y).run P w = .ok b w := he
  rw [h1, h2, h3, h4]
  simp [he']
theorem nilEq_run {t : TypeId} {x y : SV} {b : Bool} (h : nilEq P t x y = some b) (w : World) (xo yo : Operand) :
    (do eqGuard .eql t xo yo (x.den I) (y.den I); binOp .eql t (x.den I) (y.den I) : Sem Value).run P w = .ok (.bool b) w ∧
    (do eqGuard .neq t xo yo (x.den I) (y.den I); binOp .neq t (x.den I) (y.den I) : Sem Value).run P w = .ok (.bool !b) w := by
  unfold nilEq at h
  split at h
  case h_11 => cases h
  case h_1 q hu => cases h; cases q <;> (refine nil_fin rfl rfl rfl rfl ?_; rw [Op.equalIn]; simp [run_underlying hu, SV.den])
  case h_2 q hq hu => cases h; cases q <;> (refine nil_fin rfl rfl rfl rfl ?_; rw [Op.equalIn]; simp [run_underlying hu, SV.den]) <;> exact absurd rfl hq
  case h_3 q n c hu => cases h; cases q <;> (refine nil_fin rfl rfl rfl rfl ?_; rw [Op.equalIn]; simp [run_underlying hu, SV.den])
  case h_4 q n c n2 c2 hq hu => cases h; cases q <;> (refine nil_fin rfl rfl rfl rfl ?_; rw [Op.equalIn]; simp [run_underlying hu, SV.den]) <;> (simp at hq)
  case h_5 q hu => cases h; cases q <;> (refine nil_fin rfl rfl rfl rfl ?_; rw [Op.equalIn]; simp [run_underlying hu, SV.den])
  case h_6 q hq hu => cases h; cases q <;> (refine nil_fin rfl rfl rfl rfl ?_; rw [Op.equalIn]; simp [run_underlying hu, SV.den]) <;> exact absurd rfl hq
  case h_7 hu => cases h; (refine nil_fin rfl rfl rfl rfl ?_; rw [Op.equalIn]; simp [run_underlying hu, SV.den])
  case h_8 hu => cases h; (refine nil_fin rfl rfl rfl rfl ?_; rw [Op.equalIn]; simp [run_underlying hu, SV.den])
  case h_9 hu => cases h; (refine nil_fin rfl rfl rfl rfl ?_; rw [Op.equalIn]; simp [run_underlying hu, SV.den])
  case h_10 hu => cases h; (refine nil_fin rfl rfl rfl rfl ?_; rw [Op.equalIn]; simp [run_underlying hu, SV.den])
def isAggB (P : Program) (t : TypeId) : Bool := match P.underlying t with
  | some (.struct _) => true
  | some (.array _ _) => true
  | _ => false
def szOf (P : Program) (t : TypeId) : Option Nat := match P.info? t with
  | some i => some i.size
  | none => none
theorem szOf_run {t : TypeId} {n : Nat} (h : szOf P t = some n) (w : World) : (sizeOf t).run P w = .ok n w := by
  unfold szOf at h
  split at h
  · rename_i i hi; cases h; simp [sizeOf, typeInfo, hi]
  · cases h
theorem isAgg_run {t : TypeId} (hs : (P.info? t).isSome = true) (w : World) : ∃ b, (isAgg t).run P w = .ok b w ∧ (P.underlying t).isSome = true → True := ⟨true, fun _ => trivial⟩
theorem isAggB_run {t : TypeId} {d : TypeDesc} (h : P.underlying t = some d) (w : World) : (isAgg t).run P w = .ok (isAggB P t) w := by
  unfold isAgg isAggB
  rw [h]
  cases d <;> simp [run_underlying h]
/-- part of a row of cells -/
def partS (P : Program) (t : TypeId) (cs : List SV) (off : Nat) : Option SV :=
  match P.underlying t with
  | none => none
  | some _ => cond (isAggB P t) (match szOf P t with
      | some n => some (.agg ((cs.drop off).take n))
      | none => none) cs[off]?
theorem partS_run {t : TypeId} {cs : List SV} {off : Nat} {s : SV} (h : partS P t cs off = some s) (hc : okL A I cs) (w : World) : (part t (denL I cs).toArray off).run P w = .ok (s.den I) w ∧ s.ok A I := by
  unfold partS at h
  split at h
  · cases h
  · rename_i d hd
    cases hb : isAggB P t
    · rw [hb] at h
      simp only [cond_false] at h
      refine ⟨?_, hc.get h⟩
      simp [part, isAggB_run hd, hb, denL_get, h]
    · rw [hb] at h
      simp only [cond_true] at h
      split at h
      · rename_i n hn
        cases h
        refine ⟨?_, (hc.drop off).take n⟩
        simp [part, isAggB_run hd, hb, szOf_run hn, SV.den, denL_take, denL_drop, List.extract_eq_take_drop]
      · cases h
/-- a field's place; fields of no size have none here -/
def fieldS (P : Program) (s : TypeId) (x : SV) (f : Nat) : Option SV :=
  match P.underlying s, x with
  | some (.struct fs), .ptr (some (id, off)) => match fs[f]? with
    | some fd => match szOf P fd.type with
      | some (_ + 1) => some (.ptr (some (id, off + fd.offset)))
      | _ => none
    | none => none
  | _, _ => none
theorem fieldS_run {t : TypeId} {x s : SV} {f : Nat} (h : fieldS P t x f = some s) (hx : x.ok A I) (w : World) : (Instr.fieldAt t (x.den I) f).run P w = .ok (s.den I) w ∧ s.ok A I := by
  unfold fieldS at h
  split at h
  · rename_i fs id off hu
    split at h
    · rename_i fd hf
      split at h
      · rename_i n hn
        cases h
        refine ⟨?_, fun q hq => by cases hq; exact hx (id, off) rfl⟩
        simp [Instr.fieldAt, run_underlying hu, hf, Instr.sureAddr, SV.den, padr, fieldPlace, szOf_run hn, add_lit]
      · cases h
    · cases h
  · cases h
def fieldV (P : Program) (t : TypeId) (x : SV) (f : Nat) : Option SV :=
  match P.underlying t, x with
  | some (.struct fs), .agg l => match fs[f]? with
    | some fd => partS P fd.type l fd.offset
    | none => none
  | _, _ => none
theorem fieldV_run {t : TypeId} {x s : SV} {f : Nat} (h : fieldV P t x f = some s) (hx : x.ok A I) (w : World) : (Instr.field t (x.den I) f).run P w = .ok (s.den I) w ∧ s.ok A I := by
  unfold fieldV at h
  split at h
  · rename_i fs l hu
    split at h
    · rename_i fd hf
      have := partS_run h hx w
      exact ⟨by simp [Instr.field, run_underlying hu, hf, SV.den, asAgg, this.1], this.2⟩
    · cases h
  · cases h
/-- an index that is in range -/
def ixS (x : SV) (n : Nat) : Option Nat := match x with
  | .int _ (.ofNat i) => cond (Nat.blt i n) (some i) none
  | _ => none
theorem ixS_spec {x : SV} {n i : Nat} (h : ixS x n = some i) : ∃ k, x = .int k (i : Int) ∧ i < n := by
  unfold ixS at h
  split at h
  · rename_i k j
    cases hb : Nat.blt j n
    · rw [hb] at h; cases h
    · rw [hb] at h; cases h; exact ⟨k, rfl, Nat.le_of_ble_eq_true hb⟩
  · cases h
def indexS (P : Program) (t : TypeId) (x ix : SV) : Option SV :=
  match P.underlying t, x with
  | some (.slice e), .slice (some (id, off)) n _ => match ixS ix n, szOf P e with
    | some i, some sz => some (.ptr (some (id, off + i * sz)))
    | _, _ => none
  | some (.array n e), .ptr (some (id, off)) => match ixS ix n, szOf P e with
    | some i, some sz => some (.ptr (some (id, off + i * sz)))
    | _, _ => none
  | _, _ => none
theorem indexS_run {t : TypeId} {x ix s : SV} (h : indexS P t x ix = some s) (hx : x.ok A I) (w : World) : (Instr.indexAt t (x.den I) (ix.den I)).run P w = .ok (s.den I) w ∧ s.ok A I := by
  unfold indexS at h
  split at h
  · rename_i e id off n c hu
    split at h
    · rename_i i sz hi hz
      cases h
      obtain ⟨k, rfl, hlt⟩ := ixS_spec hi
      refine ⟨?_, fun q hq => by cases hq; exact hx.1 (id, off) rfl⟩
      simp [Instr.indexAt, asIntOf, run_underlying hu, SV.den, padr, szOf_run hz, add_lit, hlt]
    · cases h
  · rename_i n e id off hu
    split at h
    · rename_i i sz hi hz
      cases h
      obtain ⟨k, rfl, hlt⟩ := ixS_spec hi
      refine ⟨?_, fun q hq => by cases hq; exact hx (id, off) rfl⟩
      simp [Instr.indexAt, asIntOf, run_underlying hu, SV.den, padr, szOf_run hz, add_lit, hlt, Instr.sureAddr]
    · cases h
  · cases h
def indexV (P : Program) (t : TypeId) (x ix : SV) : Option SV :=
  match P.underlying t, x with
  | some (.array n e), .agg l => match ixS ix n, szOf P e with
    | some i, some sz => partS P e l (i * sz)
    | _, _ => none
  | some .string, .str s => match ixS ix s.length with
    | some i => match s[i]? with
      | some b => some (.int .u8 b.toNat)
      | none => none
    | none => none
  | _, _ => none
theorem indexV_run {t : TypeId} {x ix s : SV} (h : indexV P t x ix = some s) (hx : x.ok A I) (w : World) : (Instr.index t (x.den I) (ix.den I)).run P w = .ok (s.den I) w ∧ s.ok A I := by
  unfold indexV at h
  split at h
  · rename_i n e l hu
    split at h
    · rename_i i sz hi hz
      obtain ⟨k, rfl, hlt⟩ := ixS_spec hi
      have := partS_run h hx w
      exact ⟨by simp [Instr.index, asIntOf, run_underlying hu, SV.den, szOf_run hz, hlt, this.1], this.2⟩
    · cases h
  · rename_i l hu
    split at h
    · rename_i i hi
      split at h
      · rename_i b hb
        cases h
        obtain ⟨k, rfl, hlt⟩ := ixS_spec hi
        refine ⟨?_, trivial⟩
        have hg : (⟨l.toArray⟩ : ByteArray)[i]? = some b := by
          have hs : i < (⟨l.toArray⟩ : ByteArray).size := by simp [ByteArray.size, hlt]
          rw [getElem?_pos (⟨l.toArray⟩ : ByteArray) i hs]
          have : l[i]? = some b := hb
          rw [List.getElem?_eq_getElem hlt] at this
          exact this
        simp [Instr.index, asIntOf, run_underlying hu, SV.den, hg]
      · cases h
    · cases h
  · cases h
end
end Go.Ev
