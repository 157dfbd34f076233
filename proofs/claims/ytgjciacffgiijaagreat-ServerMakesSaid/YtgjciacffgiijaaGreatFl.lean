/-
  Structs whose cells are all ints, as a reading tells them; letters for the cells of a list. No program is named here. No conditions.
-/
import Derived.Test.YtgjciacffgiijaaGreatEv3
import Derived.Deep.Slices
import Derived.Lib.SmallJoins
import Derived.WideShapes
namespace Go.Ev
open Go.Al Go.RowKit Go.ChangeShapes Go.WideShapes
set_option linter.unusedVariables false

/-- ints of a program -/
def iv (a : Int) : Value := .int .i64 a
def ivs (l : List Int) : Value := .agg (l.map iv).toArray
def WfL (l : List Int) : Prop := ∀ a ∈ l, (Lit.int .i64 a).wf = true
/-- is it a struct (of structs) of ints? -/
def flatB (P : Program) : Nat → TypeId → Bool
  | 0, _ => false
  | d + 1, t => match P.underlying t with
    | some (.int .i64) => true
    | some (.struct fs) => fs.toList.all (fun f => flatB P d f.type) && (List.range (P.cellsOf t)).all fun k => fs.toList.any fun f => Nat.ble f.offset k && Nat.blt k (f.offset + P.cellsOf f.type)
    | _ => false
section
variable {H : Type} {enc : TypeId × Value → H} {P : Program} {w : World} {base : Nat} {spare : Nat → Bool} {held : Bool}
theorem trod_flat : ∀ (d : Nat) (t : TypeId), flatB P d t = true → ∀ {n : Nat} {cs : List Value} {x : DataW H × List MemPlace}, DataW.trod enc P w base spare held n t cs = some x → ∀ k, k < P.cellsOf t → k < cs.length → ∃ a, cs[k]? = some (iv a) ∧ (Lit.int .i64 a).wf = true
  | 0, t, h, n, cs, x, hx, k, hk, hc => by cases h
  | d + 1, t, h, n, cs, x, hx, k, hk, hc => by
    unfold flatB at h
    split at h
    · rename_i hu
      obtain ⟨a, ha, _, wa⟩ := DataW.trod_int hu hx
      subst ha
      obtain rfl : k = 0 := by simp at hc; omega
      exact ⟨a, rfl, wa⟩
    · rename_i fs hu
      rw [Bool.and_eq_true] at h
      obtain ⟨h1, h2⟩ := h
      have h3 := List.all_eq_true.1 h2 k (List.mem_range.2 hk)
      obtain ⟨f, hf, h4⟩ := List.any_eq_true.1 h3
      rw [Bool.and_eq_true, Nat.ble_eq] at h4
      have h5 : k < f.offset + P.cellsOf f.type := Nat.le_of_ble_eq_true h4.2
      obtain ⟨i, hi, he⟩ := List.getElem_of_mem hf
      obtain ⟨xs, m, _, _, hl, hlen, hff⟩ := DataW.trod_struct hu hx
      have hfi : fs[i]? = some f := by
        rw [← Array.getElem?_toList, List.getElem?_eq_getElem hi, he]
      have hfx := hff i f hfi
      have hix : i < xs.length := by rw [hlen, ← Array.length_toList]; exact hi
      rw [List.getElem?_eq_getElem hix] at hfx
      obtain ⟨a, ha, wa⟩ := trod_flat d f.type (List.all_eq_true.1 h1 f hf) hfx (k - f.offset) (by omega) (by simp; omega)
      refine ⟨a, ?_, wa⟩
      rw [List.getElem?_take_of_lt (by omega), List.getElem?_drop] at ha
      rwa [show f.offset + (k - f.offset) = k by omega] at ha
    · cases h
theorem ints_of {cs : List Value} (h : ∀ k, k < cs.length → ∃ a, cs[k]? = some (iv a) ∧ (Lit.int .i64 a).wf = true) : ∃ zs : List Int, cs = zs.map iv ∧ WfL zs := by
  induction cs with
  | nil => exact ⟨[], rfl, fun a ha => by cases ha⟩
  | cons c cs ih =>
    obtain ⟨a, ha, wa⟩ := h 0 (by simp)
    obtain ⟨zs, hz, hw⟩ := ih fun k hk => by
      have := h (k + 1) (by simp; omega)
      simpa using this
    simp at ha
    refine ⟨a :: zs, by simp [ha, hz], fun b hb => ?_⟩
    rcases List.mem_cons.1 hb with rfl | hb
    · exact wa
    · exact hw b hb
/-- a struct of ints by value -/
theorem open_flat {t : TypeId} {fs : Array Field} {m : Nat} {b0 : Nat} {r : Reach} {v : Value} {d : DataW H} {p : List MemPlace} (hu : P.underlying t = some (.struct fs)) (hC : P.cellsOf t = m) (hF : flatB P 9 t = true)
    (hv : Value.okWide P w r b0 t v) (h : DataW.Trod enc P w base spare held t v d p) : ∃ z : List Int, v = ivs z ∧ z.length = m ∧ WfL z := by
  obtain ⟨cs, rfl, hsz⟩ := okWide_struct hu hv
  obtain ⟨n, hn⟩ := h
  have hl : cs.toList.length = m := by rw [Array.length_toList, hsz, hC]
  have hn' : DataW.trod enc P w base spare held n t cs.toList = some (d, p) := hn
  obtain ⟨zs, hz, hw⟩ := ints_of (cs := cs.toList) fun k hk => trod_flat 9 t hF hn' k (by rw [hC, ← hl]; exact hk) hk
  refine ⟨zs, ?_, by rw [← hl, hz]; simp, hw⟩
  rw [ivs, ← hz, Array.toArray_toList]
end
/-- letters for the cells of a list -/
def lets (l : List Value) (n : Nat) : Value := l.getD n (.bool true)
theorem lets_one {l : List Value} (h : ∀ u ∈ l, u.oneCell' = true) (n : Nat) : (lets l n).oneCell' = true := by
  unfold lets
  rw [List.getD_eq_getElem?_getD]
  cases hn : l[n]? with
  | none => rfl
  | some v => exact h v (List.mem_of_getElem? hn)
theorem lets_ints (z : List Int) (n : Nat) : (lets (z.map iv) n).oneCell' = true := lets_one (fun u hu => by
  obtain ⟨a, _, rfl⟩ := List.mem_map.1 hu
  rfl) n
theorem lets_at {z : List Int} {n : Nat} (h : n < z.length) : lets (z.map iv) n = iv z[n] := by
  unfold lets
  rw [List.getD_eq_getElem?_getD, List.getElem?_map, List.getElem?_eq_getElem h]
  rfl
/-- a run of letters -/
def atoms (n : Nat) : Nat → List SV
  | 0 => []
  | k + 1 => .atom n :: atoms (n + 1) k
theorem atoms_den (I : In) : ∀ (k n : Nat) (z : List Int), z.length = k → (∀ i (h : i < z.length), I.val (n + i) = iv z[i]) → denL I (atoms n k) = z.map iv
  | 0, n, z, h, _ => by
    cases z with
    | nil => rfl
    | cons a z => cases h
  | k + 1, n, z, h, hv => by
    cases z with
    | nil => cases h
    | cons a z =>
      have h0 := hv 0 (by simp)
      have ih := atoms_den I k (n + 1) z (by simpa using h) fun i hi => by
        have := hv (i + 1) (by simp; omega)
        simpa [Nat.add_comm, Nat.add_left_comm, Nat.add_assoc] using this
      simp only [atoms, denL, SV.den, List.map_cons, ih]
      simp at h0
      rw [h0]
theorem atoms_ok (A : Nat → Prop) (I : In) : ∀ (k n : Nat), okL A I (atoms n k)
  | 0, n => trivial
  | k + 1, n => ⟨trivial, atoms_ok A I k (n + 1)⟩
/-! ### facts of ints -/
def ivS (z : List Int) : SV → Option Int
  | .atom n => z[n]?
  | .int .i64 a => some a
  | _ => none
def R64 (n : Int) : Prop := -9223372036854775808 ≤ n ∧ n < 9223372036854775808
def factB (z : List Int) (f : BinOp × SV × SV × SV) : Prop := ∃ a b, ivS z f.2.1 = some a ∧ ivS z f.2.2.1 = some b ∧ match f.1 with
  | .add => ivS z f.2.2.2 = some (a + b) ∧ R64 (a + b)
  | .sub => ivS z f.2.2.2 = some (a - b) ∧ R64 (a - b)
  | .mul => ivS z f.2.2.2 = some (a * b) ∧ R64 (a * b)
  | .eql => f.2.2.2 = .bool (decide (a = b))
  | .neq => f.2.2.2 = .bool (decide (a ≠ b))
  | .lss => f.2.2.2 = .bool (decide (a < b))
  | .leq => f.2.2.2 = .bool (decide (a ≤ b))
  | .gtr => f.2.2.2 = .bool (decide (b < a))
  | .geq => f.2.2.2 = .bool (decide (b ≤ a))
  | _ => False
def factM (z : List Int) (f : Builtin × SV × SV × SV) : Prop := ∃ a b, ivS z f.2.1 = some a ∧ ivS z f.2.2.1 = some b ∧ match f.1 with
  | .max => ivS z f.2.2.2 = some (max a b)
  | .min => ivS z f.2.2.2 = some (min a b)
  | _ => False
theorem ivS_kden {z : List Int} {x : SV} {a : Int} (h : ivS z x = some a) : kden (lets (z.map iv)) x = iv a := by
  unfold ivS at h
  split at h
  · rename_i n
    obtain ⟨hn, rfl⟩ := List.getElem?_eq_some_iff.1 h
    exact lets_at hn
  · cases h; rfl
  · cases h
theorem R64.in {n : Int} (h : R64 n) : inI64 n = true := by
  cases n with
  | ofNat m =>
    have := h.2
    simp only [Int.ofNat_eq_natCast] at this
    show Nat.ble _ _ = true
    rw [Nat.ble_eq]
    omega
  | negSucc m =>
    have := h.1
    simp only [Int.negSucc_eq] at this
    show Nat.ble _ _ = true
    rw [Nat.ble_eq]
    omega
theorem fact_ints {F : Facts} {P : Program} {z : List Int} (h1 : ∀ f ∈ F.bin, factB z f) (h2 : ∀ f ∈ F.blt, factM z f) (h3 : F.say (lets (z.map iv))) : ValOk P (lets (z.map iv)) where
  one := lets_ints z
  say := h3
  bin := fun f hf t xo yo w => by
    obtain ⟨a, b, ha, hb, hv⟩ := h1 f hf
    obtain ⟨op, x, y, v⟩ := f
    simp only at ha hb hv
    simp only [ivS_kden ha, ivS_kden hb]
    have go : ∀ s : SV, ibin op .i64 a b = some s → kden (lets (z.map iv)) v = s.den ⟨fun _ => 0, fun _ => 0, fun _ => (none, 0), fun _ => .bool true⟩ → (do eqGuard op t xo yo (iv a) (iv b); binOp op t (iv a) (iv b) : Sem Value).run P w = .ok (kden (lets (z.map iv)) v) w := fun s hs he => by
      rw [he]
      exact (ibin_run (A := fun _ => True) hs t xo yo w).1
    cases op <;> simp only at hv
    case add => exact go (.int .i64 (a + b)) (by simp only [ibin, hv.2.in, cond_true]) (ivS_kden hv.1)
    case sub => exact go (.int .i64 (a - b)) (by simp only [ibin, hv.2.in, cond_true]) (ivS_kden hv.1)
    case mul => exact go (.int .i64 (a * b)) (by simp only [ibin, hv.2.in, cond_true]) (ivS_kden hv.1)
    case eql => exact go (.bool (eqI a b)) rfl (by rw [hv]; simp only [kden, SV.den, eqI_eq, Value.bool.injEq]; rw [Bool.eq_iff_iff]; simp)
    case neq => exact go (.bool (!eqI a b)) rfl (by rw [hv]; simp only [kden, SV.den, eqI_eq, Value.bool.injEq]; rw [Bool.eq_iff_iff]; simp)
    case lss => exact go (.bool (ltI a b)) rfl (by rw [hv]; simp [kden, SV.den, ltI_eq])
    case leq => exact go (.bool (!ltI b a)) rfl (by rw [hv]; simp [kden, SV.den, ltI_eq, ← decide_not])
    case gtr => exact go (.bool (ltI b a)) rfl (by rw [hv]; simp [kden, SV.den, ltI_eq])
    case geq => exact go (.bool (!ltI a b)) rfl (by rw [hv]; simp [kden, SV.den, ltI_eq, ← decide_not])
  blt := fun f hf ts ty cs w => by
    obtain ⟨a, b, ha, hb, hv⟩ := h2 f hf
    obtain ⟨op, x, y, v⟩ := f
    simp only at ha hb hv
    simp only [ivS_kden ha, ivS_kden hb]
    cases op <;> simp only at hv
    case max =>
      rw [ivS_kden hv]
      simp [builtin, Builtin.max_, Builtin.max2, iv]
      split <;> omega
    case min =>
      rw [ivS_kden hv]
      simp [builtin, Builtin.min_, Builtin.min2, iv]
      split <;> omega
end Go.Ev
