/-
  Plain laws: points and intervals as numbers in a row, as bytes, and read again. No program is named here. No conditions.
-/
import Derived.Test.YtopkdiiigidfdaaGreatCdP
import Derived.Test.YtopkdiiigidfdaaGreatTcP
namespace Go.Al
set_option linter.unusedVariables false

theorem u8_inj {x y : Nat} (hx : x < 256) (hy : y < 256) (h : x.toUInt8 = y.toUInt8) : x = y := by
  have := congrArg UInt8.toNat h
  simp [Nat.toUInt8] at this
  omega
theorem uv_prefix : ∀ (u v : Nat) (r s : List UInt8), Lib.uvarint u ++ r = Lib.uvarint v ++ s → u = v ∧ r = s := by
  intro u
  induction u using Nat.strongRecOn with
  | _ u ih =>
    intro v r s h
    by_cases hu : u < 128
    · by_cases hv : v < 128
      · rw [Lib.uvarint_small hu, Lib.uvarint_small hv] at h
        simp only [List.cons_append, List.nil_append, List.cons.injEq] at h
        exact ⟨u8_inj (by omega) (by omega) h.1, h.2⟩
      · rw [Lib.uvarint_small hu, Lib.uvarint_big (by omega)] at h
        simp only [List.cons_append, List.nil_append, List.cons.injEq] at h
        have := u8_inj (by omega) (by omega) h.1
        omega
    · by_cases hv : v < 128
      · rw [Lib.uvarint_small hv, Lib.uvarint_big (by omega)] at h
        simp only [List.cons_append, List.nil_append, List.cons.injEq] at h
        have := u8_inj (by omega) (by omega) h.1
        omega
      · rw [Lib.uvarint_big (x := u) (by omega), Lib.uvarint_big (x := v) (by omega)] at h
        simp only [List.cons_append, List.cons.injEq] at h
        have h1 := u8_inj (by omega) (by omega) h.1
        have h2 := ih (u / 128) (by omega) _ _ _ h.2
        exact ⟨by omega, h2.2⟩
theorem zig_inj {m n : Int} (h : Lib.zigzag m = Lib.zigzag n) : m = n := by rw [← unzig_zig m, h, unzig_zig]
theorem enc_prefix {m n : Int} {r s : List UInt8} (h : encI m ++ r = encI n ++ s) : m = n ∧ r = s := by
  have := uv_prefix _ _ _ _ h
  exact ⟨zig_inj this.1, this.2⟩

/-- an int -/
def inI (n : Int) : Prop := -9223372036854775808 ≤ n ∧ n ≤ 9223372036854775807
open Classical in
/-- the number with which bytes begin, and what is behind it -/
noncomputable def rdN (l : List UInt8) : Option (Int × List UInt8) := if h : ∃ q : Int × List UInt8, inI q.1 ∧ l = encI q.1 ++ q.2 then some h.choose else none
theorem rdN_enc {n : Int} {r : List UInt8} (h : inI n) : rdN (encI n ++ r) = some (n, r) := by
  have he : ∃ q : Int × List UInt8, inI q.1 ∧ encI n ++ r = encI q.1 ++ q.2 := ⟨(n, r), h, rfl⟩
  rw [rdN, dif_pos he]
  have := enc_prefix he.choose_spec.2
  rw [show he.choose = (n, r) from Prod.ext this.1.symm this.2.symm]
theorem rdN_some {l : List UInt8} {n : Int} {r : List UInt8} (h : rdN l = some (n, r)) : inI n ∧ l = encI n ++ r := by
  unfold rdN at h
  split at h
  · rename_i hc
    have e := Option.some.inj h
    have hs := hc.choose_spec
    rw [e] at hs
    exact hs
  · cases h
theorem rdN_none {l : List UInt8} (h : rdN l = none) : ∀ n r, inI n → l ≠ encI n ++ r := by
  intro n r hn e
  rw [e, rdN_enc hn] at h
  cases h

/-- a number that is not too far -/
noncomputable def rdI (l : List UInt8) : Option (Int × List UInt8) := (rdN l).bind fun q => if q.1 < -2199023255552 ∨ 2199023255552 < q.1 then none else some q
/-- how many -/
noncomputable def rdM (l : List UInt8) : Option (Int × List UInt8) := (rdI l).bind fun q => if q.1 < 0 ∨ ((q.2.length / 3 : Nat) : Int) < q.1 then none else some q
/-- three numbers -/
noncomputable def rd3 (l : List UInt8) : Option (P3 × List UInt8) :=
  (rdI l).bind fun a => (rdI a.2).bind fun b => (rdI b.2).bind fun c => some ((a.1, b.1, c.1), c.2)
/-- so many threes, each number of the first counted from the one before; f: what a three stands for -/
noncomputable def rdT (f : Int → P3 → P3) : Nat → Int → List UInt8 → Option (List P3 × List UInt8)
  | 0, _, l => some ([], l)
  | n + 1, last, l => (rd3 l).bind fun a => (rdT f n (f last a.1).1 a.2).map fun q => (f last a.1 :: q.1, q.2)
def ptF (last : Int) (a : P3) : P3 := (last + a.1, a.2.1, a.2.2)
def spF (last : Int) (a : P3) : P3 := (last + a.1, a.2.1, a.2.1 + a.2.2)
def ptG (last : Int) (p : P3) : List Int := [p.1 - last, p.2.1, p.2.2]
def spG (last : Int) (p : P3) : List Int := [p.1 - last, p.2.1, p.2.2 - p.2.1]
/-- all -/
noncomputable def rdA (l : List UInt8) : Option (List P3 × List P3) :=
  (rdM l).bind fun n => (rdT ptF n.1.toNat 0 n.2).bind fun p => (rdM p.2).bind fun m => (rdT spF m.1.toNat 0 m.2).map fun s => (p.1, s.1)
/-- the numbers of threes -/
def nums (g : Int → P3 → List Int) : Int → List P3 → List Int
  | _, [] => []
  | last, p :: l => g last p ++ nums g p.1 l
def encD (l : List Int) : List UInt8 := l.flatMap encI
/-- the bytes of points and intervals -/
def wrtD (p s : List P3) : List UInt8 := encD ((p.length : Int) :: nums ptG 0 p ++ ((s.length : Int) :: nums spG 0 s))

def coordB (x : Int) : Bool := decide (-1099511627776 ≤ x) && decide (x ≤ 1099511627776)
def idB (x : Int) : Bool := decide (1 ≤ x) && decide (x ≤ 2147483647)
def goodPB (p : P3) : Bool := idB p.1 && (coordB p.2.1 && coordB p.2.2)
def fairB (p : P3) : Bool := idB p.1 && coordB p.2.1 && coordB p.2.2 && decide (p.2.1 ≤ p.2.2)
/-- ids rise, and all are good -/
def risB (g : P3 → Bool) : List P3 → Bool
  | [] => true
  | [p] => g p
  | p :: q :: l => g p && decide (p.1 < q.1) && risB g (q :: l)
def wellB (p s : List P3) : Bool := risB goodPB p && risB fairB s
theorem risB_cons {g : P3 → Bool} {p : P3} {l : List P3} (h : risB g (p :: l) = true) : g p = true ∧ risB g l = true ∧ ∀ q ∈ l.head?, p.1 < q.1 := by
  cases l with
  | nil => exact ⟨h, rfl, fun q hq => by cases hq⟩
  | cons q l =>
    simp only [risB, Bool.and_eq_true, decide_eq_true_eq] at h
    exact ⟨h.1.1, h.2, fun r hr => by cases hr; exact h.1.2⟩
theorem encD_append (a b : List Int) : encD (a ++ b) = encD a ++ encD b := List.flatMap_append
theorem encD_cons (a : Int) (b : List Int) : encD (a :: b) = encI a ++ encD b := List.flatMap_cons
theorem encD_nil : encD [] = [] := rfl
theorem encD_three (a b c : Int) : encD [a, b, c] = encI a ++ (encI b ++ encI c) := by simp [encD]
theorem len3 (l : List Int) : l.length ≤ (encD l).length := by
  induction l with
  | nil => exact Nat.le_refl _
  | cons a l ih =>
    rw [encD_cons, List.length_append, List.length_cons]
    have := encI_pos a
    omega
theorem numsP_len (g : Int → P3 → List Int) (hg : ∀ i p, (g i p).length = 3) : ∀ (l : List P3) (i : Int), (nums g i l).length = 3 * l.length
  | [], _ => rfl
  | p :: l, i => by rw [nums, List.length_append, hg, numsP_len g hg l, List.length_cons]; omega
theorem rdI_enc {n : Int} {r : List UInt8} (h1 : -2199023255552 ≤ n) (h2 : n ≤ 2199023255552) : rdI (encI n ++ r) = some (n, r) := by
  unfold rdI
  rw [rdN_enc ⟨by omega, by omega⟩]
  exact if_neg (by show ¬ (n < -2199023255552 ∨ 2199023255552 < n); omega)
theorem rd3_enc {a b c : Int} {r : List UInt8} (ha : -2199023255552 ≤ a ∧ a ≤ 2199023255552) (hb : -2199023255552 ≤ b ∧ b ≤ 2199023255552) (hc : -2199023255552 ≤ c ∧ c ≤ 2199023255552) : rd3 (encD [a, b, c] ++ r) = some ((a, b, c), r) := by
  unfold rd3
  rw [encD_three, List.append_assoc, List.append_assoc, rdI_enc ha.1 ha.2, Option.bind_some, rdI_enc hb.1 hb.2, Option.bind_some, rdI_enc hc.1 hc.2]
  rfl
theorem rdM_enc {n : Nat} {r : List UInt8} (h : n ≤ r.length / 3) (hr : r.length ≤ 1048576) : rdM (encI n ++ r) = some ((n : Int), r) := by
  unfold rdM
  rw [rdI_enc (by omega) (by omega)]
  exact if_neg (by show ¬ ((n : Int) < 0 ∨ ((r.length / 3 : Nat) : Int) < n); omega)
theorem rdT_pts : ∀ (l : List P3) (last : Int) (r : List UInt8), risB goodPB l = true → 0 ≤ last → last ≤ 2147483647 → rdT ptF l.length last (encD (nums ptG last l) ++ r) = some (l, r)
  | [], _, _, _, _, _ => rfl
  | p :: l, last, r, h, h0, h1 => by
    have hc := risB_cons h
    have hg := hc.1
    simp only [goodPB, idB, coordB, Bool.and_eq_true, decide_eq_true_eq] at hg
    rw [List.length_cons, rdT, nums, ptG, encD_append, List.append_assoc, rd3_enc (by omega) (by omega) (by omega), Option.bind_some]
    have e : ptF last (p.1 - last, p.2.1, p.2.2) = p := by unfold ptF; exact Prod.ext (by show last + (p.1 - last) = p.1; omega) rfl
    show Option.map _ (rdT ptF l.length (ptF last (p.1 - last, p.2.1, p.2.2)).1 (encD (nums ptG p.1 l) ++ r)) = _
    rw [e, rdT_pts l p.1 r hc.2.1 (by omega) (by omega)]
    rfl
theorem rdT_sps : ∀ (l : List P3) (last : Int) (r : List UInt8), risB fairB l = true → 0 ≤ last → last ≤ 2147483647 → rdT spF l.length last (encD (nums spG last l) ++ r) = some (l, r)
  | [], _, _, _, _, _ => rfl
  | p :: l, last, r, h, h0, h1 => by
    have hc := risB_cons h
    have hg := hc.1
    simp only [fairB, idB, coordB, Bool.and_eq_true, decide_eq_true_eq] at hg
    rw [List.length_cons, rdT, nums, spG, encD_append, List.append_assoc, rd3_enc (by omega) (by omega) (by omega), Option.bind_some]
    have e : spF last (p.1 - last, p.2.1, p.2.2 - p.2.1) = p := by
      unfold spF
      exact Prod.ext (by show last + (p.1 - last) = p.1; omega) (Prod.ext rfl (by show p.2.1 + (p.2.2 - p.2.1) = p.2.2; omega))
    show Option.map _ (rdT spF l.length (spF last (p.1 - last, p.2.1, p.2.2 - p.2.1)).1 (encD (nums spG p.1 l) ++ r)) = _
    rw [e, rdT_sps l p.1 r hc.2.1 (by omega) (by omega)]
    rfl
/-- what is written is read again -/
theorem rdA_wrt {p s : List P3} (h : wellB p s = true) (hl : (wrtD p s).length ≤ 1048576) : rdA (wrtD p s) = some (p, s) := by
  simp only [wellB, Bool.and_eq_true] at h
  unfold wrtD at hl ⊢
  rw [List.cons_append, encD_cons, encD_append, encD_cons] at hl ⊢
  simp only [List.length_append] at hl
  have h1 := len3 (nums ptG 0 p)
  have h2 := len3 (nums spG 0 s)
  rw [numsP_len ptG (fun _ _ => rfl)] at h1
  rw [numsP_len spG (fun _ _ => rfl)] at h2
  unfold rdA
  rw [rdM_enc (by rw [List.length_append]; omega) (by simp only [List.length_append]; omega), Option.bind_some]
  show (rdT ptF (p.length : Int).toNat 0 _).bind _ = _
  rw [Int.toNat_natCast, rdT_pts p 0 _ h.1 (by decide) (by decide), Option.bind_some]
  show (rdM (encI s.length ++ encD (nums spG 0 s))).bind _ = _
  rw [rdM_enc (by omega) (by omega), Option.bind_some]
  show (rdT spF (s.length : Int).toNat 0 _).map _ = _
  have e := rdT_sps s 0 [] h.2 (by decide) (by decide)
  rw [List.append_nil] at e
  rw [Int.toNat_natCast, e]
  rfl
/-- what Read tells -/
noncomputable def readD (b : List UInt8) : Option (List P3 × List P3) := (rdA b).bind fun q => if wellB q.1 q.2 = true ∧ wrtD q.1 q.2 = b then some q else none
theorem readD_some {b : List UInt8} {p s : List P3} (h : readD b = some (p, s)) : wellB p s = true ∧ wrtD p s = b := by
  unfold readD at h
  cases hr : rdA b with
  | none => rw [hr] at h; cases h
  | some q =>
    rw [hr, Option.bind_some] at h
    split at h
    · rename_i hc
      cases h
      exact hc
    · cases h
theorem readD_wrt {p s : List P3} (h : wellB p s = true) (hl : (wrtD p s).length ≤ 1048576) : readD (wrtD p s) = some (p, s) := by
  unfold readD
  rw [rdA_wrt h hl, Option.bind_some, if_pos ⟨h, rfl⟩]
theorem readD_none {b : List UInt8} (hb : b.length ≤ 1048576) (h : readD b = none) (p s : List P3) : wellB p s = false ∨ wrtD p s ≠ b := by
  by_cases hw : wellB p s = true
  · refine .inr fun e => ?_
    subst e
    rw [readD_wrt hw hb] at h
    cases h
  · exact .inl (by simpa using hw)
end Go.Al
