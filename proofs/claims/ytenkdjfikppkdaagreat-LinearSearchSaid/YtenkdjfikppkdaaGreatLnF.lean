/-
  Plain words for the search: how the seeker lies in memory, what one step finds, and when no operation is left. No conditions.
-/
import Derived.Test.YtenkdjfikppkdaaGreatLnE
namespace Go.Proofs.YtenkdjfikppkdaaGreat
open Go.RowKit Go.Al
set_option linter.unusedVariables false

/-- one step of the search -/
def stepS (l : List Dd) (most : Int) (f : Nat) (p s : List P3) (done : List Int) (i : Int) : Option (List Int) :=
  match l[i.toNat]? with
  | some d => if tellsB p s most d then srch l most f (doesP d.r p s most) (doesS d.r p s most) (done ++ [i]) else none
  | none => none
theorem srch_done {l : List Dd} {most : Int} {done : List Int} (h : explainsB l done = true) (f : Nat) (p s : List P3) : srch l most f p s done = some done := by
  cases f <;> simp [srch, h]
theorem srch_zero {l : List Dd} {most : Int} {done : List Int} (h : explainsB l done = false) (p s : List P3) : srch l most 0 p s done = none := by
  simp [srch, h]
theorem srch_succ {l : List Dd} {most : Int} {done : List Int} (h : explainsB l done = false) (f : Nat) (p s : List P3) : srch l most (f + 1) p s done = (allL l done).findSome? (stepS l most f p s done) := by
  simp only [srch, h, Bool.false_eq_true, if_false]
  rfl
theorem find_some {xs : List Int} {g : Int → Option (List Int)} {j : Nat} {r : List Int} (hj : j < xs.length) (hn : ∀ x ∈ xs.take j, g x = none) (h : g xs[j] = some r) : xs.findSome? g = some r := by
  have e : xs = xs.take j ++ xs[j] :: xs.drop (j + 1) := by
    rw [List.getElem_cons_drop, List.take_append_drop]
  have h2 : (xs.take j ++ xs[j] :: xs.drop (j + 1)).findSome? g = some r := by
    rw [List.findSome?_append, List.findSome?_eq_none_iff.2 hn, List.findSome?_cons, h]
    rfl
  rwa [← e] at h2
theorem find_none {xs : List Int} {g : Int → Option (List Int)} (hn : ∀ x ∈ xs, g x = none) : xs.findSome? g = none := List.findSome?_eq_none_iff.2 hn

/-- each once, and each one of the operations -/
structure Done (n : Nat) (done : List Int) : Prop where
  nd : done.Nodup
  rng : ∀ x ∈ done, 0 ≤ x ∧ x < n
theorem Done.snoc {n : Nat} {done : List Int} (h : Done n done) {i : Int} (h0 : 0 ≤ i) (h1 : i < n) (hn : hasI done i = false) : Done n (done ++ [i]) :=
  ⟨(by
    rw [List.nodup_append]
    refine ⟨h.nd, by simp, ?_⟩
    intro a ha b hb e
    simp at hb
    subst hb
    subst e
    rw [hasI_iff.2 ha] at hn
    cases hn), (fun x hx => by
    rw [List.mem_append] at hx
    rcases hx with hx | hx
    · exact h.rng x hx
    · simp at hx; subst hx; exact ⟨h0, h1⟩)⟩
theorem nodup_len : ∀ (n : Nat) (xs : List Nat), xs.Nodup → (∀ x ∈ xs, x < n) → xs.length ≤ n
  | 0, xs, _, h => by
    cases xs with
    | nil => exact Nat.le_refl _
    | cons x r => exact absurd (h x List.mem_cons_self) (Nat.not_lt_zero _)
  | n + 1, xs, hn, h => by
    by_cases hm : n ∈ xs
    · have h1 := nodup_len n (xs.erase n) (hn.erase n) (fun x hx => by
        have h2 := (hn.mem_erase_iff).1 hx
        have h3 := h x h2.2
        have h4 := h2.1
        omega)
      rw [List.length_erase_of_mem hm] at h1
      omega
    · have h1 := nodup_len n xs hn (fun x hx => by
        have h3 := h x hx
        have h4 : x ≠ n := fun e => hm (e ▸ hx)
        omega)
      omega
theorem Done.le {n : Nat} {done : List Int} (h : Done n done) : done.length ≤ n := by
  have h1 : (done.map Int.toNat).Nodup := by
    rw [List.Nodup, List.pairwise_map]
    exact h.nd.imp_of_mem fun {a b} ha hb hab e => hab (by have := h.rng a ha; have := h.rng b hb; omega)
  have h2 := nodup_len n _ h1 (fun x hx => by
    obtain ⟨y, hy, rfl⟩ := List.mem_map.1 hx
    have := h.rng y hy
    omega)
  simpa using h2
theorem Done.full {l : List Dd} {done : List Int} (h : Done l.length done) (hf : l.length ≤ done.length) : allL l done = [] := by
  cases ha : allL l done with
  | nil => rfl
  | cons i r =>
    have hm : i ∈ allL l done := by rw [ha]; exact List.mem_cons_self
    obtain ⟨k, hk, rfl, hfr⟩ := mem_allL.1 hm
    have := (h.snoc (i := (k : Int)) (by omega) (by omega) (free_new hfr)).le
    simp at this
    omega

/-- the operations and their lists lie below a block -/
def FarD (base : Nat) (A : Option Addr) (l : List Dd) : Prop := (∀ b, blkOf A = some b → b < base) ∧ ∀ d ∈ l, ∀ b, blkOf d.t.A = some b → b < base
theorem Dds.far {S : Nat → Prop} {w w' : World} {A : Option Addr} {l : List Dd} {base : Nat} (h : Dds w A l) (hf : FarD base A l) (hc : Chg S w w') (hS : ∀ k, S k → base ≤ k) : Dds w' A l :=
  ⟨fun hn => by
    obtain ⟨b, off, e, hb, hr⟩ := h.row hn
    have hbb : b < base := hf.1 b (by rw [e]; rfl)
    exact ⟨b, off, e, Nat.lt_of_lt_of_le hb hc.size, fun i hi => rangeAt_chg (hr i hi) hc (fun hs => by have := hS _ hs; omega)⟩,
   fun d hd => (h.rep d hd).keep ((h.rep d hd).rd.chg hc fun b hb _ hs => by have := hf.2 d hd b hb; have := hS _ hs; omega)⟩
/-- the seeker -/
structure Seek (w : World) (sk : Nat) (A : Option Addr) (n c : Nat) (base : Nat) (V : Option Addr) (cv : Nat) (done : List Int) : Prop where
  blk : Blk w sk 80 #[.slice A n c, .slice V done.length cv]
  own : w.ownsRow base 3 1 (.slice V done.length cv) done.length (is done)
  ne : ∀ b, blkOf V = some b → b ≠ sk
theorem Seek.chg {S : Nat → Prop} {w w' : World} {sk : Nat} {A : Option Addr} {n c base : Nat} {V : Option Addr} {cv : Nat} {done : List Int} (h : Seek w sk A n c base V cv done) (hc : Chg S w w') (h1 : ¬ S sk) (h2 : ∀ b, blkOf V = some b → ¬ S b) : Seek w' sk A n c base V cv done :=
  ⟨h.blk.chg hc h1, own_chg h.own hc (fun b hb => h2 b (by rw [ownBlock_slice] at hb; exact hb)), h.ne⟩
theorem Seek.same {w w' : World} {sk : Nat} {A : Option Addr} {n c base : Nat} {V : Option Addr} {cv : Nat} {done : List Int} (h : Seek w sk A n c base V cv done) (hc : Same w w') : Seek w' sk A n c base V cv done := h.chg hc (fun h => h) fun _ _ h => h
theorem Seek.vlt {w : World} {sk : Nat} {A : Option Addr} {n c base : Nat} {V : Option Addr} {cv : Nat} {done : List Int} (h : Seek w sk A n c base V cv done) : ∀ b, blkOf V = some b → base ≤ b ∧ b < w.heap.size := fun b hb => by
  have := h.own.lt b (by rw [ownBlock_slice]; exact hb)
  exact ⟨this.1, this.2⟩
theorem own_shrink {w : World} {base : Nat} {e : TypeId} {V : Option Addr} {n c : Nat} {xs : List Value} {x : Value} (h : w.ownsRow base e 1 (.slice V (n + 1) c) (n + 1) (xs ++ [x])) (hx : xs.length = n) : w.ownsRow base e 1 (.slice V n c) n xs := by
  refine ⟨by rw [hx]; simp, ?_⟩
  rcases h.2 with ⟨hv, _⟩ | ⟨g, cap, cur, hv, hb, hg, hn, hm, hcs, ht⟩
  · cases hv
  · cases hv
    refine .inr ⟨g, c, cur, rfl, hb, hg, by omega, hm, hcs, ?_⟩
    have h2 := congrArg (List.take n) ht
    have h3 : List.take n xs = xs := List.take_of_length_le (by omega)
    have e1 : min n ((n + 1) * 1) = n * 1 := by omega
    rw [List.take_take, List.take_append_of_le_length (by omega), h3, e1] at h2
    exact h2
/-- how goes ends -/
def GoesEnd (w : World) (sk : Nat) (A : Option Addr) (n c base : Nat) (V : Option Addr) (done : List Int) (res : Option (List Int)) (e : Ending) (w' : World) : Prop :=
  e = .returned (.bool res.isSome) ∧ ∃ V' cv', Seek w' sk A n c base V' cv' (res.getD done) ∧ Chg (fun k => k = sk ∨ blkOf V = some k) w w' ∧ (blkOf V' = blkOf V ∨ ∀ b, blkOf V' = some b → w.heap.size ≤ b)
end Go.Proofs.YtenkdjfikppkdaaGreat
