/-
  maps.Values' iterator at a map from numbers to triples: all of the map's elements come, each once, whatever the order. No conditions.
-/
import Derived.Test.YtenkdjfikppkdaaGreatDoorTdB
import Derived.Shelf.AbstractIn
import Derived.RangeFuncMany
import Derived.RangeFuncLeaves
import Derived.Sort.MapsRangeIn
import Derived.OwnWalkIn
import Derived.TacticsInMore
import Derived.RegionIn
import Derived.LoopNIn
import Derived.LoopIn
import Derived.Shelf.Abstract
namespace Go.Proofs.YtenkdjfikppkdaaGreatDoor
open Go.RowKit Go.Al Go.Maps
set_option linter.unusedVariables false

/-- what has come, when 'left' tells what is still to come -/
def Come (l : List P3) (left : Lit → Bool) (ps : List P3) : Prop :=
  (∀ p ∈ ps, p ∈ l ∧ left (.int .i64 p.1) = false) ∧ ps.Pairwise (fun p q => ¬ p.1 = q.1) ∧ ∀ p ∈ l, left (.int .i64 p.1) = false → p ∈ ps
theorem come_start (l : List P3) : Come l (Maps.has (mapD l)) [] := by
  refine ⟨fun p h => by simp at h, List.Pairwise.nil, fun p hp h => ?_⟩
  rw [mapD_has] at h
  exact absurd (hasK_iff.2 ⟨p, hp, rfl⟩) (by simp [h])
theorem uniq_key {l : List P3} (hs : Srt l) {p q : P3} (hp : p ∈ l) (hq : q ∈ l) (h : p.1 = q.1) : p = q := by
  obtain ⟨i, hi, rfl⟩ := List.mem_iff_getElem.1 hp
  obtain ⟨j, hj, rfl⟩ := List.mem_iff_getElem.1 hq
  have h2 := List.pairwise_iff_getElem.1 hs
  rcases Nat.lt_trichotomy i j with e | e | e
  · have := h2 i j hi hj e; omega
  · subst e; rfl
  · have := h2 j i hj hi e; omega
theorem come_step {l : List P3} (hs : Srt l) {left : Lit → Bool} {ps : List P3} {p : P3} (h : Come l left ps) (hp : p ∈ l) (hl : left (.int .i64 p.1) = true) :
    Come l (fun z => left z && !z.sameKey (.int .i64 p.1)) (ps ++ [p]) := by
  obtain ⟨h1, h2, h3⟩ := h
  refine ⟨fun q hq => ?_, ?_, fun q hq hz => ?_⟩
  · rcases List.mem_append.1 hq with hq | hq
    · exact ⟨(h1 q hq).1, by simp [(h1 q hq).2]⟩
    · obtain rfl : q = p := by simpa using hq
      exact ⟨hp, by simp [same_int]⟩
  · refine List.pairwise_append.2 ⟨h2, by simp, fun a ha b hb e => ?_⟩
    obtain rfl : b = p := by simpa using hb
    have := (h1 a ha).2
    rw [e, hl] at this
    cases this
  · have hz : (left (.int .i64 q.1) && !(Lit.int .i64 q.1).sameKey (.int .i64 p.1)) = false := hz
    rw [same_int] at hz
    by_cases e : q.1 = p.1
    · rw [uniq_key hs hq hp e]; simp
    · have : left (.int .i64 q.1) = false := by simpa [e] using hz
      exact List.mem_append.2 (.inl (h3 q hq this))
theorem come_end {l : List P3} (hs : Srt l) {left : Lit → Bool} {ps : List P3} (h : Come l left ps) (hl : ∀ z, left z = false) : ps.Perm l := by
  obtain ⟨h1, h2, h3⟩ := h
  have n1 : ps.Nodup := h2.imp fun h e => h (by rw [e])
  have n2 : l.Nodup := (show l.Pairwise fun p q => p.1 < q.1 from hs).imp fun h e => by rw [e] at h; omega
  exact (List.perm_ext_iff_of_nodup n1 n2).2 fun p => ⟨fun hp => (h1 p hp).1, fun hp => h3 p hp (hl _)⟩

theorem key_int {k : TypeId} (hk : Tryz.prog.underlying k = some (.int .i64)) {key : Value} {kl : Lit} (h : keyOf Tryz.prog k key = some kl) : ∃ a, key = .int .i64 a ∧ kl = .int .i64 a := by
  cases key <;> simp [keyOf, hk, mapKey] at h
  obtain ⟨⟨rfl, _⟩, rfl⟩ := h
  exact ⟨_, rfl, rfl⟩
def val3 (p : P3) : Value := .agg #[.int .i64 p.1, .int .i64 p.2.1, .int .i64 p.2.2]
theorem r3_shape {v : Value} {y : DataW Unit × List MemPlace} (h : r3 v = some y) : ∃ p, v = val3 p := by
  unfold r3 at h
  split at h
  · split at h
    · rename_i cs _ a b c hc
      refine ⟨(a, b, c), ?_⟩
      have : cs = #[.int .i64 a, .int .i64 b, .int .i64 c] := by rw [← Array.toArray_toList (xs := cs), hc]
      rw [this]
      rfl
    · cases h
  · cases h
theorem at_mem {l : List P3} {x : Int} {c : P3} (h : ∀ zd, (mapD l).atKey (.int .i64 x) zd = dat3 c) : c ∈ l ∧ c.1 = x := by
  have h1 := h (dat3 (c.1 + 1, c.2))
  rw [mapD_at] at h1
  have h2 := dat3_inj h1
  cases hf : find3 l x with
  | none =>
    rw [hf] at h2
    have := congrArg Prod.fst h2
    simp at this
    omega
  | some d =>
    rw [hf] at h2
    have h2 : d = c := h2
    subst h2
    exact ⟨List.mem_of_find?_eq_some hf, by have := List.find?_some hf; simpa using this⟩

set_option maxRecDepth 100000 in
set_option maxHeartbeats 2000000 in
theorem valuesP_iter {l0 : List P3} (F : Fence) (n : Nat) (h8 : F.fn 70) (hro : F.round = none) (hn : 1 ≤ n) (l Bm b : Nat) (J : List P3 → World → Prop)
    (hY : ∀ pre x W, J pre W → pre.length < l0.length → YieldAt F (n - 1) Tryz.prog l #[val3 x] W fun e W' => e = .returned (.bool true) ∧ J (pre ++ [x]) W' ∧ KeepsWalks W W')
    (W : World) (hJ : AbidesFrom W.heap.size J) (hm : W.cell? ⟨Bm, 0, none⟩ = some (.map (some b))) (hown : MapI W b l0) (h0 : J [] W) :
    CallsIn F n Tryz.prog 70 #[.func (.yield l) #[] #[], .pointer (some ⟨Bm, 0, none⟩)] W fun e W' => (∃ v, e = .returned v) ∧ ∃ ps : List P3, ps.Perm l0 ∧ J ps W' := by
  have hsrt := hown.2
  have hsz := mapD_size l0
  refine callsIn_of_wp Tryz.func70 rfl h8 ?_ hro
  simp only [Tryz.ntmps70, List.size_toArray, List.length_cons, List.length_nil, Nat.reduceAdd, Nat.reduceSub, Array.replicate_succ, Array.replicate_zero, List.push_toArray, List.append_toArray, List.nil_append, List.cons_append]
  gi_wp2_with (first
    | (gi_at_range; refine wpListIn_range_own _ rfl _ 86 rfl 3 26 (int_keyed Tryz.underlying3) Tryz.underlying86 _ b l0.length _ rfl hown.1 ?_; intro w0 hrg0 hg0 hs0)
    | gi_in)
  go_frame
  gi_loopw [4] (fun _ wr => ∃ (left : Lit → Bool) (cnt : Nat) (ps : List P3), wr.ranges Tryz.prog 3 r3 b W.heap.size l0.length (mapD l0) left cnt ∧ ps.length + cnt ≤ l0.length ∧ Come l0 left ps ∧ J ps wr)
    (fun _ wr => wr.rangeLeft b W.heap.size)
  case atStart =>
    exact ⟨_, _, [], hrg0, by simp [hsz], come_start l0, hJ [] W w0 none h0 hg0 (fun r e => by cases e)⟩
  case round =>
    obtain ⟨left, cnt, ps, hrg, hcs, hC, hJs⟩ := hrel
    gi_wp2_with (first
      | (gi_at_next; refine wpListIn_next_ranges _ rfl _ rfl 3 (int_keyed Tryz.underlying3) r3 (Value.int .i64) val3 (fun key kl hk => by obtain ⟨x, hx, _⟩ := key_int Tryz.underlying3 hk; exact ⟨x, hx⟩) (fun v y hv => r3_shape hv) b W.heap.size l0.length _ _ _ rfl hrg ?_ ?_)
      | gi_in)
    · intro hc0 hl0
      gi_wp2
      go_end0
      exact ⟨⟨_, rfl⟩, ps, come_end hsrt hC hl0, hJs⟩
    · intro x c1 c2 c3 kl yd yp w2 cnt2 hkey hlk hv hat hrg2 hlt hg2 hs2 hen
      obtain ⟨x', ex, hkl⟩ := key_int Tryz.underlying3 hkey
      obtain rfl : x = x' := by simpa using ex
      subst hkl
      obtain rfl : yd = dat3 (c1, c2, c3) := by have e : r3 (val3 (c1, c2, c3)) = some (dat3 (c1, c2, c3), []) := rfl; rw [e] at hv; exact (congrArg Prod.fst (Option.some.inj hv)).symm
      obtain ⟨hcl, hcx⟩ := at_mem hat
      have hcx : c1 = x := hcx
      subst hcx
      have hJ2 : J ps w2 := hJ ps wr w2 (some W.heap.size) hJs hg2 (fun r e => by cases e; exact ⟨Nat.le_refl _, hrg.iter_walk⟩)
      have hC2 := come_step hsrt hC hcl hlk
      unfold val3 at hen
      have hJ3 : J ps (w2.alloc (.cells #[.int .i64 c1, .int .i64 c2, .int .i64 c3] 26)) := hJ ps w2 _ none hJ2 (World.grownBy_alloc _ _ none) (fun r e => by cases e)
      obtain ⟨fn, tmps, assign, body, hy, hR⟩ := hY ps (c1, c2, c3) _ hJ3 (by omega)
      unfold val3 at hy
      clear hs2 hv hat hkey
      gi_wp2
      refine hR.mono ?_
      rintro e W3 ⟨rfl, hJ4, hk4⟩
      gi_wp2
      have hrg3 := (hrg2.alloc (.cells #[.int .i64 c1, .int .i64 c2, .int .i64 c3] 26)).of_walks hk4
      go_roundw
      case rel => exact ⟨_, cnt2, ps ++ [(c1, c2, c3)], hrg3, by simp; omega, hC2, hJ4⟩
      case measure => rw [hrg3.left_eq, hrg.left_eq]; exact hlt
end Go.Proofs.YtenkdjfikppkdaaGreatDoor
