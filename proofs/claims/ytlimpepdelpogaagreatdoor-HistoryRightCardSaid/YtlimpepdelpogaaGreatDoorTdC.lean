/-
  Library calls at this program's own types: maps.Clone, cmp.Compare, slices.SortFunc over triples by their first number. Condition: fewer than 2^60 elements.
  slices.SortFunc over triples by their first number: what it leaves. Condition: fewer than 2^60 elements.
  maps.Values' iterator at a map from numbers to triples: all of the map's elements come, each once, whatever the order. No conditions.
-/
import Derived.Test.YtlimpepdelpogaaGreatDoorTcE
import Derived.Test.YtlimpepdelpogaaGreatDoorLay
import Derived.Shelf.SlSortCmp.NoneTotal
import Derived.Shelf.AbstractIn
import Derived.RangeFuncMany
import Derived.RangeFuncLeaves
import Derived.Sort.MapsRangeIn
import Derived.OwnWalkIn
import Derived.TacticsInMore
import Derived.RegionIn
import Derived.LoopNIn
import Derived.LoopIn
import Derived.Shelf.Abstract
/-! TdA -/
namespace Go.Proofs.YtlimpepdelpogaaGreatDoor
open Go.RowKit Go.Al
set_option linter.unusedVariables false
end Go.Proofs.YtlimpepdelpogaaGreatDoor
/-! TdB -/
namespace Go.Proofs.YtlimpepdelpogaaGreatDoor
open Go.RowKit Go.Al Go.Sort
set_option linter.unusedVariables false
set_option maxHeartbeats 1000000
set_option maxRecDepth 100000
/-- a triple's cells -/
def enc3 (x : P3) : List Value := [.int .i64 x.1, .int .i64 x.2.1, .int .i64 x.2.2]
def cmp3 (x y : P3) : Int := Go.Lib.compareInt x.1 y.1
theorem lt3 (x y : P3) : Go.Proofs.ltOf cmp3 x y = decide (x.1 < y.1) := by
  unfold Go.Proofs.ltOf cmp3 Go.Lib.compareInt
  by_cases h1 : x.1 < y.1
  · simp [h1]
  · by_cases h2 : y.1 < x.1 <;> simp [h1, h2]
theorem swo3 : SWO (Go.Proofs.ltOf cmp3) where
  irrefl x := by rw [lt3]; simp
  trans x y z h1 h2 := by rw [lt3] at *; simp at *; omega
  ntrans x y z h1 h2 := by rw [lt3] at *; simp at *; omega
theorem closureP (x y : P3) (W : World) : Calls Tryz.prog 24 #[.agg #[.int .i64 x.1, .int .i64 x.2.1, .int .i64 x.2.2], .agg #[.int .i64 y.1, .int .i64 y.2.1, .int .i64 y.2.2]] W fun e w' => e = .returned (.int .i64 (cmp3 x y)) ∧ ∃ q os', w' = grow (W.drewN q) os' := by
  have hcon := fun W' => Go.Proofs.AnyG.cmp_Compare_int cmpInt x.1 y.1 W'
  change ∀ W', Calls Tryz.prog 25 _ _ _ at hcon
  unfold cmp3
  generalize Go.Lib.compareInt x.1 y.1 = r at hcon ⊢
  go_enter Tryz.func24, Tryz.ntmps24
  go_wp2_with (go_at_call 25; refine (hcon _).mono ?_; rintro e w' ⟨rfl, rfl⟩)
  go_ret
  exact ⟨rfl, 0, _, by rw [alloc_eq_grow, alloc_eq_grow, grow_grow]; rfl⟩
theorem closureS (x y : P3) (W : World) : Calls Tryz.prog 28 #[.agg #[.int .i64 x.1, .int .i64 x.2.1, .int .i64 x.2.2], .agg #[.int .i64 y.1, .int .i64 y.2.1, .int .i64 y.2.2]] W fun e w' => e = .returned (.int .i64 (cmp3 x y)) ∧ ∃ q os', w' = grow (W.drewN q) os' := by
  have hcon := fun W' => Go.Proofs.AnyG.cmp_Compare_int cmpInt x.1 y.1 W'
  change ∀ W', Calls Tryz.prog 25 _ _ _ at hcon
  unfold cmp3
  generalize Go.Lib.compareInt x.1 y.1 = r at hcon ⊢
  go_enter Tryz.func28, Tryz.ntmps28
  go_wp2_with (go_at_call 25; refine (hcon _).mono ?_; rintro e w' ⟨rfl, rfl⟩)
  go_ret
  exact ⟨rfl, 0, _, by rw [alloc_eq_grow, alloc_eq_grow, grow_grow]; rfl⟩
/-! rows as the sort holds them -/
theorem get_enc3 (x : P3) : (enc3 x)[0]! = .int .i64 x.1 ∧ (enc3 x)[1]! = .int .i64 x.2.1 ∧ (enc3 x)[2]! = .int .i64 x.2.2 := ⟨rfl, rfl, rfl⟩
theorem holds_row {w : World} {blk off cap n : Nat} {l : List P3} (h : Row3 w (some ⟨blk, off, none⟩) n cap l) (hf : ∀ i, w.frozen? ⟨blk, i, none⟩ = false) : HoldsK enc3 3 w blk off l.toArray := by
  intro t ht
  rw [size_flatK] at ht
  simp at ht
  refine ⟨?_, hf _⟩
  rw [get_flatK _ _ _ _ (by simpa using ht)]
  have hi : t / 3 < l.length := by omega
  obtain ⟨b, o, e, _, c0, c1, c2⟩ := h.at_ hi
  obtain ⟨rfl, rfl⟩ : blk = b ∧ off = o := by injection e with e; injection e with e1 e2; exact ⟨e1, e2⟩
  have eg : (l.toArray)[t / 3]! = l[t / 3] := by simp [hi]
  rw [eg]
  have h3 : t % 3 = 0 ∨ t % 3 = 1 ∨ t % 3 = 2 := by omega
  have hm := Nat.div_add_mod t 3
  rcases h3 with h3 | h3 | h3
  · rw [h3, (get_enc3 _).1, show off + t = off + t / 3 * 3 by omega]; exact c0
  · rw [h3, (get_enc3 _).2.1, show off + t = off + t / 3 * 3 + 1 by omega]; exact c1
  · rw [h3, (get_enc3 _).2.2, show off + t = off + t / 3 * 3 + 2 by omega]; exact c2
theorem row_holds {w : World} {blk off cap n : Nat} {l : List P3} (h : HoldsK enc3 3 w blk off l.toArray) (hl : l.length = n) (hc : n ≤ cap) (hm : cap ≤ maxLen) (hb : blk < w.heap.size) : Row3 w (some ⟨blk, off, none⟩) n cap l := by
  refine ⟨fun _ => ⟨blk, off, rfl, fun i x hx => ?_⟩, hl, hc, hm, fun b hb' => by simp [blkOf] at hb'; omega⟩
  have hi : i < l.length * 3 := by rw [← is3_len]; exact (List.getElem?_eq_some_iff.1 hx).1
  have hj : i / 3 < l.length := by omega
  obtain ⟨g0, g1, g2⟩ := is3_get hj
  have c := fun k (hk : k < 3) => (HoldsK.cell h (i := i / 3) (c := k) (by simpa using hj) hk).1
  have eg : (l.toArray)[i / 3]! = l[i / 3] := by simp [hj]
  simp only [eg] at c
  have h3 : i % 3 = 0 ∨ i % 3 = 1 ∨ i % 3 = 2 := by omega
  have hm := Nat.div_add_mod i 3
  rcases h3 with h3 | h3 | h3
  · rw [show i = i / 3 * 3 by omega] at hx ⊢; rw [g0] at hx; obtain rfl := Option.some.inj hx; have := c 0 (by decide); rw [(get_enc3 _).1] at this; exact this
  · rw [show i = i / 3 * 3 + 1 by omega] at hx ⊢; rw [g1] at hx; obtain rfl := Option.some.inj hx; have := c 1 (by decide); rw [(get_enc3 _).2.1] at this; rw [← Nat.add_assoc]; exact this
  · rw [show i = i / 3 * 3 + 2 by omega] at hx ⊢; rw [g2] at hx; obtain rfl := Option.some.inj hx; have := c 2 (by decide); rw [(get_enc3 _).2.2] at this; rw [← Nat.add_assoc]; exact this
theorem ty_onCells {w : World} {k : Nat} {f : Array Value → Array Value} {blk : Nat} : Go.Al.ty (mapBlock w blk f) k = Go.Al.ty w k := by
  unfold Go.Al.ty World.shape? mapBlock
  simp only [Array.getElem?_modify]
  by_cases hk : blk = k
  · simp only [hk, if_true]
    cases w.heap[k]? with
    | none => rfl
    | some o => cases o <;> rfl
  · simp [hk]
theorem chg_sort (w : World) (blk off n : Nat) (d : Array P3) (os : Array Obj) : Chg (fun k => k = blk) w (sortWorldK enc3 3 w blk off n d os) := by
  unfold sortWorldK putRowK putRow
  refine ⟨rfl, rfl, rfl, by simp [grow, mapBlock, Sort.ahead], fun k hk => ?_, fun k hk hn => ?_⟩
  · have h1 : (grow (mapBlock (Sort.ahead w n) blk (putCells id off (flatK enc3 3 d))) os).heap[k]? = (mapBlock (Sort.ahead w n) blk (putCells id off (flatK enc3 3 d))).heap[k]? := heap_grow_old _ os (by simpa [mapBlock, Sort.ahead] using hk)
    have h2 : Go.Al.ty (grow (mapBlock (Sort.ahead w n) blk (putCells id off (flatK enc3 3 d))) os) k = Go.Al.ty (mapBlock (Sort.ahead w n) blk (putCells id off (flatK enc3 3 d))) k := by
      unfold Go.Al.ty World.shape?
      rw [h1]
    rw [h2, ty_onCells]
    rfl
  · rw [heap_grow_old _ os (by simpa [mapBlock, Sort.ahead] using hk)]
    simp [mapBlock, Sort.ahead, Array.getElem?_modify, show ¬ blk = k from fun e => hn e.symm]
/-- one list alone is sorted -/
theorem sorted_is {l : List P3} {d d' : Array P3} (hp : PermIn 0 d.size d d') (hs : SortedIn (Go.Proofs.ltOf cmp3) 0 d.size d') (hl : d.toList.Perm l) (hst : Srt l) : d' = l.toArray := by
  obtain ⟨h1, _, h3⟩ := hp
  have e1 : d'.extract 0 d.size = d' := by rw [← h1]; simp
  have e2 : d.extract 0 d.size = d := by simp
  rw [e1, e2] at h3
  have hperm : d'.toList.Perm l := h3.trans hl
  have hne : d'.toList.Pairwise fun p q => ¬ p.1 = q.1 := by
    have : l.Pairwise fun p q => ¬ p.1 = q.1 := hst.imp fun h => by omega
    exact (hperm.pairwise_iff (fun {_ _} h e => h e.symm)).2 this
  have hsrt : Srt d'.toList := by
    refine List.pairwise_iff_getElem.2 fun i j hi hj hij => ?_
    have h4 := hs i j (Nat.zero_le _) hij (by rw [← h1]; simpa using hj)
    have h5 := List.pairwise_iff_getElem.1 hne i j hi hj hij
    rw [lt3] at h4
    have hi' : i < d'.size := by simpa using hi
    have hj' : j < d'.size := by simpa using hj
    rw [getElem!_pos d' i hi', getElem!_pos d' j hj'] at h4
    simp at h4 h5 ⊢
    omega
  have := List.Perm.eq_of_pairwise (le := fun p q : P3 => p.1 < q.1) (fun a b _ _ h1 h2 => by have : a.1 < b.1 := h1; have : b.1 < a.1 := h2; omega) hsrt hst hperm
  rw [← this]
theorem sortP_any {w : World} {blk off cap : Nat} {xs l : List P3} (h : Row3 w (some ⟨blk, off, none⟩) xs.length cap xs) (hf : ∀ i, w.frozen? ⟨blk, i, none⟩ = false) (hp : xs.Perm l) (hst : Srt l) (hsz : xs.length < 4611686018427387904) :
    Calls Tryz.prog 43 #[.slice (some ⟨blk, off, none⟩) xs.length cap, .func (.func 24) #[] #[]] w fun e w' => e = .returned (.tuple #[]) ∧ Row3 w' (some ⟨blk, off, none⟩) l.length cap l ∧ Chg (fun k => k = blk) w w' := by
  have eg : ∀ args w, (callFunc 24 args).run Tryz.prog w = .ok (.enter 24 args) w := enters_of Tryz.func24 (by kernel_rfl) rfl
  have hb := h.2.2.2.2 blk rfl
  have hH := holds_row h hf
  have hcon := Go.Proofs.AnyQ.slices_SortFunc Go.Proofs.YtlimpepdelpogaaGreatDoor.sortP 3 Tryz.isAgg25 Tryz.sizeOf25 enc3 (fun _ => rfl) (fun x v hv => by simp [enc3] at hv; rcases hv with rfl | rfl | rfl <;> rfl) cmp3 swo3 24 #[] blk off cap xs.toArray w eg (fun _ _ _ _ x y => closureP x y _) hH hb (by simpa using hsz)
  change Calls Tryz.prog 43 _ _ _ at hcon
  refine hcon.mono ?_
  rintro e w' ⟨he, d', n, os, h1, h2, rfl⟩
  obtain rfl := sorted_is h1 h2 (by simpa using hp) hst
  have hlen : l.length = xs.length := hp.length_eq.symm
  have hH2 := holdsK_sortWorldK enc3 3 w blk off n xs.toArray l.toArray os hb hH (by simpa using hlen)
  exact ⟨he, row_holds hH2 rfl (by rw [hlen]; exact h.2.2.1) h.2.2.2.1 (lt_sortWorldK enc3 3 w blk off n l.toArray os hb), chg_sort w blk off n l.toArray os⟩
theorem sortP_none (A : Option Addr) (cap : Nat) (w : World) :
    Calls Tryz.prog 43 #[.slice A 0 cap, .func (.func 24) #[] #[]] w fun e w' => e = .returned (.tuple #[]) ∧ w' = w := by
  have hcon := Go.Proofs.AnyF.slices_SortFunc_none Go.Proofs.YtlimpepdelpogaaGreatDoor.sortP A cap (.func (.func 24) #[] #[]) w
  change Calls Tryz.prog 43 _ _ _ at hcon
  exact hcon
theorem sortS_any {w : World} {blk off cap : Nat} {xs l : List P3} (h : Row3 w (some ⟨blk, off, none⟩) xs.length cap xs) (hf : ∀ i, w.frozen? ⟨blk, i, none⟩ = false) (hp : xs.Perm l) (hst : Srt l) (hsz : xs.length < 4611686018427387904) :
    Calls Tryz.prog 47 #[.slice (some ⟨blk, off, none⟩) xs.length cap, .func (.func 28) #[] #[]] w fun e w' => e = .returned (.tuple #[]) ∧ Row3 w' (some ⟨blk, off, none⟩) l.length cap l ∧ Chg (fun k => k = blk) w w' := by
  have eg : ∀ args w, (callFunc 28 args).run Tryz.prog w = .ok (.enter 28 args) w := enters_of Tryz.func28 (by kernel_rfl) rfl
  have hb := h.2.2.2.2 blk rfl
  have hH := holds_row h hf
  have hcon := Go.Proofs.AnyQ.slices_SortFunc Go.Proofs.YtlimpepdelpogaaGreatDoor.sortS 3 Tryz.isAgg27 Tryz.sizeOf27 enc3 (fun _ => rfl) (fun x v hv => by simp [enc3] at hv; rcases hv with rfl | rfl | rfl <;> rfl) cmp3 swo3 28 #[] blk off cap xs.toArray w eg (fun _ _ _ _ x y => closureS x y _) hH hb (by simpa using hsz)
  change Calls Tryz.prog 47 _ _ _ at hcon
  refine hcon.mono ?_
  rintro e w' ⟨he, d', n, os, h1, h2, rfl⟩
  obtain rfl := sorted_is h1 h2 (by simpa using hp) hst
  have hlen : l.length = xs.length := hp.length_eq.symm
  have hH2 := holdsK_sortWorldK enc3 3 w blk off n xs.toArray l.toArray os hb hH (by simpa using hlen)
  exact ⟨he, row_holds hH2 rfl (by rw [hlen]; exact h.2.2.1) h.2.2.2.1 (lt_sortWorldK enc3 3 w blk off n l.toArray os hb), chg_sort w blk off n l.toArray os⟩
theorem sortS_none (A : Option Addr) (cap : Nat) (w : World) :
    Calls Tryz.prog 47 #[.slice A 0 cap, .func (.func 28) #[] #[]] w fun e w' => e = .returned (.tuple #[]) ∧ w' = w := by
  have hcon := Go.Proofs.AnyF.slices_SortFunc_none Go.Proofs.YtlimpepdelpogaaGreatDoor.sortS A cap (.func (.func 28) #[] #[]) w
  change Calls Tryz.prog 47 _ _ _ at hcon
  exact hcon
end Go.Proofs.YtlimpepdelpogaaGreatDoor
/-! TdC -/
namespace Go.Proofs.YtlimpepdelpogaaGreatDoor
open Go.RowKit Go.Al Go.Maps
set_option linter.unusedVariables false
/-- what has come, when 'left' tells what is still to come -/
def Come (l : List P3) (left : Lit → Bool) (ps : List P3) : Prop :=
  (∀ p ∈ ps, p ∈ l ∧ left (.int .i64 p.1) = false) ∧ ps.Pairwise (fun p q => ¬ p.1 = q.1) ∧ ∀ p ∈ l, left (.int .i64 p.1) = false → p ∈ ps
theorem come_start (l : List P3) : Come l (Maps.has (mapD l)) [] := by
  refine ⟨fun p h => by simp at h, List.Pairwise.nil, fun p hp h => ?_⟩
  rw [mapD_has] at h
  exact absurd (hasK_iff.2 ⟨p, hp, rfl⟩) (by simp [h])
theorem uniq_key {l : List P3} (hs : Srt l) {p q : P3} (hp : p ∈ l) (hq : q ∈ l) (h : p.1 = q.1) : p = q := by
  obtain ⟨i, hi, rfl⟩ := List.mem_iff_getElem.1 hp
  obtain ⟨j, hj, rfl⟩ := List.mem_iff_getElem.1 hq
  have h2 := List.pairwise_iff_getElem.1 hs
  rcases Nat.lt_trichotomy i j with e | e | e
  · have := h2 i j hi hj e; omega
  · subst e; rfl
  · have := h2 j i hj hi e; omega
theorem come_step {l : List P3} (hs : Srt l) {left : Lit → Bool} {ps : List P3} {p : P3} (h : Come l left ps) (hp : p ∈ l) (hl : left (.int .i64 p.1) = true) :
    Come l (fun z => left z && !z.sameKey (.int .i64 p.1)) (ps ++ [p]) := by
  obtain ⟨h1, h2, h3⟩ := h
  refine ⟨fun q hq => ?_, ?_, fun q hq hz => ?_⟩
  · rcases List.mem_append.1 hq with hq | hq
    · exact ⟨(h1 q hq).1, by simp [(h1 q hq).2]⟩
    · obtain rfl : q = p := by simpa using hq
      exact ⟨hp, by simp [same_int]⟩
  · refine List.pairwise_append.2 ⟨h2, by simp, fun a ha b hb e => ?_⟩
    obtain rfl : b = p := by simpa using hb
    have := (h1 a ha).2
    rw [e, hl] at this
    cases this
  · have hz : (left (.int .i64 q.1) && !(Lit.int .i64 q.1).sameKey (.int .i64 p.1)) = false := hz
    rw [same_int] at hz
    by_cases e : q.1 = p.1
    · rw [uniq_key hs hq hp e]; simp
    · have : left (.int .i64 q.1) = false := by simpa [e] using hz
      exact List.mem_append.2 (.inl (h3 q hq this))
theorem come_end {l : List P3} (hs : Srt l) {left : Lit → Bool} {ps : List P3} (h : Come l left ps) (hl : ∀ z, left z = false) : ps.Perm l := by
  obtain ⟨h1, h2, h3⟩ := h
  have n1 : ps.Nodup := h2.imp fun h e => h (by rw [e])
  have n2 : l.Nodup := (show l.Pairwise fun p q => p.1 < q.1 from hs).imp fun h e => by rw [e] at h; omega
  exact (List.perm_ext_iff_of_nodup n1 n2).2 fun p => ⟨fun hp => (h1 p hp).1, fun hp => h3 p hp (hl _)⟩
theorem key_int {k : TypeId} (hk : Tryz.prog.underlying k = some (.int .i64)) {key : Value} {kl : Lit} (h : keyOf Tryz.prog k key = some kl) : ∃ a, key = .int .i64 a ∧ kl = .int .i64 a := by
  cases key <;> simp [keyOf, hk, mapKey] at h
  obtain ⟨⟨rfl, _⟩, rfl⟩ := h
  exact ⟨_, rfl, rfl⟩
def val3 (p : P3) : Value := .agg #[.int .i64 p.1, .int .i64 p.2.1, .int .i64 p.2.2]
theorem r3_shape {v : Value} {y : DataW Unit × List MemPlace} (h : r3 v = some y) : ∃ p, v = val3 p := by
  unfold r3 at h
  split at h
  · split at h
    · rename_i cs _ a b c hc
      refine ⟨(a, b, c), ?_⟩
      have : cs = #[.int .i64 a, .int .i64 b, .int .i64 c] := by rw [← Array.toArray_toList (xs := cs), hc]
      rw [this]
      rfl
    · cases h
  · cases h
theorem at_mem {l : List P3} {x : Int} {c : P3} (h : ∀ zd, (mapD l).atKey (.int .i64 x) zd = dat3 c) : c ∈ l ∧ c.1 = x := by
  have h1 := h (dat3 (c.1 + 1, c.2))
  rw [mapD_at] at h1
  have h2 := dat3_inj h1
  cases hf : find3 l x with
  | none =>
    rw [hf] at h2
    have := congrArg Prod.fst h2
    simp at this
    omega
  | some d =>
    rw [hf] at h2
    have h2 : d = c := h2
    subst h2
    exact ⟨List.mem_of_find?_eq_some hf, by have := List.find?_some hf; simpa using this⟩
end Go.Proofs.YtlimpepdelpogaaGreatDoor
