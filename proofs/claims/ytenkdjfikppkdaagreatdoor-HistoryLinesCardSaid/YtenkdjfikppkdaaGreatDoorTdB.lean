/-
  slices.SortFunc over triples by their first number: what it leaves. Condition: fewer than 2^60 elements.
-/
import Derived.Test.YtenkdjfikppkdaaGreatDoorTdA
namespace Go.Proofs.YtenkdjfikppkdaaGreatDoor
open Go.RowKit Go.Al Go.Sort
set_option linter.unusedVariables false

/-- a triple's cells -/
def enc3 (x : P3) : List Value := [.int .i64 x.1, .int .i64 x.2.1, .int .i64 x.2.2]
def cmp3 (x y : P3) : Int := Go.Lib.compareInt x.1 y.1
theorem lt3 (x y : P3) : Go.Proofs.ltOf cmp3 x y = decide (x.1 < y.1) := by
  unfold Go.Proofs.ltOf cmp3 Go.Lib.compareInt
  by_cases h1 : x.1 < y.1
  · simp [h1]
  · by_cases h2 : y.1 < x.1 <;> simp [h1, h2]
theorem swo3 : SWO (Go.Proofs.ltOf cmp3) where
  irrefl x := by rw [lt3]; simp
  trans x y z h1 h2 := by rw [lt3] at *; simp at *; omega
  ntrans x y z h1 h2 := by rw [lt3] at *; simp at *; omega

set_option maxHeartbeats 1000000 in
theorem closureP (x y : P3) (W : World) : Calls Tryz.prog 36 #[.agg #[.int .i64 x.1, .int .i64 x.2.1, .int .i64 x.2.2], .agg #[.int .i64 y.1, .int .i64 y.2.1, .int .i64 y.2.2]] W fun e w' => e = .returned (.int .i64 (cmp3 x y)) ∧ ∃ q os', w' = grow (W.drewN q) os' := by
  have hcon := fun W' => Go.Proofs.AnyG.cmp_Compare_int cmpInt x.1 y.1 W'
  change ∀ W', Calls Tryz.prog 37 _ _ _ at hcon
  unfold cmp3
  generalize Go.Lib.compareInt x.1 y.1 = r at hcon ⊢
  go_enter Tryz.func36, Tryz.ntmps36
  go_wp2_with (go_at_call 37; refine (hcon _).mono ?_; rintro e w' ⟨rfl, rfl⟩)
  go_ret
  exact ⟨rfl, 0, _, by rw [alloc_eq_grow, alloc_eq_grow, grow_grow]; rfl⟩
set_option maxHeartbeats 1000000 in
theorem closureS (x y : P3) (W : World) : Calls Tryz.prog 40 #[.agg #[.int .i64 x.1, .int .i64 x.2.1, .int .i64 x.2.2], .agg #[.int .i64 y.1, .int .i64 y.2.1, .int .i64 y.2.2]] W fun e w' => e = .returned (.int .i64 (cmp3 x y)) ∧ ∃ q os', w' = grow (W.drewN q) os' := by
  have hcon := fun W' => Go.Proofs.AnyG.cmp_Compare_int cmpInt x.1 y.1 W'
  change ∀ W', Calls Tryz.prog 37 _ _ _ at hcon
  unfold cmp3
  generalize Go.Lib.compareInt x.1 y.1 = r at hcon ⊢
  go_enter Tryz.func40, Tryz.ntmps40
  go_wp2_with (go_at_call 37; refine (hcon _).mono ?_; rintro e w' ⟨rfl, rfl⟩)
  go_ret
  exact ⟨rfl, 0, _, by rw [alloc_eq_grow, alloc_eq_grow, grow_grow]; rfl⟩

/-! rows as the sort holds them -/
theorem get_enc3 (x : P3) : (enc3 x)[0]! = .int .i64 x.1 ∧ (enc3 x)[1]! = .int .i64 x.2.1 ∧ (enc3 x)[2]! = .int .i64 x.2.2 := ⟨rfl, rfl, rfl⟩
theorem holds_row {w : World} {blk off cap n : Nat} {l : List P3} (h : Row3 w (some ⟨blk, off, none⟩) n cap l) (hf : ∀ i, w.frozen? ⟨blk, i, none⟩ = false) : HoldsK enc3 3 w blk off l.toArray := by
  intro t ht
  rw [size_flatK] at ht
  simp at ht
  refine ⟨?_, hf _⟩
  rw [get_flatK _ _ _ _ (by simpa using ht)]
  have hi : t / 3 < l.length := by omega
  obtain ⟨b, o, e, _, c0, c1, c2⟩ := h.at_ hi
  obtain ⟨rfl, rfl⟩ : blk = b ∧ off = o := by injection e with e; injection e with e1 e2; exact ⟨e1, e2⟩
  have eg : (l.toArray)[t / 3]! = l[t / 3] := by simp [hi]
  rw [eg]
  have h3 : t % 3 = 0 ∨ t % 3 = 1 ∨ t % 3 = 2 := by omega
  have hm := Nat.div_add_mod t 3
  rcases h3 with h3 | h3 | h3
  · rw [h3, (get_enc3 _).1, show off + t = off + t / 3 * 3 by omega]; exact c0
  · rw [h3, (get_enc3 _).2.1, show off + t = off + t / 3 * 3 + 1 by omega]; exact c1
  · rw [h3, (get_enc3 _).2.2, show off + t = off + t / 3 * 3 + 2 by omega]; exact c2
theorem row_holds {w : World} {blk off cap n : Nat} {l : List P3} (h : HoldsK enc3 3 w blk off l.toArray) (hl : l.length = n) (hc : n ≤ cap) (hm : cap ≤ maxLen) (hb : blk < w.heap.size) : Row3 w (some ⟨blk, off, none⟩) n cap l := by
  refine ⟨fun _ => ⟨blk, off, rfl, fun i x hx => ?_⟩, hl, hc, hm, fun b hb' => by simp [blkOf] at hb'; omega⟩
  have hi : i < l.length * 3 := by rw [← is3_len]; exact (List.getElem?_eq_some_iff.1 hx).1
  have hj : i / 3 < l.length := by omega
  obtain ⟨g0, g1, g2⟩ := is3_get hj
  have c := fun k (hk : k < 3) => (HoldsK.cell h (i := i / 3) (c := k) (by simpa using hj) hk).1
  have eg : (l.toArray)[i / 3]! = l[i / 3] := by simp [hj]
  simp only [eg] at c
  have h3 : i % 3 = 0 ∨ i % 3 = 1 ∨ i % 3 = 2 := by omega
  have hm := Nat.div_add_mod i 3
  rcases h3 with h3 | h3 | h3
  · rw [show i = i / 3 * 3 by omega] at hx ⊢; rw [g0] at hx; obtain rfl := Option.some.inj hx; have := c 0 (by decide); rw [(get_enc3 _).1] at this; exact this
  · rw [show i = i / 3 * 3 + 1 by omega] at hx ⊢; rw [g1] at hx; obtain rfl := Option.some.inj hx; have := c 1 (by decide); rw [(get_enc3 _).2.1] at this; rw [← Nat.add_assoc]; exact this
  · rw [show i = i / 3 * 3 + 2 by omega] at hx ⊢; rw [g2] at hx; obtain rfl := Option.some.inj hx; have := c 2 (by decide); rw [(get_enc3 _).2.2] at this; rw [← Nat.add_assoc]; exact this

theorem ty_onCells {w : World} {k : Nat} {f : Array Value → Array Value} {blk : Nat} : Go.Al.ty (mapBlock w blk f) k = Go.Al.ty w k := by
  unfold Go.Al.ty World.shape? mapBlock
  simp only [Array.getElem?_modify]
  by_cases hk : blk = k
  · simp only [hk, if_true]
    cases w.heap[k]? with
    | none => rfl
    | some o => cases o <;> rfl
  · simp [hk]
theorem chg_sort (w : World) (blk off n : Nat) (d : Array P3) (os : Array Obj) : Chg (fun k => k = blk) w (sortWorldK enc3 3 w blk off n d os) := by
  unfold sortWorldK putRowK putRow
  refine ⟨rfl, rfl, rfl, by simp [grow, mapBlock, Sort.ahead], fun k hk => ?_, fun k hk hn => ?_⟩
  · have h1 : (grow (mapBlock (Sort.ahead w n) blk (putCells id off (flatK enc3 3 d))) os).heap[k]? = (mapBlock (Sort.ahead w n) blk (putCells id off (flatK enc3 3 d))).heap[k]? := heap_grow_old _ os (by simpa [mapBlock, Sort.ahead] using hk)
    have h2 : Go.Al.ty (grow (mapBlock (Sort.ahead w n) blk (putCells id off (flatK enc3 3 d))) os) k = Go.Al.ty (mapBlock (Sort.ahead w n) blk (putCells id off (flatK enc3 3 d))) k := by
      unfold Go.Al.ty World.shape?
      rw [h1]
    rw [h2, ty_onCells]
    rfl
  · rw [heap_grow_old _ os (by simpa [mapBlock, Sort.ahead] using hk)]
    simp [mapBlock, Sort.ahead, Array.getElem?_modify, show ¬ blk = k from fun e => hn e.symm]

/-- one list alone is sorted -/
theorem sorted_is {l : List P3} {d d' : Array P3} (hp : PermIn 0 d.size d d') (hs : SortedIn (Go.Proofs.ltOf cmp3) 0 d.size d') (hl : d.toList.Perm l) (hst : Srt l) : d' = l.toArray := by
  obtain ⟨h1, _, h3⟩ := hp
  have e1 : d'.extract 0 d.size = d' := by rw [← h1]; simp
  have e2 : d.extract 0 d.size = d := by simp
  rw [e1, e2] at h3
  have hperm : d'.toList.Perm l := h3.trans hl
  have hne : d'.toList.Pairwise fun p q => ¬ p.1 = q.1 := by
    have : l.Pairwise fun p q => ¬ p.1 = q.1 := hst.imp fun h => by omega
    exact (hperm.pairwise_iff (fun {_ _} h e => h e.symm)).2 this
  have hsrt : Srt d'.toList := by
    refine List.pairwise_iff_getElem.2 fun i j hi hj hij => ?_
    have h4 := hs i j (Nat.zero_le _) hij (by rw [← h1]; simpa using hj)
    have h5 := List.pairwise_iff_getElem.1 hne i j hi hj hij
    rw [lt3] at h4
    have hi' : i < d'.size := by simpa using hi
    have hj' : j < d'.size := by simpa using hj
    rw [getElem!_pos d' i hi', getElem!_pos d' j hj'] at h4
    simp at h4 h5 ⊢
    omega
  have := List.Perm.eq_of_pairwise (le := fun p q : P3 => p.1 < q.1) (fun a b _ _ h1 h2 => by have : a.1 < b.1 := h1; have : b.1 < a.1 := h2; omega) hsrt hst hperm
  rw [← this]

theorem sortP_any {w : World} {blk off cap : Nat} {xs l : List P3} (h : Row3 w (some ⟨blk, off, none⟩) xs.length cap xs) (hf : ∀ i, w.frozen? ⟨blk, i, none⟩ = false) (hp : xs.Perm l) (hst : Srt l) (hsz : xs.length < 4611686018427387904) :
    Calls Tryz.prog 69 #[.slice (some ⟨blk, off, none⟩) xs.length cap, .func (.func 36) #[] #[]] w fun e w' => e = .returned (.tuple #[]) ∧ Row3 w' (some ⟨blk, off, none⟩) l.length cap l ∧ Chg (fun k => k = blk) w w' := by
  have eg : ∀ args w, (callFunc 36 args).run Tryz.prog w = .ok (.enter 36 args) w := enters_of Tryz.func36 (by kernel_rfl) rfl
  have hb := h.2.2.2.2 blk rfl
  have hH := holds_row h hf
  have hcon := Go.Proofs.AnyQ.slices_SortFunc Go.Proofs.YtenkdjfikppkdaaGreatDoor.sortP 3 Tryz.isAgg26 Tryz.sizeOf26 enc3 (fun _ => rfl) (fun x v hv => by simp [enc3] at hv; rcases hv with rfl | rfl | rfl <;> rfl) cmp3 swo3 36 #[] blk off cap xs.toArray w eg (fun _ _ _ _ x y => closureP x y _) hH hb (by simpa using hsz)
  change Calls Tryz.prog 69 _ _ _ at hcon
  refine hcon.mono ?_
  rintro e w' ⟨he, d', n, os, h1, h2, rfl⟩
  obtain rfl := sorted_is h1 h2 (by simpa using hp) hst
  have hlen : l.length = xs.length := hp.length_eq.symm
  have hH2 := holdsK_sortWorldK enc3 3 w blk off n xs.toArray l.toArray os hb hH (by simpa using hlen)
  exact ⟨he, row_holds hH2 rfl (by rw [hlen]; exact h.2.2.1) h.2.2.2.1 (lt_sortWorldK enc3 3 w blk off n l.toArray os hb), chg_sort w blk off n l.toArray os⟩
theorem sortP_none (A : Option Addr) (cap : Nat) (w : World) :
    Calls Tryz.prog 69 #[.slice A 0 cap, .func (.func 36) #[] #[]] w fun e w' => e = .returned (.tuple #[]) ∧ w' = w := by
  have hcon := Go.Proofs.AnyF.slices_SortFunc_none Go.Proofs.YtenkdjfikppkdaaGreatDoor.sortP A cap (.func (.func 36) #[] #[]) w
  change Calls Tryz.prog 69 _ _ _ at hcon
  exact hcon

theorem sortS_any {w : World} {blk off cap : Nat} {xs l : List P3} (h : Row3 w (some ⟨blk, off, none⟩) xs.length cap xs) (hf : ∀ i, w.frozen? ⟨blk, i, none⟩ = false) (hp : xs.Perm l) (hst : Srt l) (hsz : xs.length < 4611686018427387904) :
    Calls Tryz.prog 73 #[.slice (some ⟨blk, off, none⟩) xs.length cap, .func (.func 40) #[] #[]] w fun e w' => e = .returned (.tuple #[]) ∧ Row3 w' (some ⟨blk, off, none⟩) l.length cap l ∧ Chg (fun k => k = blk) w w' := by
  have eg : ∀ args w, (callFunc 40 args).run Tryz.prog w = .ok (.enter 40 args) w := enters_of Tryz.func40 (by kernel_rfl) rfl
  have hb := h.2.2.2.2 blk rfl
  have hH := holds_row h hf
  have hcon := Go.Proofs.AnyQ.slices_SortFunc Go.Proofs.YtenkdjfikppkdaaGreatDoor.sortS 3 Tryz.isAgg28 Tryz.sizeOf28 enc3 (fun _ => rfl) (fun x v hv => by simp [enc3] at hv; rcases hv with rfl | rfl | rfl <;> rfl) cmp3 swo3 40 #[] blk off cap xs.toArray w eg (fun _ _ _ _ x y => closureS x y _) hH hb (by simpa using hsz)
  change Calls Tryz.prog 73 _ _ _ at hcon
  refine hcon.mono ?_
  rintro e w' ⟨he, d', n, os, h1, h2, rfl⟩
  obtain rfl := sorted_is h1 h2 (by simpa using hp) hst
  have hlen : l.length = xs.length := hp.length_eq.symm
  have hH2 := holdsK_sortWorldK enc3 3 w blk off n xs.toArray l.toArray os hb hH (by simpa using hlen)
  exact ⟨he, row_holds hH2 rfl (by rw [hlen]; exact h.2.2.1) h.2.2.2.1 (lt_sortWorldK enc3 3 w blk off n l.toArray os hb), chg_sort w blk off n l.toArray os⟩
theorem sortS_none (A : Option Addr) (cap : Nat) (w : World) :
    Calls Tryz.prog 73 #[.slice A 0 cap, .func (.func 40) #[] #[]] w fun e w' => e = .returned (.tuple #[]) ∧ w' = w := by
  have hcon := Go.Proofs.AnyF.slices_SortFunc_none Go.Proofs.YtenkdjfikppkdaaGreatDoor.sortS A cap (.func (.func 40) #[] #[]) w
  change Calls Tryz.prog 73 _ _ _ at hcon
  exact hcon
end Go.Proofs.YtenkdjfikppkdaaGreatDoor
