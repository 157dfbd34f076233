/-
  Plain law: an order that a search finds fits; what points and intervals it leaves; the document's search turn by turn. Nothing of the program is walked here. No conditions.
  Plain law: what a search finds does not hang on where the replies' lists lie; operations cut twice are those cut once. Nothing of the program is walked here. No conditions.
  The code's Fits at an order each of whose operations may be the next one, and tells what it was told: true. Condition: at most seven operations.
  'append([]T{}, xs...)': append onto a slice of length and capacity 0, wherever that points: what comes of it reads as xs, and nothing that was there has changed. No conditions: nothing of the program is named here.
  The document's set: Clone. Condition: at most 65535 of each.
  The document's own Plain, whole. Conditions: at most 1048576 of each, each list rising by its ids.
  The document's own server.Does: what a good request tells, and leaves. Condition: at most 65535 of each.
  The document's own Tells: does an operation, done to a set, tell what it was told? Condition: at most 65535 of each.
  The document's own Search, turn by turn. Condition: at most seven operations.
  The document's own Search, whole: it is the search of the plain words. Condition: at most seven operations.
  LinearSearch's walk: what the code's search finds is what the document's search finds, and fits. No conditions.
  LinearSearch answers true for every input, and leaves what was there as it was. No conditions.
-/
import Derived.Test.YtenkdjfikppkdaaGreatLnF
import Derived.Test.YtenkdjfikppkdaaGreatLnK

import Derived.Test.YtenkdjfikppkdaaGreatLib
import Derived.Test.YtenkdjfikppkdaaGreatTcC
import Derived.Test.YtenkdjfikppkdaaGreatMx
import Derived.Test.YtenkdjfikppkdaaGreatRfDa
import Derived.Test.YtenkdjfikppkdaaGreatRfDb
import Derived.Test.YtenkdjfikppkdaaGreatRfDc
import Derived.Test.YtenkdjfikppkdaaGreatRfB
import Derived.Test.YtenkdjfikppkdaaGreatTcE
import Derived.Test.YtenkdjfikppkdaaGreatLnA
import Derived.Test.YtenkdjfikppkdaaGreatRfE
import Derived.Test.YtenkdjfikppkdaaGreatIn

import Derived.Test.YtenkdjfikppkdaaGreatRows
import Derived.WalkKit
import Derived.ProofKit
import Derived.OpenShut
import Derived.ShutString
import Derived.ChangeOld
import Derived.Below
/-! RfP -/
namespace Go.Proofs.YtenkdjfikppkdaaGreat
open Go.RowKit Go.Al
set_option linter.unusedVariables false

/-- points and intervals behind some operations, done in order -/
def stW (l : List Dd) (most : Int) (done : List Int) : List P3 × List P3 :=
  done.foldl (fun ps i => match l[i.toNat]? with
    | some d => (doesP d.r ps.1 ps.2 most, doesS d.r ps.1 ps.2 most)
    | none => ps) ([], [])
theorem stW_snoc {l : List Dd} {most : Int} {done : List Int} {k : Nat} (hk : k < l.length) : stW l most (done ++ [(k : Int)]) = (doesP l[k].r (stW l most done).1 (stW l most done).2 most, doesS l[k].r (stW l most done).1 (stW l most done).2 most) := by
  unfold stW
  rw [List.foldl_append]
  simp only [List.foldl_cons, List.foldl_nil, Int.toNat_natCast, List.getElem?_eq_getElem hk]
/-- each one may be the next one, and tells what it was told -/
structure Pre (l : List Dd) (most : Int) (done : List Int) : Prop where
  ok : ∀ k (h : k < done.length), ∃ i : Nat, ∃ hi : i < l.length, done[k] = (i : Int) ∧ freeB l (done.take k) i = true ∧ tellsB (stW l most (done.take k)).1 (stW l most (done.take k)).2 most l[i] = true
theorem Pre.nil (l : List Dd) (most : Int) : Pre l most [] := ⟨fun k h => absurd h (Nat.not_lt_zero _)⟩
theorem Pre.snoc {l : List Dd} {most : Int} {done : List Int} (h : Pre l most done) {i : Nat} (hi : i < l.length) (hf : freeB l done i = true) (ht : tellsB (stW l most done).1 (stW l most done).2 most l[i] = true) : Pre l most (done ++ [(i : Int)]) :=
  ⟨fun k hk => by
    by_cases hlt : k < done.length
    · obtain ⟨j, hj, e, h1, h2⟩ := h.ok k hlt
      refine ⟨j, hj, ?_, ?_, ?_⟩
      · rw [List.getElem_append_left hlt]; exact e
      · rw [List.take_append_of_le_length (by omega)]; exact h1
      · rw [List.take_append_of_le_length (by omega)]; exact h2
    · have hke : k = done.length := by simp at hk; omega
      subst hke
      refine ⟨i, hi, by simp, ?_, ?_⟩
      · rw [List.take_append_of_le_length (by omega), List.take_length]; exact hf
      · rw [List.take_append_of_le_length (by omega), List.take_length]; exact ht⟩
theorem find_filter {α : Type} (xs : List Nat) (f : Nat → Bool) (c : Nat → Int) (g : Int → Option α) : ((xs.filter f).map c).findSome? g = xs.findSome? fun k => if f k then g (c k) else none := by
  induction xs with
  | nil => rfl
  | cons x r ih =>
    rw [List.filter_cons]
    cases h : f x
    · simp only [Bool.false_eq_true, if_false, ih, List.findSome?_cons, h]
    · simp only [if_true, List.map_cons, List.findSome?_cons, h, ih]
theorem srch_fits {l : List Dd} {most : Int} {r : List Int} : ∀ (f : Nat) (done : List Int), Pre l most done → Done l.length done → srch l most f (stW l most done).1 (stW l most done).2 done = some r → Pre l most r ∧ Done l.length r ∧ explainsB l r = true := by
  intro f
  induction f with
  | zero =>
    intro done hp hd h
    simp only [srch] at h
    split at h
    · cases h; exact ⟨hp, hd, by assumption⟩
    · cases h
  | succ f ih =>
    intro done hp hd h
    cases hx : explainsB l done with
    | true => rw [srch_done hx] at h; cases h; exact ⟨hp, hd, hx⟩
    | false =>
      rw [srch_succ hx] at h
      obtain ⟨i, hi, hs⟩ := List.exists_of_findSome?_eq_some h
      obtain ⟨k, hk, rfl, hf⟩ := mem_allL.1 hi
      unfold stepS at hs
      rw [Int.toNat_natCast, List.getElem?_eq_getElem hk] at hs
      simp only at hs
      split at hs
      · rename_i ht
        have hst := stW_snoc (most := most) (done := done) hk
        refine ih (done ++ [(k : Int)]) (hp.snoc hk hf ht) (hd.snoc (by omega) (by omega) (free_new hf)) ?_
        rw [hst]
        exact hs
      · cases hs
theorem found_fits {l : List Dd} {most : Int} {r : List Int} (h : srch l most l.length [] [] [] = some r) : Pre l most r ∧ Done l.length r ∧ explainsB l r = true :=
  srch_fits l.length [] (Pre.nil l most) ⟨List.nodup_nil, fun x hx => by cases hx⟩ h
/-- one turn of the document's search: what the operation i finds -/
def stepQ (l : List Dd) (most : Int) (p s : List P3) (done : List Int) (g : Int → Option (List Int)) (i : Nat) : Option (List Int) :=
  if freeB l done i then g (i : Int) else none
theorem srch_turn {l : List Dd} {most : Int} {done : List Int} (g : Int → Option (List Int)) (p s : List P3) : (allL l done).findSome? g = (List.range l.length).findSome? (stepQ l most p s done g) := by
  unfold allL
  exact find_filter _ _ _ _
theorem range_some {n i : Nat} {g : Nat → Option (List Int)} {r : List Int} (hi : i < n) (hn : ∀ k, k < i → g k = none) (h : g i = some r) : (List.range n).findSome? g = some r := by
  have e : List.range n = List.range i ++ (i :: (List.range' (i + 1) (n - (i + 1)))) := by
    have h1 : n = i + (1 + (n - (i + 1))) := by omega
    conv => lhs; rw [h1, List.range_eq_range', ← List.range'_append_1]
    rw [List.range_eq_range', Nat.zero_add, Nat.add_comm 1 (n - (i + 1)), List.range'_succ]
  rw [e, List.findSome?_append, List.findSome?_eq_none_iff.2 (fun x hx => hn x (List.mem_range.1 hx)), List.findSome?_cons, h]
  rfl
theorem range_none {n : Nat} {g : Nat → Option (List Int)} (hn : ∀ k, k < n → g k = none) : (List.range n).findSome? g = none :=
  List.findSome?_eq_none_iff.2 fun x hx => hn x (List.mem_range.1 hx)
/-- an operation adds one entry at most, and keeps lists rising -/
theorem len_put (q : P3) (l : List P3) : (put3 q l).length ≤ l.length + 1 := by
  have h1 : (put3 q l).length = (del3 q.1 l).length + 1 := by
    unfold put3
    induction del3 q.1 l with
    | nil => rfl
    | cons x r ih =>
      unfold ins3
      split
      · rfl
      · simp only [List.length_cons, ih]
  have h2 : (del3 q.1 l).length ≤ l.length := List.length_filter_le _ _
  omega
theorem does_len (r : Rq) (p s : List P3) (most : Int) : (doesP r p s most).length ≤ p.length + 1 ∧ (doesS r p s most).length ≤ s.length + 1 := by
  unfold doesP doesS
  cases goodR r && decide (r.k = 1)
  · exact ⟨Nat.le_succ _, Nat.le_succ _⟩
  · rw [if_pos rfl, if_pos rfl]
    unfold doP' doS'
    by_cases hm : mayE p s most r.c = 0
    · rw [if_pos hm, if_pos hm]
      obtain ⟨hk, _⟩ := may_zero hm
      obtain ⟨rk, ⟨k, q, x⟩, rq⟩ := r
      simp only at hk
      rcases hk with rfl | rfl | rfl | rfl
      · exact ⟨len_put _ _, Nat.le_succ _⟩
      · exact ⟨Nat.le_succ_of_le (List.length_filter_le _ _), Nat.le_succ _⟩
      · exact ⟨Nat.le_succ _, len_put _ _⟩
      · exact ⟨Nat.le_succ _, Nat.le_succ_of_le (List.length_filter_le _ _)⟩
    · rw [if_neg hm, if_neg hm]
      exact ⟨Nat.le_succ _, Nat.le_succ _⟩
theorem does_srt (r : Rq) {p s : List P3} (most : Int) (sp : Srt p) (ss : Srt s) : Srt (doesP r p s most) ∧ Srt (doesS r p s most) := by
  unfold doesP doesS
  cases goodR r && decide (r.k = 1)
  · exact ⟨sp, ss⟩
  · rw [if_pos rfl, if_pos rfl]
    unfold doP' doS'
    by_cases hm : mayE p s most r.c = 0
    · rw [if_pos hm, if_pos hm]
      obtain ⟨hk, _⟩ := may_zero hm
      obtain ⟨rk, ⟨k, q, x⟩, rq⟩ := r
      simp only at hk
      rcases hk with rfl | rfl | rfl | rfl
      · exact ⟨sp.put _, ss⟩
      · exact ⟨sp.del _, ss⟩
      · exact ⟨sp, ss.put _⟩
      · exact ⟨sp, ss.del _⟩
    · rw [if_neg hm, if_neg hm]
      exact ⟨sp, ss⟩
end Go.Proofs.YtenkdjfikppkdaaGreat
/-! RfQ -/
namespace Go.Proofs.YtenkdjfikppkdaaGreat
open Go.RowKit Go.Al
set_option linter.unusedVariables false

theorem holds_strip (l : List Dd) (done : List Int) (i : Nat) (x : Dd) (k : Nat) : holdsB (l.map strip) done i (strip x) k = holdsB l done i x k := by
  unfold holdsB
  rw [List.getElem?_map, Option.any_map]
  rfl
theorem free_strip (l : List Dd) (done : List Int) (i : Nat) : freeB (l.map strip) done i = freeB l done i := by
  unfold freeB
  rw [List.getElem?_map, Option.any_map, List.length_map]
  congr 1
  funext x
  simp only [holds_strip]
  rfl
theorem explains_strip (l : List Dd) (done : List Int) : explainsB (l.map strip) done = explainsB l done := by
  unfold explainsB leftB
  rw [List.length_map]
  congr 1
  funext k
  rw [List.getElem?_map, Option.any_map]
  rfl
theorem srch_strip (l : List Dd) (most : Int) : ∀ (f : Nat) (p s : List P3) (done : List Int), srch (l.map strip) most f p s done = srch l most f p s done := by
  intro f
  induction f with
  | zero => intro p s done; simp only [srch, explains_strip]
  | succ f ih =>
    intro p s done
    simp only [srch, explains_strip]
    have ha : allL (l.map strip) done = allL l done := by
      unfold allL
      rw [List.length_map]
      congr 2
      funext k
      exact free_strip l done k
    rw [ha]
    congr 2
    funext i
    rw [List.getElem?_map]
    cases l[i.toNat]? with
    | none => rfl
    | some d =>
      simp only [Option.map_some, ih]
      rfl
theorem found_strip {l m : List Dd} (h : l.map strip = m.map strip) (most : Int) : found l most = found m most := by
  have hl : l.length = m.length := by have := congrArg List.length h; simpa using this
  unfold found
  rw [← srch_strip l, h, srch_strip m, hl]
theorem cut_cut (d : Dd) : cutD (cutD d) = cutD d := by
  unfold cutD
  simp [List.take_take]
theorem cut_strip (d : Dd) : cutD (strip d) = cutD d := rfl
theorem few_twice {l l' m : List Dd} {k : Nat} (h1 : l.map strip = m.map cutD) (h2 : l'.map strip = (l.take k).map cutD) (hk : l.length ≤ k) : l'.map strip = l.map strip := by
  have h3 : l.map cutD = (l.map strip).map cutD := by rw [List.map_map]; rfl
  rw [h2, List.take_of_length_le hk, h3, h1, List.map_map]
  congr 1
  funext d
  exact cut_cut d
theorem fits_strip {l m : List Dd} {most : Int} {r : List Int} (h : l.map strip = m.map strip) (hp : Pre l most r) : Pre m most r := by
  have hl : l.length = m.length := by have := congrArg List.length h; simpa using this
  have hst : ∀ done, stW l most done = stW m most done := fun done => by
    have e : ∀ l : List Dd, stW l most done = stW (l.map strip) most done := fun l => by
      unfold stW
      congr 1
      funext ps i
      rw [List.getElem?_map]
      cases l[i.toNat]? <;> rfl
    rw [e l, h, ← e m]
  refine ⟨fun k hk => ?_⟩
  obtain ⟨i, hi, he, hf, ht⟩ := hp.ok k hk
  have hi' : i < m.length := by omega
  refine ⟨i, hi', he, by rw [← free_strip, ← h, free_strip]; exact hf, ?_⟩
  have e2 : strip l[i] = strip m[i] := by
    have a1 : (l.map strip)[i]? = some (strip l[i]) := by simp [hi]
    have a2 : (m.map strip)[i]? = some (strip m[i]) := by simp [hi']
    rw [h, a2] at a1
    exact (Option.some.inj a1).symm
  have e3 : ∀ (p s : List P3) (d : Dd), tellsB p s most d = tellsB p s most (strip d) := fun p s d => rfl
  rw [e3, ← hst, ← e2, ← e3]
  exact ht
end Go.Proofs.YtenkdjfikppkdaaGreat
/-! LnM -/
namespace Go.Proofs.YtenkdjfikppkdaaGreat
open Go.RowKit Go.Al
set_option linter.unusedVariables false

theorem stW_take {l : List Dd} {most : Int} {r : List Int} {k i : Nat} (hk : k < r.length) (hi : i < l.length) (he : r[k] = (i : Int)) :
    stW l most (r.take (k + 1)) = (doesP l[i].r (stW l most (r.take k)).1 (stW l most (r.take k)).2 most, doesS l[i].r (stW l most (r.take k)).1 (stW l most (r.take k)).2 most) := by
  rw [List.take_succ_eq_append_getElem hk, he, stW_snoc hi]
/-- how far a loop over an order has come -/
structure FitAt (w w1 wr : World) (g pm sm : Nat) (l : List Dd) (most : Int) (r : List Int) (k : Nat) : Prop where
  tab : Tab wr g pm sm most (stW l most (r.take k)).1 (stW l most (r.take k)).2
  same : Same w wr
  chg : Chg (fun b => b = pm ∨ b = sm) w1 wr
set_option maxRecDepth 100000 in
set_option maxHeartbeats 8000000 in
theorem fits_any {A B : Option Addr} {c c2 : Nat} {l : List Dd} {most : Int} {r : List Int} (w : World) (h1 : 1 ≤ most) (h2 : most ≤ 1048576) (h : Dds w A l) (hl : l.length ≤ 7) (hlc : l.length ≤ c) (hfar : FarD w.heap.size A l) (hwf : ∀ d ∈ l, WfC d.r.c) (hB : Rd w B (is r)) (hrl : r.length ≤ 7)
    (hc2 : r.length ≤ c2) (hp : Pre l most r) (hx : explainsB l r = true) :
    Calls Tryz.prog 10 #[.slice A l.length c, .int .i64 most, .slice B r.length c2] w fun e w' => e = .returned (.bool true) ∧ Same w w' := by
  have H := hide h
  have HB := hide (And.intro h1 h2)
  have HRd := hide hB
  have HFar := hide hfar
  have HP := hide hp
  have HFr := hide (fun (k i : Nat) (hi : i < l.length) (hk : k ≤ r.length) w' (hs : Same w w') => free_any (c := c) (c2 := c2) (done := r.take k) (i := i) w' (h.same hs) (by have := (hB.same hs).take k; rwa [is_take] at this) (by omega) (by unfold maxLen; rw [List.length_take]; omega) hi hlc)
  have HTl := hide (fun (i : Nat) (hi : i < l.length) w' g pm sm p s (ht : Tab w' g pm sm most p s) (hr : RpAt w' l[i].t) => tells_any l[i] w' ht (hwf _ (List.getElem_mem hi)) hr)
  have HEx := hide (fun w' (hs : Same w w') => explains_any (c := c) (c2 := c2) w' (h.same hs) (hB.same hs) (by omega) (by unfold maxLen; omega))
  rw [hx] at HEx
  obtain ⟨n, hn⟩ : ∃ n, l.length = n := ⟨_, rfl⟩
  obtain ⟨m, hm⟩ : ∃ m, r.length = m := ⟨_, rfl⟩
  have Hn := hide hn
  have Hm := hide hm
  have hn7 : n ≤ 7 := by omega
  have hm7 : m ≤ 7 := by omega
  have hmc : m ≤ c2 := by omega
  rw [hn, hm] at HEx
  rw [hn, hm]
  clear h h1 h2 hl hlc hfar hwf hB hrl hc2 hp hx hn hm
  go_enter Tryz.func10, Tryz.ntmps10
  go_wp2_with (first
    | (go_at_call 19; refine (tnew_any _ _ HB.out.1 HB.out.2).mono ?_; rintro e w1 ⟨g, pm, sm, rfl, hs, ht, z1, z2, z3⟩; have Hs1 : Hid (Same w w1) := hide hs; have HT1 := hide ht; have Hz1 := hide (And.intro z1 (And.intro z2 z3)); clear hs ht z1 z2 z3)
    | fail)
  go_loopg [20] m (fun kk vi wr => ∃ k : Nat, k ≤ m ∧ kk = m - k ∧ vi = .int .i64 k ∧ FitAt w w1 wr g pm sm l most r k)
  case atStart => exact ⟨0, Nat.zero_le _, rfl, rfl, ⟨by rw [List.take_zero]; exact HT1.out, Hs1.out, Chg.refl _ _⟩⟩
  case round =>
    obtain ⟨k, hk, hkk, rfl, hft⟩ := hrel
    have Hk := hide hkk
    have HT := hide hft.tab
    have HWr := hide hft.same
    have HCw := hide hft.chg
    clear hkk hft
    by_cases hlt : k < m
    · have hkr : k < r.length := by rw [Hm.out]; exact hlt
      obtain ⟨i, hi, he, hf, ht⟩ := HP.out.ok k hkr
      obtain ⟨bB, oB, rfl, hcB⟩ := (HRd.out.same HWr.out).at_ (i := k) (by rw [is_length]; exact hkr)
      simp only [is, List.getElem_map, he] at hcB
      obtain ⟨bi, oi, rfl, hbi, hri, hpi⟩ := (H.out.same HWr.out).at_ hi
      have Hxr := hide hri
      have HDr := hide hpi
      have Hlx := hide (ddL_length l[i])
      have hFi := HFr.out k i hi (by omega)
      have hTi := HTl.out i hi
      have Hst := hide (stW_take (most := most) hkr hi he)
      rw [hf] at hFi
      rw [List.length_take, Nat.min_eq_left (by omega), Hn.out] at hFi
      have HFi := hide hFi
      have hin : i < n := by rw [← Hn.out]; exact hi
      obtain ⟨x, hx⟩ : ∃ x, l[i] = x := ⟨_, rfl⟩
      rw [hx] at hTi Hxr HDr Hlx Hst ht
      obtain ⟨P, hP⟩ : ∃ P, (stW l most (r.take k)).1 = P := ⟨_, rfl⟩
      obtain ⟨S, hS⟩ : ∃ S, (stW l most (r.take k)).2 = S := ⟨_, rfl⟩
      rw [hP, hS] at HT Hst ht
      have hTi2 := fun w' (h1 : Tab w' g pm sm most P S) (h2 : RpAt w' x.t) => hTi w' g pm sm P S h1 h2
      unfold ddV TellsEnd at hTi2
      rw [ht] at hTi2
      have HTi := hide hTi2
      clear hTi2
      clear hFi hTi hx hP hS ht hf he hri hpi hbi hi
      generalize ddL x = LX at *
      have qi : decide (i < n) = true := by simpa using hin
      have qn : decide ((i : Int) < 0) = false := by simp
      have qi2 : decide (n ≤ i) = false := by simp; omega
      have qk : decide (k ≤ c2) = true := by simp; omega
      go_wp2_with (first
        | (go_at_call 20; have hF := HFi.out _ HWr.out; (with_reducible refine hF.mono ?_); rintro e w2 ⟨rfl, hs⟩; have HS2 := hide hs; clear hs hF)
        | (refine wpList_ld (by rfl) 45 _ rfl bi (oi + i * 29) rfl LX _ (rangeAt_same Hxr.out HS2.out) Tryz.underlying45 rfl (by rw [Hlx.out]; exact infoDeed) ?_)
        | (go_at_call 21; have hF := HTi.out _ (HT.out.same HS2.out) (HDr.out.same HS2.out); (with_reducible refine hF.mono ?_); rintro e w3 ⟨rfl, ht3, hc3⟩; have HT3 := hide ht3; have HC3 := hide hc3; clear ht3 hc3 hF)
        | fail)
      go_roundg (m - (k + 1))
      case measure => have := Hk.out; omega
      case rel =>
        have hc := Chg.trans (Chg.same HCw.out HS2.out) HC3.out fun _ _ h => h
        exact ⟨k + 1, by omega, rfl, by go_num, ⟨by rw [Hst.out]; exact HT3.out, Chg.fresh (S := fun b => w.heap.size ≤ b) (Chg.trans (Hs1.out.to) hc fun b _ e => by rcases e with e | e <;> (subst e; first | exact Hz1.out.2.1 | exact Hz1.out.2.2)) fun _ h => h, hc⟩⟩
    · go_wp2_with (first
        | (go_at_call 22; have hF := HEx.out _ HWr.out; (with_reducible refine hF.mono ?_); rintro e w2 ⟨rfl, hs⟩; have HS2 := hide hs; clear hs hF)
        | fail)
      go_ret
      exact ⟨rfl, Same.trans HWr.out HS2.out⟩
end Go.Proofs.YtenkdjfikppkdaaGreat
/-! Ap -/
namespace Go.Al
open Go.RowKit

theorem run_app0 {P : Program} (w : World) {t ty' e : TypeId} {size bytes : Nat} (hT : SlTy P t e size bytes) (A0 : Option Addr) (A : Option Addr) (m c : Nat) (news : List Value) (hl : news.length = m * size) (hr : Rd w A news)
    (hsm : m * bytes ≤ 140737488355328) (hm63 : m ≤ 140737488355328) :
    ∃ A' c' w', (Builtin.append_ #[t, t] ty' #[.slice A0 0 0, .slice A m c]).run P w = .ok (.slice A' m c') w' ∧ Rd w' A' news ∧ m ≤ c' ∧ c' ≤ maxLen ∧ Same w w' ∧ (A' = A0 ∨ A' = some ⟨w.heap.size, 0, none⟩ ∧ w.heap.size < w'.heap.size) := by
  by_cases hm : m = 0
  · subst hm
    have hn : news = [] := List.eq_nil_of_length_eq_zero (by simpa using hl)
    subst hn
    obtain ⟨ht, ⟨i, z, hi, hz, hsz, hby, hzs⟩, hpos⟩ := hT
    refine ⟨A0, 0, w, ?_, Rd.nil _ _, Nat.le_refl _, Nat.zero_le _, Chg.refl _ w, .inl rfl⟩
    cases A0 <;> cases A <;> simp [Builtin.append_, run_underlying ht, sizeOf, typeInfo, hi, Builtin.lenOf, Builtin.firstCells, storeCells, loadCells, loadCellsFrom]
  · obtain ⟨ht, ⟨i, z, hi, hz, hsz, hby, hzs⟩, hpos⟩ := hT
    have h63 : m ≤ maxLen := by simp only [maxLen]; omega
    have hne : news ≠ [] := fun h0 => by
      subst h0
      have : 0 < m * size := Nat.mul_pos (by omega) hpos
      simp at hl; omega
    obtain ⟨b, off, rfl, hc0⟩ := hr hne
    have hcell : ∀ j u, news[j]? = some u → w.cell? ((⟨b, off, none⟩ : Addr).add j) = some u := fun j u hu => by rw [add_lit]; exact hc0 j u hu
    subst hsz
    subst hby
    have fin : ∀ cap : Nat, m ≤ cap → cap ≤ maxLen →
        Rd (w.drew.alloc (.cells (news.toArray ++ Builtin.zeroCells z.cells (cap - m)) e)) (some ⟨w.heap.size, 0, none⟩) news ∧ m ≤ cap ∧ cap ≤ maxLen ∧ Same w (w.drew.alloc (.cells (news.toArray ++ Builtin.zeroCells z.cells (cap - m)) e)) ∧
          ((some ⟨w.heap.size, 0, none⟩ : Option Addr) = A0 ∨ (some ⟨w.heap.size, 0, none⟩ : Option Addr) = some ⟨w.heap.size, 0, none⟩ ∧ w.heap.size < (w.drew.alloc (.cells (news.toArray ++ Builtin.zeroCells z.cells (cap - m)) e)).heap.size) := fun cap h1 h2 => by
      refine ⟨fun _ => ⟨w.heap.size, 0, rfl, fun j u hu => ?_⟩, h1, h2, ((Chg.refl _ w).drew).alloc _, .inr ⟨rfl, by simp⟩⟩
      have hb : Blk (w.drew.alloc (.cells (news.toArray ++ Builtin.zeroCells z.cells (cap - m)) e)) w.heap.size e (news.toArray ++ Builtin.zeroCells z.cells (cap - m)) := Blk.new w.drew _ _
      rw [hb.cell]
      have hj : j < news.length := (List.getElem?_eq_some_iff.1 hu).1
      simpa [Array.getElem?_append, hj] using hu
    cases A0 with
    | none =>
      have hr := run_append_nil (P := P) w t ty' e i z ht hi hz ⟨b, off, none⟩ m c news hl hcell (by omega) (by omega) (by omega)
      exact ⟨_, _, _, hr, fin _ (grownCap_ge w m 0 e) (grownCap_le_maxLen w m 0 e h63)⟩
    | some g =>
      have hr := run_append_grow (P := P) w t ty' e i z ht hi hz g 0 0 [] (by simp) (fun j u hu => by simp at hu) ⟨b, off, none⟩ m c news hl hcell (by omega) (by omega) (growslice_fits (by omega) (by simpa using hsm))
      simp only [Nat.zero_add, Array.empty_append] at hr
      exact ⟨_, _, _, hr, fin _ (by simpa using grownCap_ge w (0 + m) 0 e) (by simpa using grownCap_le_maxLen w (0 + m) 0 e (by simpa using h63))⟩

section
variable {P : Program} (w : World)
theorem wp_app0 {o : Oper} {a : Act} {K : Act → World → Prop} {Q : Exit → Act → World → Prop} (s x : Operand) (t : TypeId)
    (ho : o.op = .call { callee := .builtin .append, args := #[s, x], argTypes := #[t, t] })
    {e : TypeId} {size bytes : Nat} (hT : SlTy P t e size bytes) {A0 : Option Addr} (hs : a.eval s = .slice A0 0 0)
    {A : Option Addr} {m c : Nat} {news : List Value} (hx : a.eval x = .slice A m c) (hl : news.length = m * size) (hr : Rd w A news)
    (hsm : m * bytes ≤ 140737488355328) (hm63 : m ≤ 140737488355328)
    (h : ∀ A' c' w', Rd w' A' news → m ≤ c' → c' ≤ maxLen → Same w w' → (A' = A0 ∨ A' = some ⟨w.heap.size, 0, none⟩ ∧ w.heap.size < w'.heap.size) → K (a.put o.dst (.slice A' m c')) w') : o.wp P a w K Q := by
  obtain ⟨A', c', w', hrun, h1, h2, h3, h4, h5⟩ := run_app0 (P := P) w (ty' := o.type) hT A0 A m c news hl hr hsm hm63
  unfold Oper.wp execOp
  simp only [ho, resolve, invoke, builtin, Sem.run_bind, Sem.run_pure, Result.andThen_ok, List.map_toArray, List.map_cons, List.map_nil, hs, hx, hrun]
  exact h A' c' w' h1 h2 h3 h4 h5
/-- at a step of a region that draws its order -/
theorem step_app0 {ops : Array Oper} {o : Oper} {a : Act} {K : Act → World → Prop} {Q : Exit → Act → World → Prop} {E : Prop} (hgd : o.guard = none) (s x : Operand) (t : TypeId)
    (ho : o.op = .call { callee := .builtin .append, args := #[s, x], argTypes := #[t, t] })
    {e : TypeId} {size bytes : Nat} (hT : SlTy P t e size bytes) {A0 : Option Addr} (hs : a.eval s = .slice A0 0 0)
    {A : Option Addr} {m c : Nat} {news : List Value} (hx : a.eval x = .slice A m c) (hl : news.length = m * size) (hr : Rd w A news)
    (hsm : m * bytes ≤ 140737488355328) (hm63 : m ≤ 140737488355328)
    (h : ∀ A' c' w', Rd w' A' news → m ≤ c' → c' ≤ maxLen → Same w w' → (A' = A0 ∨ A' = some ⟨w.heap.size, 0, none⟩ ∧ w.heap.size < w'.heap.size) → K (a.put o.dst (.slice A' m c')) w') :
    if Region.wanted o (yielded ops a.tmps) = true then Oper.wp P o a w K Q else E := by
  have hw : Region.wanted o (yielded ops a.tmps) = true := by simp [Region.wanted, hgd]
  rw [if_pos hw]
  exact wp_app0 w s x t ho hT hs hx hl hr hsm hm63 h
/-- at a plain region's list -/
theorem wpList_app0 {ops : Array Oper} {rest : List Oper} {o : Oper} {a : Act} {Q : Exit → Act → World → Prop} (hgd : Region.wanted o (yielded ops a.tmps) = true) (s x : Operand) (t : TypeId)
    (ho : o.op = .call { callee := .builtin .append, args := #[s, x], argTypes := #[t, t] })
    {e : TypeId} {size bytes : Nat} (hT : SlTy P t e size bytes) {A0 : Option Addr} (hs : a.eval s = .slice A0 0 0)
    {A : Option Addr} {m c : Nat} {news : List Value} (hx : a.eval x = .slice A m c) (hl : news.length = m * size) (hr : Rd w A news)
    (hsm : m * bytes ≤ 140737488355328) (hm63 : m ≤ 140737488355328)
    (h : ∀ A' c' w', Rd w' A' news → m ≤ c' → c' ≤ maxLen → Same w w' → (A' = A0 ∨ A' = some ⟨w.heap.size, 0, none⟩ ∧ w.heap.size < w'.heap.size) → wpList P ops Q rest (a.put o.dst (.slice A' m c')) w') : wpList P ops Q (o :: rest) a w :=
  wpList_step fun _ hK => by
    rw [if_pos hgd]
    exact wp_app0 w s x t ho hT hs hx hl hr hsm hm63 fun A' c' w' h1 h2 h3 h4 h5 => hK _ _ (h A' c' w' h1 h2 h3 h4 h5)
end
end Go.Al
/-! RfF -/
namespace Go.Proofs.YtenkdjfikppkdaaGreat
open Go.RowKit Go.Al
set_option linter.unusedVariables false

/-- how Clone ends -/
def CloneEnd (w : World) (most : Int) (p s : List P3) (e : Ending) (w' : World) : Prop :=
  ∃ g' AP' cp' AS' cs', e = .returned (.pointer (some ⟨g', 0, none⟩)) ∧ SetR w' g' AP' cp' AS' cs' most p s ∧ Same w w' ∧ w.heap.size ≤ g' ∧ (∀ b, blkOf AP' = some b → w.heap.size ≤ b) ∧ (∀ b, blkOf AS' = some b → w.heap.size ≤ b)
theorem blk_app {w W w' : World} {A' : Option Addr} {b : Nat} (hs : Same w W) (hs' : Same W w') (hb : w.heap.size ≤ b) (hlt : b < W.heap.size) (h : A' = some ⟨b, 0, none⟩ ∨ A' = some ⟨W.heap.size, 0, none⟩ ∧ W.heap.size < w'.heap.size) : ∀ k, blkOf A' = some k → w.heap.size ≤ k ∧ k < w'.heap.size := fun k hk => by
  have h1 := hs'.size
  have h2 := hs.size
  rcases h with rfl | ⟨rfl, h⟩
  · simp [blkOf] at hk; omega
  · simp [blkOf] at hk; omega
theorem setR_new {w w1 : World} {n m cp cs : Nat} {AP AS : Option Addr} {most : Int} {p s : List P3} (hs : Same w w1) (hn : p.length = n) (hm : s.length = m)
    (h1 : Rd w1 AP (is3 p)) (h2 : Rd w1 AS (is3 s)) (b1 : n ≤ cp ∧ cp ≤ maxLen) (b2 : m ≤ cs ∧ cs ≤ maxLen) (k1 : ∀ k, blkOf AP = some k → w.heap.size ≤ k ∧ k < w1.heap.size) (k2 : ∀ k, blkOf AS = some k → w.heap.size ≤ k ∧ k < w1.heap.size) :
    CloneEnd w most p s (.returned (.pointer (some ⟨w1.heap.size, 0, none⟩))) (w1.alloc (.cells #[.slice AP n cp, .slice AS m cs, .int .i64 most] 56)) := by
  subst hn
  subst hm
  have al : Same w1 (w1.alloc (.cells #[.slice AP p.length cp, .slice AS s.length cs, .int .i64 most] 56)) := (Chg.refl _ w1).alloc _
  have r1 : Row3 w1 AP p.length cp p := ⟨h1, rfl, b1.1, b1.2, fun b hb => (k1 b hb).2⟩
  have r2 : Row3 w1 AS s.length cs s := ⟨h2, rfl, b2.1, b2.2, fun b hb => (k2 b hb).2⟩
  refine ⟨w1.heap.size, AP, cp, AS, cs, rfl, ⟨Blk.new w1 _ _, r1.same al, r2.same al, fun h => ?_, fun h => ?_⟩, Same.trans hs al, hs.size, fun b hb => (k1 b hb).1, fun b hb => (k2 b hb).1⟩
  · have := (k1 _ h).2; omega
  · have := (k2 _ h).2; omega
set_option maxRecDepth 100000 in
set_option maxHeartbeats 4000000 in
theorem cloneRf_any {g cp cs : Nat} {AP AS : Option Addr} {most : Int} {p s : List P3} (w : World) (h : SetR w g AP cp AS cs most p s) (hp : p.length ≤ 65535) (hs : s.length ≤ 65535) :
    Calls Tryz.prog 16 #[.pointer (some ⟨g, 0, none⟩)] w (CloneEnd w most p s) := by
  have H := hide h
  obtain ⟨n, hn⟩ : ∃ n, p.length = n := ⟨_, rfl⟩
  obtain ⟨m, hm⟩ : ∃ m, s.length = m := ⟨_, rfl⟩
  have hblk := h.blk
  have hrp := h.rp.1
  have hrs := h.rs.1
  rw [hn, hm] at hblk
  have l1 := is3_len p
  have l2 := is3_len s
  rw [hn] at l1 hp
  rw [hm] at l2 hs
  have Hk : Hid (∀ w', Same w w' → w'.cell? ⟨g, 0, none⟩ = some (.slice AP n cp) ∧ w'.cell? ⟨g, 1, none⟩ = some (.slice AS m cs) ∧ w'.cell? ⟨g, 2, none⟩ = some (.int .i64 most)) := hide fun w' hs => ⟨(hblk.same hs).cell 0, (hblk.same hs).cell 1, (hblk.same hs).cell 2⟩
  have Hn := hide hn
  have Hm := hide hm
  have Hrp := hide hrp
  have Hrs := hide hrs
  have L1 := hide l1
  have L2 := hide l2
  clear h hn hm hblk hrp hrs l1 l2
  have hkw := Hk.out w (Chg.refl _ _)
  clear Hk
  have hbw : g < w.heap.size := World.block_lt_of_cell? (a := ⟨g, 0, none⟩) w hkw.1
  obtain ⟨k0, k1, k2⟩ := hkw
  have bp : n * 24 ≤ 140737488355328 ∧ n ≤ 140737488355328 := by omega
  have bs : m * 24 ≤ 140737488355328 ∧ m ≤ 140737488355328 := by omega
  have Bp := hide bp
  have Bs := hide bs
  have Hk := hide (fun w' (hs : Same w w') => (show w'.cell? ⟨g, 0, none⟩ = some (.slice AP n cp) ∧ w'.cell? ⟨g, 1, none⟩ = some (.slice AS m cs) ∧ w'.cell? ⟨g, 2, none⟩ = some (.int .i64 most) from
    ⟨(hs.cell (p := ⟨g, 0, none⟩) hbw (fun h => h)).trans k0, (hs.cell (p := ⟨g, 1, none⟩) hbw (fun h => h)).trans k1, (hs.cell (p := ⟨g, 2, none⟩) hbw (fun h => h)).trans k2⟩))
  clear bp bs hp hs H k0 k1 k2
  go_enter Tryz.func16, Tryz.ntmps16
  go_wp2_with fail
  refine wp_region_mixS 16 (by kernel_rfl) (by kernel_rfl) fun Fin hFin => ?_
  simp only [List.take_succ_cons, List.take_zero]
  refine mix_letS (fun _ v w' => ∃ b, v = .slice (some ⟨b, 0, none⟩) 0 0 ∧ w.heap.size ≤ b ∧ b < w'.heap.size) ?_ (by exact Loc.const _ _) ?_ ?_ ?_ ?_ ?_
  rotate_left
  · rintro e u w1 w2 hs ⟨b, rfl, h1, h2⟩; exact ⟨b, rfl, h1, Nat.lt_of_lt_of_le h2 hs.size⟩
  · intro e; rfl
  · intro e w1 hR hF K hK; go_simp; exact hK _ _ _ ((Chg.refl _ _).alloc _) ⟨_, rfl, hR.size, by simp⟩ (by simp only [Act.put, List.setIfInBounds_toArray, List.set_cons_zero, List.set_cons_succ])
  · intro e; simp only [Act.put, List.setIfInBounds_toArray, List.set_cons_zero, List.set_cons_succ]; rfl
  iterate 4 (
      (refine mix_lit ?_ ?_ (fun w => Chg.refl _ w) ?_ ?_ ?_ ?_
       rotate_left; rotate_left
       · intro e w1 hR hF K hK; (obtain ⟨k0, k1, k2⟩ := Hk.out _ hR); go_simp; (refine hK _ _ (Chg.refl _ _) ?_; rfl)
       · intro e; simp only [Act.put, List.setIfInBounds_toArray, List.set_cons_zero, List.set_cons_succ]; rfl
       · exact Loc.const _ _))
  refine mix_letS (fun _ v w' => ∃ A c, v = .slice A n c ∧ Rd w' A (is3 p) ∧ n ≤ c ∧ c ≤ maxLen ∧ ∀ k, blkOf A = some k → w.heap.size ≤ k ∧ k < w'.heap.size) ?_ (by exact Loc.const _ _) ?_ ?_ ?_ ?_ ?_
  rotate_left
  · rintro e u w1 w2 hs ⟨A, c, rfl, h1, h2, h3, h4⟩; exact ⟨A, c, rfl, h1.same hs, h2, h3, fun k hk => ⟨(h4 k hk).1, Nat.lt_of_lt_of_le (h4 k hk).2 hs.size⟩⟩
  · intro e; rfl
  · intro e w1 hR hF K hK
    obtain ⟨b, hb, h1, h2⟩ := (show ∃ b, e 0 = .slice (some ⟨b, 0, none⟩) 0 0 ∧ w.heap.size ≤ b ∧ b < w1.heap.size from hF 0 (by kernel_rfl))
    refine step_app0 w1 (by rfl) (.tmp 3) (.tmp 7) _ (by rfl) slP (by exact hb) (by rfl) L1.out (Hrp.out.same hR) Bp.out.1 Bp.out.2 ?_
    intro A' c' w2 hr hc hm hs ho
    exact hK _ _ _ hs ⟨A', c', rfl, hr, hc, hm, blk_app hR hs h1 h2 ho⟩ rfl
  · intro e; simp only [Act.put, List.setIfInBounds_toArray, List.set_cons_zero, List.set_cons_succ]; rfl
  refine mix_letS (fun _ v w' => ∃ b, v = .slice (some ⟨b, 0, none⟩) 0 0 ∧ w.heap.size ≤ b ∧ b < w'.heap.size) ?_ (by exact Loc.const _ _) ?_ ?_ ?_ ?_ ?_
  rotate_left
  · rintro e u w1 w2 hs ⟨b, rfl, h1, h2⟩; exact ⟨b, rfl, h1, Nat.lt_of_lt_of_le h2 hs.size⟩
  · intro e; rfl
  · intro e w1 hR hF K hK; go_simp; exact hK _ _ _ ((Chg.refl _ _).alloc _) ⟨_, rfl, hR.size, by simp⟩ (by simp only [Act.put, List.setIfInBounds_toArray, List.set_cons_zero, List.set_cons_succ])
  · intro e; simp only [Act.put, List.setIfInBounds_toArray, List.set_cons_zero, List.set_cons_succ]; rfl
  iterate 4 (
      (refine mix_lit ?_ ?_ (fun w => Chg.refl _ w) ?_ ?_ ?_ ?_
       rotate_left; rotate_left
       · intro e w1 hR hF K hK; (obtain ⟨k0, k1, k2⟩ := Hk.out _ hR); go_simp; (refine hK _ _ (Chg.refl _ _) ?_; rfl)
       · intro e; simp only [Act.put, List.setIfInBounds_toArray, List.set_cons_zero, List.set_cons_succ]; rfl
       · exact Loc.const _ _))
  refine mix_letS (fun _ v w' => ∃ A c, v = .slice A m c ∧ Rd w' A (is3 s) ∧ m ≤ c ∧ c ≤ maxLen ∧ ∀ k, blkOf A = some k → w.heap.size ≤ k ∧ k < w'.heap.size) ?_ (by exact Loc.const _ _) ?_ ?_ ?_ ?_ ?_
  rotate_left
  · rintro e u w1 w2 hs ⟨A, c, rfl, h1, h2, h3, h4⟩; exact ⟨A, c, rfl, h1.same hs, h2, h3, fun k hk => ⟨(h4 k hk).1, Nat.lt_of_lt_of_le (h4 k hk).2 hs.size⟩⟩
  · intro e; rfl
  · intro e w1 hR hF K hK
    obtain ⟨b, hb, h1, h2⟩ := (show ∃ b, e 6 = .slice (some ⟨b, 0, none⟩) 0 0 ∧ w.heap.size ≤ b ∧ b < w1.heap.size from hF 6 (by kernel_rfl))
    refine step_app0 w1 (by rfl) (.tmp 9) (.tmp 13) _ (by rfl) slS (by exact hb) (by rfl) L2.out (Hrs.out.same hR) Bs.out.1 Bs.out.2 ?_
    intro A' c' w2 hr hc hm hs ho
    exact hK _ _ _ hs ⟨A', c', rfl, hr, hc, hm, blk_app hR hs h1 h2 ho⟩ rfl
  · intro e; simp only [Act.put, List.setIfInBounds_toArray, List.set_cons_zero, List.set_cons_succ]; rfl
  iterate 4 (
      (refine mix_lit ?_ ?_ (fun w => Chg.refl _ w) ?_ ?_ ?_ ?_
       rotate_left; rotate_left
       · intro e w1 hR hF K hK; (obtain ⟨k0, k1, k2⟩ := Hk.out _ hR); go_simp; (refine hK _ _ (Chg.refl _ _) ?_; rfl)
       · intro e; simp only [Act.put, List.setIfInBounds_toArray, List.set_cons_zero, List.set_cons_succ]; rfl
       · exact Loc.const _ _))
  refine mix_nil fun e w1 hR hF => hFin _ _ ?_
  simp only [List.drop_succ_cons, List.drop_zero]
  obtain ⟨A1, c1, h5, r1, b1, m1, k1⟩ := (show ∃ A c, e 5 = .slice A n c ∧ Rd w1 A (is3 p) ∧ n ≤ c ∧ c ≤ maxLen ∧ ∀ k, blkOf A = some k → w.heap.size ≤ k ∧ k < w1.heap.size from hF 5 (by decide))
  obtain ⟨A2, c2, h11, r2, b2, m2, k2⟩ := (show ∃ A c, e 11 = .slice A m c ∧ Rd w1 A (is3 s) ∧ m ≤ c ∧ c ≤ maxLen ∧ ∀ k, blkOf A = some k → w.heap.size ≤ k ∧ k < w1.heap.size from hF 11 (by decide))
  rw [h5, h11]
  clear h5 h11 hF
  have HE := hide (setR_new (most := most) hR Hn.out Hm.out r1 r2 ⟨b1, m1⟩ ⟨b2, m2⟩ k1 k2)
  clear r1 b1 m1 k1 r2 b2 m2 k2 hR
  go_wp2_with fail
  go_ret
  exact HE.out
end Go.Proofs.YtenkdjfikppkdaaGreat
/-! RfDz -/
namespace Go.Proofs.YtenkdjfikppkdaaGreat
open Go.RowKit Go.Al
theorem plainRf_ok {A1 A2 : Option Addr} {c1 c2 : Nat} {p s : List P3} (q : Qy) (w : World) (hc : checkE q = 0) (h1 : Row3 w A1 p.length c1 p) (h2 : Row3 w A2 s.length c2 s) (hp : p.length ≤ 1048576) (hs : s.length ≤ 1048576) (sp : Srt p) (ss : Srt s) :
    Calls Tryz.prog 49 #[qV q, .slice A1 p.length c1, .slice A2 s.length c2] w (PlainREnd w (idsOf q p s).length (lstOf q p s)) := by
  have hk : q.k = 1 ∨ q.k = 2 ∨ q.k = 3 ∨ q.k = 4 ∨ q.k = 5 ∨ q.k = 6 ∨ q.k = 7 := by
    cases h : pointsB q
    · have := check_span hc h; omega
    · unfold pointsB at h; simp at h; omega
  rcases hk with h | h | h | h | h | h | h
  · exact plainRf_k1 q w hc h h1 h2 hp hs sp ss
  · exact plainRf_k2 q w hc h h1 h2 hp hs sp ss
  · exact plainRf_k3 q w hc h h1 h2 hp hs sp ss
  · exact plainRf_k4 q w hc h h1 h2 hp hs sp ss
  · exact plainRf_k5 q w hc h h1 h2 hp hs sp ss
  · exact plainRf_k6 q w hc h h1 h2 hp hs sp ss
  · exact plainRf_k7 q w hc h h1 h2 hp hs sp ss
end Go.Proofs.YtenkdjfikppkdaaGreat
/-! RfG -/
namespace Go.Proofs.YtenkdjfikppkdaaGreat
open Go.RowKit Go.Al
set_option linter.unusedVariables false

/-- how Does ends -/
def DoesREnd (w : World) (g : Nat) (a : Ans) (most : Int) (p s : List P3) (e : Ending) (w' : World) : Prop :=
  ∃ A c, e = .returned (rpV (a.at_ A c)) ∧ RpAt w' (a.at_ A c) ∧ (∃ AP cp AS cs, SetR w' g AP cp AS cs most p s) ∧ Chg (fun k => k = g) w w'
theorem infoCg : (Tryz.prog.info? 35).map (·.size) = some 7 := by kernel_rfl
theorem doesA_1 {r : Rq} (hg : goodR r = true) (hk : r.k = 1) (p s : List P3) (most : Int) : doesA r p s most = code (mayE p s most r.c) ∧ doesP r p s most = doP' p s most r.c ∧ doesS r p s most = doS' p s most r.c := by
  unfold doesA doesP doesS
  rw [if_pos hg, if_pos hk, hg]
  simp [hk]
theorem doesA_2 {r : Rq} (hg : goodR r = true) (hk : ¬ r.k = 1) (p s : List P3) (most : Int) : doesA r p s most = told r.q p s ∧ doesP r p s most = p ∧ doesS r p s most = s := by
  unfold doesA doesP doesS
  rw [if_pos hg, if_neg hk, hg]
  simp [hk]
theorem told_badq {q : Qy} (hc : ¬ checkE q = 0) (p s : List P3) : told q p s = ⟨checkE q, false, false, 0, []⟩ := by unfold told; rw [if_neg hc]
theorem rp_at {w : World} {a : Ans} (h : a.ids = []) : RpAt w (a.at_ none 0) := ⟨by unfold Ans.at_; rw [h]; exact Rd.nil _ _, by unfold Ans.at_; rw [h]; exact Nat.le_refl _, Nat.zero_le _⟩
set_option maxRecDepth 100000 in
set_option maxHeartbeats 4000000 in
theorem doesRf_1 {g cp cs : Nat} {AP AS : Option Addr} {most : Int} {p s : List P3} (r : Rq) (w : World) (h : SetR w g AP cp AS cs most p s) (hp : p.length ≤ 65535) (hs : s.length ≤ 65535) (sp : Srt p) (ss : Srt s) (hk : r.k = 1) :
    Calls Tryz.prog 34 #[.pointer (some ⟨g, 0, none⟩), rqV r] w (DoesREnd w g (code (mayE p s most r.c)) most (doP' p s most r.c) (doS' p s most r.c)) := by
  have H := hide h
  have hgl : g < w.heap.size := h.blk.lt
  have hgb : ¬ (w.heap.size + 1 = g) := by omega
  have hb0 := (Blk.new w 37 (rqL r).toArray).alloc (.cells #[.int .i64 0, .bool false, .bool false, .int .i64 0, .slice none 0 0] 43)
  have hb1 := Blk.new (w.alloc (.cells (rqL r).toArray 37)) 43 #[.int .i64 0, .bool false, .bool false, .int .i64 0, .slice none 0 0]
  simp only [World.size_alloc] at hb1
  have hs2 := ((Chg.refl (fun _ => False) w).alloc (.cells (rqL r).toArray 37)).alloc (.cells #[.int .i64 0, .bool false, .bool false, .int .i64 0, .slice none 0 0] 43)
  have hz2 : ((w.alloc (.cells (rqL r).toArray 37)).alloc (.cells #[.int .i64 0, .bool false, .bool false, .int .i64 0, .slice none 0 0] 43)).heap.size = w.heap.size + 2 := by simp
  have h0 : (rqL r)[0]? = some (.int .i64 r.k) := rfl
  have Hb1 := hide hb1
  have Hs2 := hide hs2
  have Hz2 := hide hz2
  clear hb1 hs2 hz2
  have hrc := rangeAt_same (rangeAt_blk [.int .i64 r.k] (cgL r.c) (qL r.q) (show Blk (w.alloc (.cells (rqL r).toArray 37)) w.heap.size 37 _ from Blk.new w 37 (rqL r).toArray)) ((Chg.refl (fun _ => False) _).alloc (.cells #[.int .i64 0, .bool false, .bool false, .int .i64 0, .slice none 0 0] 43))
  have Hrc := hide hrc
  have Hlc := hide (cgL_length r.c)
  have HDo := hide (fun w' (hs' : Same w w') => doR_any r.c w' (h.same hs') hp hs sp ss)
  rw [hk] at h0
  have HLP := hide h.rp.2.2.2.2
  have HLS := hide h.rs.2.2.2.2
  clear h hrc hp hs sp ss hb0 hk
  obtain ⟨E, hE⟩ : ∃ E, mayE p s most r.c = E := ⟨_, rfl⟩
  obtain ⟨B, hB⟩ : ∃ B, doB p s most r.c = B := ⟨_, rfl⟩
  rw [hE, hB, cgV_L, cgV_L] at HDo
  rw [hE]
  have Hlb := hide (cgL_length B)
  have Hob : Hid (∀ u ∈ cgL B, u.oneCell' = true) := hide (by intro u hu; simp [cgL] at hu; rcases hu with rfl | rfl | rfl | rfl | rfl | rfl | rfl <;> rfl)
  unfold rqV
  clear hE hB
  generalize cgL r.c = LC at *
  generalize cgL B = LB at *
  generalize rqL r = LR at *
  go_enter Tryz.func34, Tryz.ntmps34
  go_wp2_with (first
    | (refine wpList_ld (by rfl) 35 _ rfl w.heap.size 1 rfl LC _ Hrc.out Tryz.underlying35 rfl (by rw [Hlc.out]; exact infoCg) ?_)
    | (go_at_call 46; have hF := HDo.out _ Hs2.out; (with_reducible refine hF.mono ?_); rintro e w3 ⟨rfl, AP3, cp3, AS3, cs3, hr3, hc3, hfp, hfs⟩; have HFP := hide hfp; have HFS := hide hfs; clear hfp hfs; have HR3 := hide hr3; have HC3 := hide hc3; have HA3 := hide (Hb1.out.chg hc3 hgb); have hka := HA3.out.cell; have hkf := HA3.out.frozen; have hz3 : w.heap.size + 1 < w3.heap.size := Nat.lt_of_lt_of_le (by rw [Hz2.out]; omega) hc3.size; clear hr3 hc3 hF)
    | (refine wpList_st rfl 35 _ _ rfl (by rfl) LB (by rfl) _ _ (by rw [Hlb.out]; exact infoCg) (by rw [Hlb.out]; rfl) Hob.out ?_))
  have hb9 := (Blk.put5 HA3.out (.int .i64 E) (.bool false) (.bool false) (.int .i64 0) (.slice none 0 0)).alloc (.cells LB.toArray 35)
  have hc9 := (Chg.put5 (S := fun k => k = w.heap.size + 1) (w := w3) (Chg.refl _ _) (.inl rfl) (.int .i64 E) (.bool false) (.bool false) (.int .i64 0) (.slice none 0 0)).alloc (.cells LB.toArray 35)
  refine bodyPost_ret (results_cell_row rfl _ _ _ _ _ _ _ rfl hb9 Tryz.underlying43 rfl (by kernel_rfl)) rfl ⟨none, 0, rfl, rp_at rfl, ⟨AP3, cp3, AS3, cs3, HR3.out.chg hc9 (fun e => hgb e.symm) (fun b hb e => ?_) (fun b hb e => ?_)⟩, ?_⟩
  · have := HFP.out b hb
    rw [Hz2.out] at this
    rcases this with h1 | h1
    · have := HLP.out b h1; omega
    · omega
  · have := HFS.out b hb
    rw [Hz2.out] at this
    rcases this with h1 | h1
    · have := HLS.out b h1; omega
    · omega
  · exact Chg.trans (Chg.of_same Hs2.out HC3.out) hc9 fun k hk e => by omega
set_option maxRecDepth 100000 in
set_option maxHeartbeats 4000000 in
theorem doesRf_2 {g cp cs : Nat} {AP AS : Option Addr} {most : Int} {p s : List P3} (r : Rq) (w : World) (h : SetR w g AP cp AS cs most p s) (hk : ¬ r.k = 1) (hc : ¬ checkE r.q = 0) :
    Calls Tryz.prog 34 #[.pointer (some ⟨g, 0, none⟩), rqV r] w (DoesREnd w g ⟨checkE r.q, false, false, 0, []⟩ most p s) := by
  have H := hide h
  have hgl : g < w.heap.size := h.blk.lt
  have hgb : ¬ (w.heap.size + 1 = g) := by omega
  have hb0 := (Blk.new w 37 (rqL r).toArray).alloc (.cells #[.int .i64 0, .bool false, .bool false, .int .i64 0, .slice none 0 0] 43)
  have hb1 := Blk.new (w.alloc (.cells (rqL r).toArray 37)) 43 #[.int .i64 0, .bool false, .bool false, .int .i64 0, .slice none 0 0]
  simp only [World.size_alloc] at hb1
  have hs2 := ((Chg.refl (fun _ => False) w).alloc (.cells (rqL r).toArray 37)).alloc (.cells #[.int .i64 0, .bool false, .bool false, .int .i64 0, .slice none 0 0] 43)
  have hz2 : ((w.alloc (.cells (rqL r).toArray 37)).alloc (.cells #[.int .i64 0, .bool false, .bool false, .int .i64 0, .slice none 0 0] 43)).heap.size = w.heap.size + 2 := by simp
  have h0 : (rqL r)[0]? = some (.int .i64 r.k) := rfl
  have Hb1 := hide hb1
  have Hs2 := hide hs2
  have Hz2 := hide hz2
  clear hb1 hs2 hz2
  have hrq := rangeAt_same (rangeAt_blk (.int .i64 r.k :: cgL r.c) (qL r.q) [] (show Blk (w.alloc (.cells (rqL r).toArray 37)) w.heap.size 37 _ from (by have := Blk.new w 37 (rqL r).toArray; rw [List.append_nil]; exact this))) ((Chg.refl (fun _ => False) _).alloc (.cells #[.int .i64 0, .bool false, .bool false, .int .i64 0, .slice none 0 0] 43))
  have Hrq := hide hrq
  have Hlq := hide (qL_length r.q)
  have HCk := hide (fun w' => checkRf_any r.q w')
  have HLP := hide h.rp.2.2.2.2
  have HLS := hide h.rs.2.2.2.2
  obtain ⟨E, hE⟩ : ∃ E, checkE r.q = E := ⟨_, rfl⟩
  rw [hE] at HCk hc ⊢
  obtain ⟨k, hk0⟩ : ∃ k, r.k = k := ⟨_, rfl⟩
  rw [hk0] at hk h0
  have hkb : (k == 1) = false := by simp [hk]
  have hEb : (E != 0) = true := by simp [hc]
  clear h hrq hb0 hk0 hE hk hc
  unfold rqV
  unfold qV at HCk
  generalize qL r.q = LQ at *
  generalize rqL r = LR at *
  go_enter Tryz.func34, Tryz.ntmps34
  go_wp2_with (first
    | (refine wpList_ld (by rfl) 29 _ rfl w.heap.size 8 rfl LQ _ Hrq.out Tryz.underlying29 rfl (by rw [Hlq.out]; exact infoQ) ?_)
    | (go_at_call 47; have hF := HCk.out; (with_reducible refine (hF _).mono ?_); rintro e w3 ⟨rfl, hs3⟩; have HS3 := hide hs3; have HA3 := hide (Hb1.out.same hs3); have hka := HA3.out.cell; have hkf := HA3.out.frozen; have hz3 : w.heap.size + 1 < w3.heap.size := Nat.lt_of_lt_of_le (by rw [Hz2.out]; omega) hs3.size; clear hs3 hF)
    | fail)
  have hb9 := Blk.put5 HA3.out (.int .i64 E) (.bool false) (.bool false) (.int .i64 0) (.slice none 0 0)
  have hc9 := Chg.put5 (S := fun k => k = w.heap.size + 1) (w := w3) (Chg.refl _ _) (.inl rfl) (.int .i64 E) (.bool false) (.bool false) (.int .i64 0) (.slice none 0 0)
  have HSw := Chg.trans (S := fun k => k = g) (Chg.of_same (Same.trans Hs2.out HS3.out) (Chg.refl (fun k => k = g) _)) hc9 fun k hk e => by omega
  refine bodyPost_ret (results_cell_row rfl _ _ _ _ _ _ _ rfl hb9 Tryz.underlying43 rfl (by kernel_rfl)) rfl ⟨none, 0, rfl, rp_at rfl, ⟨AP, cp, AS, cs, (H.out.same (Same.trans Hs2.out HS3.out)).chg hc9 (fun e => hgb e.symm) (fun b hb e => ?_) (fun b hb e => ?_)⟩, HSw⟩
  · have := HLP.out b hb; omega
  · have := HLS.out b hb; omega
theorem told_at {q : Qy} {p s : List P3} (hc : checkE q = 0) {w : World} {A : Option Addr} {c : Nat} (hr : Rd w A (is (lstOf q p s))) (h1 : (lstOf q p s).length ≤ c) (h2 : c ≤ maxLen) :
    ∃ A' c', Ending.returned (.agg (toldL q (idsOf q p s).length A (lstOf q p s).length c 0).toArray) = Ending.returned (rpV ((told q p s).at_ A' c')) ∧ RpAt w ((told q p s).at_ A' c') := by
  unfold told toldL
  rw [if_pos hc, if_pos rfl]
  unfold lstOf at hr h1 ⊢
  cases hq : countsB q
  · rw [hq] at hr h1
    simp only [Bool.false_eq_true, if_false] at hr h1 ⊢
    exact ⟨A, c, rfl, hr, h1, h2⟩
  · simp only [if_true]
    exact ⟨none, 0, rfl, Rd.nil _ _, Nat.le_refl _, Nat.zero_le _⟩
set_option maxRecDepth 100000 in
set_option maxHeartbeats 8000000 in
theorem doesRf_3 {g cp cs : Nat} {AP AS : Option Addr} {most : Int} {p s : List P3} (r : Rq) (w : World) (h : SetR w g AP cp AS cs most p s) (hp : p.length ≤ 65535) (hs : s.length ≤ 65535) (sp : Srt p) (ss : Srt s) (hk : ¬ r.k = 1) (hc : checkE r.q = 0) :
    Calls Tryz.prog 34 #[.pointer (some ⟨g, 0, none⟩), rqV r] w (DoesREnd w g (told r.q p s) most p s) := by
  have H := hide h
  have hgl : g < w.heap.size := h.blk.lt
  have hgb : ¬ (w.heap.size + 1 = g) := by omega
  have hb0 := (Blk.new w 37 (rqL r).toArray).alloc (.cells #[.int .i64 0, .bool false, .bool false, .int .i64 0, .slice none 0 0] 43)
  have hb1 := Blk.new (w.alloc (.cells (rqL r).toArray 37)) 43 #[.int .i64 0, .bool false, .bool false, .int .i64 0, .slice none 0 0]
  simp only [World.size_alloc] at hb1
  have hs2 := ((Chg.refl (fun _ => False) w).alloc (.cells (rqL r).toArray 37)).alloc (.cells #[.int .i64 0, .bool false, .bool false, .int .i64 0, .slice none 0 0] 43)
  have hz2 : ((w.alloc (.cells (rqL r).toArray 37)).alloc (.cells #[.int .i64 0, .bool false, .bool false, .int .i64 0, .slice none 0 0] 43)).heap.size = w.heap.size + 2 := by simp
  have h0 : (rqL r)[0]? = some (.int .i64 r.k) := rfl
  have Hb1 := hide hb1
  have Hs2 := hide hs2
  have Hz2 := hide hz2
  clear hb1 hs2 hz2
  have hrq := rangeAt_same (rangeAt_blk (.int .i64 r.k :: cgL r.c) (qL r.q) [] (show Blk (w.alloc (.cells (rqL r).toArray 37)) w.heap.size 37 _ from (by have := Blk.new w 37 (rqL r).toArray; rw [List.append_nil]; exact this))) ((Chg.refl (fun _ => False) _).alloc (.cells #[.int .i64 0, .bool false, .bool false, .int .i64 0, .slice none 0 0] 43))
  have Hrq := hide hrq
  have Hlq := hide (qL_length r.q)
  have HCk := hide (fun w' => checkRf_any r.q w')
  have HLP := hide h.rp.2.2.2.2
  have HLS := hide h.rs.2.2.2.2
  have HPl := hide (fun w' (hs' : Same w w') => plainRf_ok (c1 := cp) (c2 := cs) r.q w' hc (h.rp.same hs') (h.rs.same hs') (by omega) (by omega) sp ss)
  have HTo := hide (fun (A : Option Addr) (c : Nat) w' => toldRf_any (A := A) (n := (lstOf r.q p s).length) (c := c) r.q (idsOf r.q p s).length 0 w')
  have HEnd := hide (fun w' A c (hr : Rd w' A (is (lstOf r.q p s))) (h1 : (lstOf r.q p s).length ≤ c) (h2 : c ≤ maxLen) => told_at hc hr h1 h2)
  obtain ⟨cb, hcb⟩ : ∃ cb, countsB r.q = cb := ⟨_, rfl⟩
  unfold toldL at HTo HEnd
  rw [hcb] at HTo HEnd
  clear hcb
  rw [hc] at HCk
  obtain ⟨k, hk0⟩ : ∃ k, r.k = k := ⟨_, rfl⟩
  rw [hk0] at hk h0
  have hkb : (k == 1) = false := by simp [hk]
  have Hk3 : Hid (∀ w', Same w w' → w'.cell? ⟨g, 0, none⟩ = some (.slice AP p.length cp) ∧ w'.cell? ⟨g, 1, none⟩ = some (.slice AS s.length cs)) := hide fun w' hs' => ⟨(h.blk.same hs').cell 0, (h.blk.same hs').cell 1⟩
  clear h hrq hb0 hk0 hk hc hp hs sp ss
  unfold rqV
  unfold qV at HCk HPl HTo
  unfold PlainREnd at HPl
  generalize (idsOf r.q p s).length = N at *
  generalize lstOf r.q p s = ls at *
  generalize told r.q p s = AN at *
  generalize qL r.q = LQ at *
  generalize rqL r = LR at *
  go_enter Tryz.func34, Tryz.ntmps34
  go_wp2_with (first
    | (refine wpList_ld (by rfl) 29 _ rfl w.heap.size 8 rfl LQ _ Hrq.out Tryz.underlying29 rfl (by rw [Hlq.out]; exact infoQ) ?_)
    | (go_at_call 47; have hF := HCk.out; (with_reducible refine (hF _).mono ?_); rintro e w3 ⟨rfl, hs3⟩; have HS3 := hide hs3; have HA3 := hide (Hb1.out.same hs3); have hka := HA3.out.cell; have hkf := HA3.out.frozen; have hz3 : w.heap.size + 1 < w3.heap.size := Nat.lt_of_lt_of_le (by rw [Hz2.out]; omega) hs3.size; clear hs3 hF)
    | fail)
  refine wp_region_mixS 13 (by kernel_rfl) (by kernel_rfl) fun Fin hFin => ?_
  simp only [List.take_succ_cons, List.take_zero]
  iterate 12 (first
    | ((with_reducible refine mix_ld LQ ?_ (fun w => Chg.refl _ w) (fun _ => by kernel_rfl) 29 _ rfl w.heap.size 8 (fun _ => by kernel_rfl) _ (fun w1 hR => rangeAt_same Hrq.out (Same.trans HS3.out hR)) Tryz.underlying29 rfl (by rw [Hlq.out]; exact infoQ) ?_ ?_); rotate_left; · (intro e; simp only [Act.put, List.setIfInBounds_toArray, List.set_cons_zero, List.set_cons_succ]; rfl))
    | (refine mix_lit ?_ ?_ (fun w => Chg.refl _ w) ?_ ?_ ?_ ?_
       rotate_left; rotate_left
       · intro e w1 hR hF K hK; (obtain ⟨k0, k1⟩ := Hk3.out _ (Same.trans (Same.trans Hs2.out HS3.out) hR)); go_simp; (refine hK _ _ (Chg.refl _ _) ?_; rfl)
       · intro e; simp only [Act.put, List.setIfInBounds_toArray, List.set_cons_zero, List.set_cons_succ]; rfl
       · exact Loc.const _ _))
  refine mix_letS (fun _ v w' => ∃ A c, v = .agg #[.int .i64 N, .slice A ls.length c] ∧ Rd w' A (is ls) ∧ ls.length ≤ c ∧ c ≤ maxLen ∧ ∀ b, blkOf A = some b → w3.heap.size ≤ b) ?_ (by exact Loc.const _ _) ?_ ?_ ?_ ?_ ?_
  rotate_left
  · rintro e u w1 w2 hs ⟨A, c, rfl, h1, h2, h3, h4⟩; exact ⟨A, c, rfl, h1.same hs, h2, h3, h4⟩
  · intro e; rfl
  · intro e w1 hR hF K hK
    go_simp
    go_at_call 49
    have hF2 := HPl.out w1 (Same.trans (Same.trans Hs2.out HS3.out) hR)
    (with_reducible refine hF2.mono ?_)
    rintro _ w4 ⟨A, c, rfl, h1, h2, h3, h4, h5⟩
    exact hK _ _ _ h4 ⟨A, c, rfl, h1, h2, h3, fun b hb => Nat.le_trans hR.size (h5 b hb)⟩ rfl
  · intro e; simp only [Act.put, List.setIfInBounds_toArray, List.set_cons_zero, List.set_cons_succ]; rfl
  refine mix_nil fun e w1 hR hF => hFin _ _ ?_
  simp only [List.drop_succ_cons, List.drop_zero]
  obtain ⟨A, c, h12, r1, b1, m1, f1⟩ := (show ∃ A c, e 12 = .agg #[.int .i64 N, .slice A ls.length c] ∧ Rd w1 A (is ls) ∧ ls.length ≤ c ∧ c ≤ maxLen ∧ ∀ b, blkOf A = some b → w3.heap.size ≤ b from hF 12 (by decide))
  rw [h12]
  clear h12 hF hFin
  have HS4 := hide (Same.trans HS3.out hR)
  have HRr := hide r1
  have HFb := hide f1
  have HBm := hide (And.intro b1 m1)
  have Hz4 := hide (Nat.le_trans (Nat.le_of_eq Hz2.out.symm) (Nat.le_trans HS3.out.size hR.size))
  clear r1 b1 m1 f1 hR hka hkf HA3
  rcases cb with _ | _
  · simp only [Bool.false_eq_true, if_false] at HTo HEnd
    have hka1 := (Hb1.out.same HS4.out).cell
    go_wp2_with (first
      | (go_at_call 48; have hF := HTo.out; (with_reducible refine (hF _ _ _).mono ?_); rintro e2 w5 ⟨rfl, hs5⟩; have HS5 := hide (Same.trans HS4.out hs5); have HRr5 := hide (HRr.out.same hs5); have HA5 := hide (Hb1.out.same (Same.trans HS4.out hs5)); have hka := HA5.out.cell; have hkf := HA5.out.frozen; clear hs5 hF)
      | fail)
    have hb9 := Blk.put5 HA5.out (.int .i64 0) (.bool true) (.bool true) (.int .i64 N) (.slice A ls.length c)
    have hc9 := Chg.put5 (S := fun k => k = w.heap.size + 1) (w := w5) (Chg.refl _ _) (.inl rfl) (.int .i64 0) (.bool true) (.bool true) (.int .i64 N) (.slice A ls.length c)
    have HSw := Chg.trans (S := fun k => k = g) (Chg.of_same (Same.trans Hs2.out HS5.out) (Chg.refl (fun k => k = g) _)) hc9 fun k hk e => by omega
    have hne : blkOf A ≠ some (w.heap.size + 1) := fun e => by
      have h7 := HFb.out _ e
      have h8 := HS3.out.size
      rw [Hz2.out] at h8
      omega
    obtain ⟨A', c', he, hrp⟩ := HEnd.out _ A c (Rd.put5 HRr5.out hne (.int .i64 0) (.bool true) (.bool true) (.int .i64 N) (.slice A ls.length c)) HBm.out.1 HBm.out.2
    refine bodyPost_ret (results_cell_row rfl _ _ _ _ _ _ _ rfl hb9 Tryz.underlying43 rfl (by kernel_rfl)) rfl ⟨A', c', he, hrp, ⟨AP, cp, AS, cs, (H.out.same (Same.trans Hs2.out HS5.out)).chg hc9 (fun e => hgb e.symm) (fun b hb e => ?_) (fun b hb e => ?_)⟩, HSw⟩
    · have := HLP.out b hb; omega
    · have := HLS.out b hb; omega
  · simp only [if_true] at HTo HEnd
    have hka1 := (Hb1.out.same HS4.out).cell
    go_wp2_with (first
      | (go_at_call 48; have hF := HTo.out; (with_reducible refine (hF _ _ _).mono ?_); rintro e2 w5 ⟨rfl, hs5⟩; have HS5 := hide (Same.trans HS4.out hs5); have HRr5 := hide (HRr.out.same hs5); have HA5 := hide (Hb1.out.same (Same.trans HS4.out hs5)); have hka := HA5.out.cell; have hkf := HA5.out.frozen; clear hs5 hF)
      | fail)
    have hb9 := Blk.put5 HA5.out (.int .i64 0) (.bool true) (.bool false) (.int .i64 N) (.slice none 0 0)
    have hc9 := Chg.put5 (S := fun k => k = w.heap.size + 1) (w := w5) (Chg.refl _ _) (.inl rfl) (.int .i64 0) (.bool true) (.bool false) (.int .i64 N) (.slice none 0 0)
    have HSw := Chg.trans (S := fun k => k = g) (Chg.of_same (Same.trans Hs2.out HS5.out) (Chg.refl (fun k => k = g) _)) hc9 fun k hk e => by omega
    have hne : blkOf A ≠ some (w.heap.size + 1) := fun e => by
      have h7 := HFb.out _ e
      have h8 := HS3.out.size
      rw [Hz2.out] at h8
      omega
    obtain ⟨A', c', he, hrp⟩ := HEnd.out _ A c (Rd.put5 HRr5.out hne (.int .i64 0) (.bool true) (.bool false) (.int .i64 N) (.slice none 0 0)) HBm.out.1 HBm.out.2
    refine bodyPost_ret (results_cell_row rfl _ _ _ _ _ _ _ rfl hb9 Tryz.underlying43 rfl (by kernel_rfl)) rfl ⟨A', c', he, hrp, ⟨AP, cp, AS, cs, (H.out.same (Same.trans Hs2.out HS5.out)).chg hc9 (fun e => hgb e.symm) (fun b hb e => ?_) (fun b hb e => ?_)⟩, HSw⟩
    · have := HLP.out b hb; omega
    · have := HLS.out b hb; omega

theorem doesRf_any {g cp cs : Nat} {AP AS : Option Addr} {most : Int} {p s : List P3} (r : Rq) (w : World) (h : SetR w g AP cp AS cs most p s) (hp : p.length ≤ 65535) (hs : s.length ≤ 65535) (sp : Srt p) (ss : Srt s) (hg : goodR r = true) :
    Calls Tryz.prog 34 #[.pointer (some ⟨g, 0, none⟩), rqV r] w (DoesREnd w g (doesA r p s most) most (doesP r p s most) (doesS r p s most)) := by
  by_cases hk : r.k = 1
  · obtain ⟨e1, e2, e3⟩ := doesA_1 hg hk p s most
    rw [e1, e2, e3]
    exact doesRf_1 r w h hp hs sp ss hk
  · obtain ⟨e1, e2, e3⟩ := doesA_2 hg hk p s most
    rw [e1, e2, e3]
    by_cases hc : checkE r.q = 0
    · exact doesRf_3 r w h hp hs sp ss hk hc
    · rw [told_badq hc]
      exact doesRf_2 r w h hk hc
end Go.Proofs.YtenkdjfikppkdaaGreat
/-! RfH -/
namespace Go.Proofs.YtenkdjfikppkdaaGreat
open Go.RowKit Go.Al
set_option linter.unusedVariables false

/-- how Tells ends -/
def TellsREnd (w : World) (g : Nat) (b : Bool) (most : Int) (p s : List P3) (e : Ending) (w' : World) : Prop :=
  e = .returned (.bool b) ∧ (∃ AP cp AS cs, SetR w' g AP cp AS cs most p s) ∧ Chg (fun k => k = g) w w'
theorem ans_at (a : Ans) (A : Option Addr) (c : Nat) : (a.at_ A c).ans = a := rfl
theorem tells_bad {d : Dd} (hg : goodR d.r = false) (p s : List P3) (most : Int) : tellsB p s most d = false ∧ doesP d.r p s most = p ∧ doesS d.r p s most = s := by
  unfold tellsB doesE doesP doesS
  rw [hg]
  exact ⟨rfl, rfl, rfl⟩
theorem tells_good {d : Dd} (hg : goodR d.r = true) (p s : List P3) (most : Int) : tellsB p s most d = if mustD d then sameA (doesA d.r p s most) d.t.ans else decide ((doesA d.r p s most).e = 0) := by
  unfold tellsB doesE
  rw [hg]
  simp
set_option maxRecDepth 100000 in
set_option maxHeartbeats 4000000 in
theorem tellsRf_bad {g cp cs : Nat} {AP AS : Option Addr} {most : Int} {p s : List P3} (d : Dd) (w : World) (h : SetR w g AP cp AS cs most p s) (hg : goodR d.r = false) :
    Calls Tryz.prog 18 #[.pointer (some ⟨g, 0, none⟩), ddV d] w (TellsREnd w g false most p s) := by
  have H := hide h
  have hgl : g < w.heap.size := h.blk.lt
  have hgb : ¬ (w.heap.size = g) := by omega
  have hb0 := Blk.new w 45 (ddL d).toArray
  have hr1 := rangeAt_blk ((ddL d).take 6) (rqL d.r) ((ddL d).drop 24) (show Blk (w.alloc (.cells (ddL d).toArray 45)) w.heap.size 45 _ from hb0)
  have hr2 := rangeAt_blk ((ddL d).take 24) (rpL d.t) [] (show Blk (w.alloc (.cells (ddL d).toArray 45)) w.heap.size 45 _ from (by rw [List.append_nil]; exact hb0))
  rw [show ((ddL d).take 6).length = 6 from rfl] at hr1
  rw [show ((ddL d).take 24).length = 24 from rfl] at hr2
  have hs1 := (Chg.refl (fun _ => False) w).alloc (.cells (ddL d).toArray 45)
  have h2 : (ddL d)[2]? = some (.int .i64 d.rp) := rfl
  have Hs1 := hide hs1
  have Hb0 := hide hb0
  have Hr1 := hide hr1
  have Hr2 := hide hr2
  have Hl1 := hide (rqL_length d.r)
  have Hl2 := hide (rpL_length d.t)
  have HG := hide (fun w' => goodRf_any d.r w')
  have Hz1 : Hid ((w.alloc (.cells (ddL d).toArray 45)).heap.size = w.heap.size + 1) := hide (by simp)
  clear hb0 hr1 hr2 hs1
  rw [hg] at HG
  clear h hg
  unfold ddV
  unfold rqV at HG
  generalize rqL d.r = LQ at *
  generalize ddL d = L at *
  go_enter Tryz.func18, Tryz.ntmps18
  go_wp2_with (first
    | (refine wpList_ld (by rfl) 37 _ rfl w.heap.size 6 rfl LQ _ Hr1.out Tryz.underlying37 rfl (by rw [Hl1.out]; exact infoReq) ?_)
    | (go_at_call 33; have hF := HG.out; (with_reducible refine (hF _).mono ?_); rintro e w2 ⟨rfl, hs⟩; have Hs2 := hide (Same.trans Hs1.out hs); have Hr12 := hide (rangeAt_same Hr1.out hs); have hkb := (Hb0.out.same hs).cell; have Hs12 := hide hs; clear hs hF)
    | fail)
  go_ret
  exact ⟨rfl, ⟨AP, cp, AS, cs, H.out.same Hs2.out⟩, Hs2.out.to⟩
theorem rangeAt_new (w : World) (cs : List Value) (t : TypeId) : (w.alloc (.cells cs.toArray t)).rangeAt w.heap.size 0 cs := fun j v hv => by
  rw [(Blk.new w t cs.toArray).cell, Nat.zero_add]
  simpa using hv
set_option maxRecDepth 100000 in
set_option maxHeartbeats 8000000 in
theorem tellsRf_good {g cp cs : Nat} {AP AS : Option Addr} {most : Int} {p s : List P3} (d : Dd) (w : World) (h : SetR w g AP cp AS cs most p s) (hp : p.length ≤ 65535) (hs : s.length ≤ 65535) (sp : Srt p) (ss : Srt s) (hd : RpAt w d.t) (hne : blkOf d.t.A ≠ some g) (hg : goodR d.r = true) :
    Calls Tryz.prog 18 #[.pointer (some ⟨g, 0, none⟩), ddV d] w (TellsREnd w g (tellsB p s most d) most (doesP d.r p s most) (doesS d.r p s most)) := by
  have H := hide h
  have hgl : g < w.heap.size := h.blk.lt
  have hgb : ¬ (w.heap.size = g) := by omega
  have hb0 := Blk.new w 45 (ddL d).toArray
  have hr1 := rangeAt_blk ((ddL d).take 6) (rqL d.r) ((ddL d).drop 24) (show Blk (w.alloc (.cells (ddL d).toArray 45)) w.heap.size 45 _ from hb0)
  have hr2 := rangeAt_blk ((ddL d).take 24) (rpL d.t) [] (show Blk (w.alloc (.cells (ddL d).toArray 45)) w.heap.size 45 _ from (by rw [List.append_nil]; exact hb0))
  rw [show ((ddL d).take 6).length = 6 from rfl] at hr1
  rw [show ((ddL d).take 24).length = 24 from rfl] at hr2
  have hs1 := (Chg.refl (fun _ => False) w).alloc (.cells (ddL d).toArray 45)
  have h2 : (ddL d)[2]? = some (.int .i64 d.rp) := rfl
  have Hs1 := hide hs1
  have Hb0 := hide hb0
  have Hr1 := hide hr1
  have Hr2 := hide hr2
  have Hl1 := hide (rqL_length d.r)
  have Hl2 := hide (rpL_length d.t)
  have HG := hide (fun w' => goodRf_any d.r w')
  have Hz1 : Hid ((w.alloc (.cells (ddL d).toArray 45)).heap.size = w.heap.size + 1) := hide (by simp)
  clear hb0 hr1 hr2 hs1
  have HD := hide (fun w' (hs' : Same w w') => doesRf_any d.r w' (h.same hs') hp hs sp ss hg)
  have HRd := hide hd.rd
  have HLe := hide hd.le
  have HCp := hide hd.cp
  rw [hg] at HG
  have HV := hide (tells_good hg p s most)
  clear h hg hp hs sp ss hd
  obtain ⟨v, hv⟩ : ∃ v, tellsB p s most d = v := ⟨_, rfl⟩
  rw [hv] at HV ⊢
  clear hv
  unfold mustD at HV
  unfold ddV
  unfold rqV at HG HD
  obtain ⟨rp, hrp0⟩ : ∃ rp, d.rp = rp := ⟨_, rfl⟩
  rw [hrp0] at h2 HV
  clear hrp0
  generalize rqL d.r = LQ at *
  generalize ddL d = L at *
  by_cases hm : 0 ≤ rp
  · have Hm := hide hm
    go_enter Tryz.func18, Tryz.ntmps18
    go_wp2_with (first
      | (refine wpList_ld (by rfl) 37 _ rfl w.heap.size 6 rfl LQ _ Hr1.out Tryz.underlying37 rfl (by rw [Hl1.out]; exact infoReq) ?_)
      | (refine wpList_ld (by rfl) 37 _ rfl w.heap.size 6 rfl LQ _ Hr12.out Tryz.underlying37 rfl (by rw [Hl1.out]; exact infoReq) ?_)
      | (go_at_call 33; have hF := HG.out; (with_reducible refine (hF _).mono ?_); rintro e w2 ⟨rfl, hs⟩; have Hs2 := hide (Same.trans Hs1.out hs); have Hr12 := hide (rangeAt_same Hr1.out hs); have hkb := (Hb0.out.same hs).cell; have Hs12 := hide hs; clear hs hF)
      | (go_at_call 34; have hF := HD.out _ Hs2.out; (with_reducible refine hF.mono ?_); rintro e w4 ⟨A, c, rfl, hrp, hset, hc4⟩; have HRP := hide hrp; have HSet := hide hset; have HC4 := hide hc4; have Hb4 := hide ((Hb0.out.same Hs12.out).chg hc4 hgb); have Hr24 := hide (rangeAt_chg (rangeAt_same Hr2.out Hs12.out) hc4 hgb); have hkb4 := ((Hb0.out.same Hs12.out).chg hc4 hgb).cell; have HRd4 := hide ((HRd.out.same Hs2.out).chg hc4 (fun b hb _ e => hne (by rw [hb, e]))); have hz4 : w.heap.size < w4.heap.size := Nat.lt_of_lt_of_le (Nat.lt_of_lt_of_le (by rw [Hz1.out]; omega) Hs12.out.size) hc4.size; obtain ⟨T, hT⟩ : ∃ T, (doesA d.r p s most).at_ A c = T := ⟨_, rfl⟩; have HTa : Hid (T.ans = doesA d.r p s most) := hide (by rw [← hT]; rfl); rw [hT] at HRP ⊢; have h0T : (rpL T)[0]? = some (.int .i64 T.e) := rfl; have Hlt := hide (rpL_length T); have Hot : Hid (∀ u ∈ rpL T, u.oneCell' = true) := hide (by intro u hu; simp [rpL] at hu; rcases hu with rfl | rfl | rfl | rfl | rfl <;> rfl); have HSa := hide (fun w' (ha : RpAt w' T) (hb : RpAt w' d.t) => rsameRf_any T d.t w' ha hb); unfold rpV at HSa ⊢; generalize rpL T = LT at *; generalize rpL d.t = LP at *; clear hrp hset hc4 hF hT)
      | (refine wpList_st rfl 43 _ _ rfl (by rfl) LT (by rfl) _ _ (by rw [Hlt.out]; exact infoRep) (by rw [Hlt.out]; rfl) Hot.out ?_)
      | (refine wpList_ld (by rfl) 43 _ rfl w4.heap.size 0 rfl LT _ (rangeAt_new w4 LT 43) Tryz.underlying43 rfl (by rw [Hlt.out]; exact infoRep) ?_)
      | (refine wpList_ld (by rfl) 43 _ rfl w.heap.size 24 rfl LP _ (rangeAt_same Hr24.out ((Chg.refl (fun _ => False) w4).alloc _)) Tryz.underlying43 rfl (by rw [Hl2.out]; exact infoRep) ?_)
      | (go_at_call 35; have hF := HSa.out _ (HRP.out.same ((Chg.refl (fun _ => False) w4).alloc (.cells LT.toArray 43))) (RpAt.same ⟨HRd4.out, HLe.out, HCp.out⟩ ((Chg.refl (fun _ => False) w4).alloc (.cells LT.toArray 43))); (with_reducible refine hF.mono ?_); rintro e w6 ⟨rfl, hs6⟩; have Hs6 := hide hs6; clear hs6 hF)
      | fail)
    go_ret
    have hal : Same w4 w6 := Same.trans ((Chg.refl (fun _ => False) w4).alloc _) Hs6.out
    obtain ⟨AP4, cp4, AS4, cs4, hset⟩ := HSet.out
    exact ⟨by rw [HV.out, HTa.out, decide_eq_true Hm.out]; rfl, ⟨AP4, cp4, AS4, cs4, hset.same hal⟩, (Chg.of_same Hs2.out HC4.out).same hal⟩
  · have Hm := hide hm
    go_enter Tryz.func18, Tryz.ntmps18
    go_wp2_with (first
      | (refine wpList_ld (by rfl) 37 _ rfl w.heap.size 6 rfl LQ _ Hr1.out Tryz.underlying37 rfl (by rw [Hl1.out]; exact infoReq) ?_)
      | (refine wpList_ld (by rfl) 37 _ rfl w.heap.size 6 rfl LQ _ Hr12.out Tryz.underlying37 rfl (by rw [Hl1.out]; exact infoReq) ?_)
      | (go_at_call 33; have hF := HG.out; (with_reducible refine (hF _).mono ?_); rintro e w2 ⟨rfl, hs⟩; have Hs2 := hide (Same.trans Hs1.out hs); have Hr12 := hide (rangeAt_same Hr1.out hs); have hkb := (Hb0.out.same hs).cell; have Hs12 := hide hs; clear hs hF)
      | (go_at_call 34; have hF := HD.out _ Hs2.out; (with_reducible refine hF.mono ?_); rintro e w4 ⟨A, c, rfl, hrp, hset, hc4⟩; have HRP := hide hrp; have HSet := hide hset; have HC4 := hide hc4; have Hb4 := hide ((Hb0.out.same Hs12.out).chg hc4 hgb); have Hr24 := hide (rangeAt_chg (rangeAt_same Hr2.out Hs12.out) hc4 hgb); have hkb4 := ((Hb0.out.same Hs12.out).chg hc4 hgb).cell; have HRd4 := hide ((HRd.out.same Hs2.out).chg hc4 (fun b hb _ e => hne (by rw [hb, e]))); have hz4 : w.heap.size < w4.heap.size := Nat.lt_of_lt_of_le (Nat.lt_of_lt_of_le (by rw [Hz1.out]; omega) Hs12.out.size) hc4.size; obtain ⟨T, hT⟩ : ∃ T, (doesA d.r p s most).at_ A c = T := ⟨_, rfl⟩; have HTa : Hid (T.ans = doesA d.r p s most) := hide (by rw [← hT]; rfl); rw [hT] at HRP ⊢; have h0T : (rpL T)[0]? = some (.int .i64 T.e) := rfl; have Hlt := hide (rpL_length T); have Hot : Hid (∀ u ∈ rpL T, u.oneCell' = true) := hide (by intro u hu; simp [rpL] at hu; rcases hu with rfl | rfl | rfl | rfl | rfl <;> rfl); have HSa := hide (fun w' (ha : RpAt w' T) (hb : RpAt w' d.t) => rsameRf_any T d.t w' ha hb); unfold rpV at HSa ⊢; generalize rpL T = LT at *; generalize rpL d.t = LP at *; clear hrp hset hc4 hF hT)
      | (refine wpList_st rfl 43 _ _ rfl (by rfl) LT (by rfl) _ _ (by rw [Hlt.out]; exact infoRep) (by rw [Hlt.out]; rfl) Hot.out ?_)
      | (refine wpList_ld (by rfl) 43 _ rfl w4.heap.size 0 rfl LT _ (rangeAt_new w4 LT 43) Tryz.underlying43 rfl (by rw [Hlt.out]; exact infoRep) ?_)
      | (refine wpList_ld (by rfl) 43 _ rfl w.heap.size 24 rfl LP _ (rangeAt_same Hr24.out ((Chg.refl (fun _ => False) w4).alloc _)) Tryz.underlying43 rfl (by rw [Hl2.out]; exact infoRep) ?_)
      | (go_at_call 35; have hF := HSa.out _ (HRP.out.same ((Chg.refl (fun _ => False) w4).alloc (.cells LT.toArray 43))) (RpAt.same ⟨HRd4.out, HLe.out, HCp.out⟩ ((Chg.refl (fun _ => False) w4).alloc (.cells LT.toArray 43))); (with_reducible refine hF.mono ?_); rintro e w6 ⟨rfl, hs6⟩; have Hs6 := hide hs6; clear hs6 hF)
      | fail)
    go_ret
    have hal : Same w4 (w4.alloc (.cells LT.toArray 43)) := (Chg.refl (fun _ => False) w4).alloc _
    obtain ⟨AP4, cp4, AS4, cs4, hset⟩ := HSet.out
    have hTe := congrArg Ans.e HTa.out
    exact ⟨(show Ending.returned (.bool (T.e == 0)) = .returned (.bool v) from ret_bool (by rw [HV.out, decide_eq_false (show ¬ 0 ≤ rp by have := Hm.out; omega), ← HTa.out, if_neg (by decide)]; rw [Bool.eq_iff_iff]; simp only [Rp.ans, beq_iff_eq]; exact ⟨fun h => decide_eq_true h, fun h => of_decide_eq_true h⟩)), ⟨AP4, cp4, AS4, cs4, hset.same hal⟩, (Chg.of_same Hs2.out HC4.out).same hal⟩
theorem tellsRf_any {g cp cs : Nat} {AP AS : Option Addr} {most : Int} {p s : List P3} (d : Dd) (w : World) (h : SetR w g AP cp AS cs most p s) (hp : p.length ≤ 65535) (hs : s.length ≤ 65535) (sp : Srt p) (ss : Srt s) (hd : RpAt w d.t) (hne : blkOf d.t.A ≠ some g) :
    Calls Tryz.prog 18 #[.pointer (some ⟨g, 0, none⟩), ddV d] w (TellsREnd w g (tellsB p s most d) most (doesP d.r p s most) (doesS d.r p s most)) := by
  cases hg : goodR d.r
  · obtain ⟨e1, e2, e3⟩ := tells_bad hg p s most
    rw [e1, e2, e3]
    exact tellsRf_bad d w h hg
  · exact tellsRf_good d w h hp hs sp ss hd hne hg
end Go.Proofs.YtenkdjfikppkdaaGreat
/-! RfS -/
namespace Go.Proofs.YtenkdjfikppkdaaGreat
open Go.RowKit Go.Al
set_option linter.unusedVariables false

/-- how Search ends -/
def SrEnd (w : World) (res : Option (List Int)) (e : Ending) (w' : World) : Prop :=
  ∃ A c, e = .returned (.tuple #[.slice A (res.getD []).length c, .bool res.isSome]) ∧ Rd w' A (is (res.getD [])) ∧ (res.getD []).length ≤ c ∧ c ≤ maxLen ∧ Same w w'
/-- what turn i finds -/
def stepT (l : List Dd) (most : Int) (p s : List P3) (done : List Int) (gS : Int → Option (List Int)) (i : Nat) : Option (List Int) :=
  if freeB l done i then (match l[i]? with | some d => if tellsB p s most d then gS i else none | none => none) else none
theorem stepT_free {l : List Dd} {most : Int} {p s : List P3} {done : List Int} {gS : Int → Option (List Int)} {i : Nat} (h : freeB l done i = false) : stepT l most p s done gS i = none := by
  unfold stepT
  rw [h]
  rfl
theorem stepT_tells {l : List Dd} {most : Int} {p s : List P3} {done : List Int} {gS : Int → Option (List Int)} {i : Nat} (hi : i < l.length) (h : tellsB p s most l[i] = false) : stepT l most p s done gS i = none := by
  unfold stepT
  rw [List.getElem?_eq_getElem hi]
  simp [h]
theorem stepT_goes {l : List Dd} {most : Int} {p s : List P3} {done : List Int} {gS : Int → Option (List Int)} {i : Nat} (hi : i < l.length) (hf : freeB l done i = true) (h : tellsB p s most l[i] = true) : stepT l most p s done gS i = gS i := by
  unfold stepT
  rw [List.getElem?_eq_getElem hi, hf]
  simp [h]
theorem far_same {w w' : World} {A : Option Addr} {l : List Dd} (h : FarD w.heap.size A l) (hs : w.heap.size ≤ w'.heap.size) : FarD w'.heap.size A l :=
  ⟨fun b hb => Nat.lt_of_lt_of_le (h.1 b hb) hs, fun d hd b hb => Nat.lt_of_lt_of_le (h.2 d hd b hb) hs⟩
theorem sr_some {w w' : World} {A' : Option Addr} {c' n : Nat} {res : Option (List Int)} {r : List Int} (hr : res = some r) (hn : r.length = n) (h1 : Rd w' A' (is r)) (h2 : r.length ≤ c') (h3 : c' ≤ maxLen) (hs : Same w w') : SrEnd w res (.returned (.tuple #[.slice A' n c', .bool true])) w' := by
  subst hr
  subst hn
  exact ⟨A', c', rfl, h1, h2, h3, hs⟩
theorem sr_none {w w' : World} {A' : Option Addr} {c' : Nat} {res : Option (List Int)} (hr : res = none) (h3 : c' ≤ maxLen) (hs : Same w w') : SrEnd w res (.returned (.tuple #[.slice A' 0 c', .bool false])) w' := by
  subst hr
  exact ⟨A', c', rfl, Rd.nil _ _, Nat.zero_le _, h3, hs⟩
set_option maxRecDepth 100000 in
set_option maxHeartbeats 16000000 in
theorem searchRf_step {A B : Option Addr} {c c2 : Nat} {l : List Dd} {most : Int} (hl : l.length ≤ 7) (hlc : l.length ≤ c) (p s : List P3) (done : List Int) (gS : Int → Option (List Int)) (res : Option (List Int))
    (h1 : explainsB l done = true → res = some done) (h2 : explainsB l done = false → res = (List.range l.length).findSome? (stepT l most p s done gS)) (hdl : done.length ≤ 7) (hp : p.length ≤ 65534) (hs : s.length ≤ 65534) (sp : Srt p) (ss : Srt s)
    (w : World) (g cp cs : Nat) (AP AS : Option Addr) (h : Dds w A l) (hfar : FarD w.heap.size A l) (hset : SetR w g AP cp AS cs most p s) (hB : Rd w B (is done)) (hc2 : done.length ≤ c2 ∧ c2 ≤ maxLen)
    (HRec : ∀ (i : Nat) (hi : i < l.length), freeB l done i = true → tellsB p s most l[i] = true → ∀ (w' : World) (g' cp' cs' : Nat) (AP' AS' : Option Addr) (B' : Option Addr) (c' : Nat), Dds w' A l → FarD w'.heap.size A l → SetR w' g' AP' cp' AS' cs' most (doesP l[i].r p s most) (doesS l[i].r p s most) → Rd w' B' (is (done ++ [(i : Int)])) → done.length + 1 ≤ c' ∧ c' ≤ maxLen →
      Calls Tryz.prog 8 #[.slice A l.length c, .pointer (some ⟨g', 0, none⟩), .slice B' (done.length + 1) c'] w' (SrEnd w' (gS i))) :
    Calls Tryz.prog 8 #[.slice A l.length c, .pointer (some ⟨g, 0, none⟩), .slice B done.length c2] w (SrEnd w res) := by
  have H := hide h
  have HSet := hide hset
  have HB := hide hB
  have HFar := hide hfar
  have HEx := hide (explainsRf_any (c := c) (c2 := c2) w h hB (by omega) (by unfold maxLen; omega))
  have HCl := hide (fun w' (hs' : Same w w') => cloneRf_any w' (hset.same hs') (by omega) (by omega))
  have HFr := hide (fun (i : Nat) (hi : i < l.length) w' (hs' : Same w w') => freeRf_any (c := c) (c2 := c2) (i := i) w' (h.same hs') (hB.same hs') (by omega) (by unfold maxLen; omega) hi hlc)
  have HTl := hide (fun (i : Nat) (hi : i < l.length) w' g' AP' cp' AS' cs' (hs' : Same w w') (hg' : w.heap.size ≤ g') (hset' : SetR w' g' AP' cp' AS' cs' most p s) => tellsRf_any l[i] w' hset' (by omega) (by omega) sp ss (by obtain ⟨_, _, _, _, _, hr⟩ := (h.same hs').at_ hi; exact hr) (fun e => by have := hfar.2 l[i] (List.getElem_mem hi) g' e; omega))
  have HRe := hide HRec
  obtain ⟨n, hn⟩ : ∃ n, l.length = n := ⟨_, rfl⟩
  obtain ⟨m, hm⟩ : ∃ m, done.length = m := ⟨_, rfl⟩
  have Hn := hide hn
  have Hm := hide hm
  have h8 : m ≤ 7 := by omega
  have h8b : decide (8 < (m : Int)) = false := by simp; omega
  have HLis := hide (show (is done).length = m * 1 by rw [is_length, hm]; omega)
  have Hb8 := hide (show m * 8 ≤ 140737488355328 ∧ m ≤ 140737488355328 by omega)
  have HC2 := hide hc2
  rw [hn] at HEx
  rw [hm] at HEx
  rw [hn, hm]
  have hn7 : n ≤ 7 := by omega
  clear h hset hB hfar hp hs sp ss hn hm HRec hl hdl hc2
  obtain ⟨v, hv⟩ : ∃ v, explainsB l done = v := ⟨_, rfl⟩
  rw [hv] at HEx h1 h2
  clear hv
  cases v
  case true =>
    have HR := hide (h1 rfl)
    clear h1 h2
    go_enter Tryz.func8, Tryz.ntmps8
    go_wp2_with (first
      | (go_at_call 15; have hF := HEx.out; (with_reducible refine hF.mono ?_); rintro e w1 ⟨rfl, hs⟩; have HS1 := hide hs; clear hs hF)
      | fail)
    go_ret2
    exact sr_some HR.out Hm.out (HB.out.same HS1.out) HC2.out.1 HC2.out.2 HS1.out
  have HR := hide (h2 rfl)
  clear h1 h2
  go_enter Tryz.func8, Tryz.ntmps8
  go_wp2_with (first
    | (go_at_call 15; have hF := HEx.out; (with_reducible refine hF.mono ?_); rintro e w0 ⟨rfl, hs⟩; have HS0 := hide hs; clear hs hF)
    | fail)
  go_loopg [8] n (fun kk vi wr => ∃ i : Nat, i ≤ n ∧ kk = n - i ∧ vi = .int .i64 i ∧ Same w wr ∧ ∀ j, j < i → stepT l most p s done gS j = none)
  case atStart => exact ⟨0, Nat.zero_le _, rfl, rfl, HS0.out, fun j hj => by omega⟩
  case round =>
    obtain ⟨i, hi, hkk, rfl, hsm, hall⟩ := hrel
    have Hk := hide hkk
    have Hsm := hide hsm
    have Hall := hide hall
    clear hkk hsm hall HS0
    by_cases hlt : i < n
    · have hil : i < l.length := by rw [Hn.out]; exact hlt
      obtain ⟨b, off, rfl, hbl, hra, hrp⟩ := (H.out.same Hsm.out).at_ hil
      have Hra0 := hide hra
      have Hra := hide (show w.rangeAt b (off + i * 29) (ddL l[i]) from by obtain ⟨b', off', e, _, hra', _⟩ := H.out.at_ hil; cases e; exact hra')
      have Hlx := hide (ddL_length l[i])
      have HFri := hide (HFr.out i hil)
      have HTli := hide (HTl.out i hil)
      rw [Hn.out, Hm.out] at HFri
      clear HFr HTl hra hrp hbl
      have HFr := HFri
      have HTl := HTli
      clear HFri HTli
      have HRei := hide (HRe.out i hil)
      have Hst1 := hide (fun hf => stepT_free (l := l) (most := most) (p := p) (s := s) (done := done) (gS := gS) (i := i) hf)
      have Hst2 := hide (fun ht => stepT_tells (l := l) (most := most) (p := p) (s := s) (done := done) (gS := gS) hil ht)
      have Hst3 := hide (fun hf ht => stepT_goes (l := l) (most := most) (p := p) (s := s) (done := done) (gS := gS) hil hf ht)
      unfold ddV at HTl
      obtain ⟨x, hx⟩ : ∃ x, l[i] = x := ⟨_, rfl⟩
      rw [hx] at HTl HRei Hst2 Hst3 Hra Hra0 Hlx
      obtain ⟨tv, htv⟩ : ∃ tv, tellsB p s most x = tv := ⟨_, rfl⟩
      rw [htv] at HTl HRei Hst2 Hst3
      obtain ⟨fv, hfv⟩ : ∃ fv, freeB l done i = fv := ⟨_, rfl⟩
      rw [hfv] at HFr HRei Hst1 Hst3
      have Hil := hide hil
      clear htv hfv hx hil
      obtain ⟨LX, hLX⟩ : ∃ LX, ddL x = LX := ⟨_, rfl⟩
      rw [hLX] at HTl Hra Hra0 Hlx
      clear hLX
      cases fv
      · go_wp2_with (first
          | (go_at_call 16; have hF := HCl.out _ Hsm.out; (with_reducible refine hF.mono ?_); rintro e w1 ⟨g1, AP1, cp1, AS1, cs1, rfl, hset1, hs1, hg1, _, _⟩; have HSet1 := hide hset1; have HS1 := hide (Same.trans Hsm.out hs1); have HG1 : Hid (w.heap.size ≤ g1) := hide (Nat.le_trans Hsm.out.size hg1); clear hset1 hs1 hg1 hF)
          | (go_at_call 17; have hF := HFr.out _ HS1.out; (with_reducible refine hF.mono ?_); rintro e w2 ⟨rfl, hs⟩; have HS12 := hide hs; have HS2 := hide (Same.trans HS1.out hs); clear hs hF)
          | fail)
        go_roundg (n - (i + 1))
        case measure => have := Hk.out; omega
        case rel => exact ⟨i + 1, by omega, rfl, by go_num, HS2.out, fun j hj => by
          by_cases hji : j < i
          · exact Hall.out j hji
          · obtain rfl : j = i := by omega
            exact Hst1.out (by first | rfl | trivial)⟩
      cases tv
      · go_wp2_with (first
          | (go_at_call 16; have hF := HCl.out _ Hsm.out; (with_reducible refine hF.mono ?_); rintro e w1 ⟨g1, AP1, cp1, AS1, cs1, rfl, hset1, hs1, hg1, _, _⟩; have HSet1 := hide hset1; have HS1 := hide (Same.trans Hsm.out hs1); have HG1 : Hid (w.heap.size ≤ g1) := hide (Nat.le_trans Hsm.out.size hg1); clear hset1 hs1 hg1 hF)
          | (go_at_call 17; have hF := HFr.out _ HS1.out; (with_reducible refine hF.mono ?_); rintro e w2 ⟨rfl, hs⟩; have HS12 := hide hs; have HS2 := hide (Same.trans HS1.out hs); clear hs hF)
          | (refine wpList_ld (by rfl) 45 _ rfl b (off + i * 29) rfl LX _ (rangeAt_same Hra.out HS2.out) Tryz.underlying45 rfl (by rw [Hlx.out]; exact infoDeed) ?_)
          | (go_at_call 18; have hF := HTl.out _ _ _ _ _ _ HS2.out HG1.out (HSet1.out.same HS12.out); (with_reducible refine hF.mono ?_); rintro e w3 ⟨rfl, hset3, hc3⟩; obtain ⟨AP3, cp3, AS3, cs3, hset3⟩ := hset3; have HSet3 := hide hset3; have HC3 : Hid (Same w w3) := hide (Chg.fresh (S := fun k => w.heap.size ≤ k) (Chg.trans (HS2.out.to) hc3 fun k _ e => by subst e; exact HG1.out) fun _ h => h); clear hset3 hc3 hF)
          | fail)
        go_roundg (n - (i + 1))
        case measure => have := Hk.out; omega
        case rel => exact ⟨i + 1, by omega, rfl, by go_num, HC3.out, fun j hj => by
          by_cases hji : j < i
          · exact Hall.out j hji
          · obtain rfl : j = i := by omega
            exact Hst2.out (by first | rfl | trivial)⟩
      have HRq := hide (HRei.out rfl rfl)
      have Hst := hide (Hst3.out rfl rfl)
      clear HRei Hst1 Hst2 Hst3
      rw [Hn.out, Hm.out] at HRq
      obtain ⟨gv, hgv⟩ : ∃ gv, gS (i : Int) = gv := ⟨_, rfl⟩
      rw [hgv] at HRq Hst
      clear hgv
      cases gv with
      | none =>
        go_wp2_with (first
          | (go_at_call 16; have hF := HCl.out _ Hsm.out; (with_reducible refine hF.mono ?_); rintro e w1 ⟨g1, AP1, cp1, AS1, cs1, rfl, hset1, hs1, hg1, _, _⟩; have HSet1 := hide hset1; have HS1 := hide (Same.trans Hsm.out hs1); have HG1 : Hid (w.heap.size ≤ g1) := hide (Nat.le_trans Hsm.out.size hg1); clear hset1 hs1 hg1 hF)
          | (go_at_call 17; have hF := HFr.out _ HS1.out; (with_reducible refine hF.mono ?_); rintro e w2 ⟨rfl, hs⟩; have HS12 := hide hs; have HS2 := hide (Same.trans HS1.out hs); clear hs hF)
          | (refine wpList_ld (by rfl) 45 _ rfl b (off + i * 29) rfl LX _ (rangeAt_same Hra.out HS2.out) Tryz.underlying45 rfl (by rw [Hlx.out]; exact infoDeed) ?_)
          | (go_at_call 18; have hF := HTl.out _ _ _ _ _ _ HS2.out HG1.out (HSet1.out.same HS12.out); (with_reducible refine hF.mono ?_); rintro e w3 ⟨rfl, hset3, hc3⟩; obtain ⟨AP3, cp3, AS3, cs3, hset3⟩ := hset3; have HSet3 := hide hset3; have HC3 : Hid (Same w w3) := hide (Chg.fresh (S := fun k => w.heap.size ≤ k) (Chg.trans (HS2.out.to) hc3 fun k _ e => by subst e; exact HG1.out) fun _ h => h); clear hset3 hc3 hF)
          | (at_builtin; refine wpList_appS (by rfl) (.tmp 46) (.tmp 47) _ (by rfl) slI (by rfl) (base := w3.heap.size) (own_lit w3 w3.heap.size _ 1 #[] 0 (Nat.le_refl _) (by decide) rfl) (by rfl) HLis.out ((HB.out.same HC3.out).alloc _) (one_is done) (by have := Hb8.out.1; omega) (by have := Hb8.out.2; omega) (by simp) ?_; intro A5 c5 w5 hown hc hb; have HS35 := hide (Same.app ((Chg.refl (fun _ => False) w3).alloc _) (own_lit w3 w3.heap.size _ 1 #[] 0 (Nat.le_refl _) (by decide) rfl) (Nat.le_refl _) hc); simp only [Nat.zero_add, List.nil_append] at hown; have Hown5 := hide hown; clear hown hc hb)
          | (at_builtin; refine wpList_appS (by rfl) (.tmp 48) (.tmp 50) _ (by rfl) slI (by rfl) (base := w3.heap.size) (by exact own_chg Hown5.out ((Chg.refl (fun _ => False) w5).alloc _) (fun _ _ h => h)) (by rfl) (by rfl) (by exact rd_new w5 _ _) (one_is [(i : Int)]) (by have := Hb8.out.1; omega) (by have := Hb8.out.2; omega) (by have := HS35.out.size; simp; omega) ?_; intro A7 c7 w7 hown hc hb; have HS37 := hide (Same.app1 HS35.out Hown5.out (Nat.le_refl _) hc); have Hown7 := hide hown; clear hown hc hb)
          | (go_at_call 8; have hF := HRq.out w7 g1 cp3 cs3 AP3 AS3 A7 c7 (H.out.same (Same.trans HC3.out HS37.out)) (far_same HFar.out (Same.trans HC3.out HS37.out).size) (HSet3.out.same HS37.out) (by rw [is_append]; exact own_rd Hown7.out) (by obtain ⟨_, _, e, h1, _, _, _, h2, _⟩ := own_form Hown7.out; cases e; exact ⟨h1, h2⟩); (with_reducible refine hF.mono ?_); rintro e w8 ⟨A8, c8, rfl, hr8, hl8, hm8, hs8⟩; have HR8 := hide hr8; have HL8 := hide hl8; have HM8 := hide hm8; have HS8 := hide (Same.trans (Same.trans HC3.out HS37.out) hs8); clear hr8 hl8 hm8 hs8 hF)
          | fail)
        go_roundg (n - (i + 1))
        case measure => have := Hk.out; omega
        case rel => exact ⟨i + 1, by omega, rfl, by go_num, HS8.out, fun j hj => by
          by_cases hji : j < i
          · exact Hall.out j hji
          · obtain rfl : j = i := by omega
            exact Hst.out⟩
      | some r =>
        go_wp2_with (first
          | (go_at_call 16; have hF := HCl.out _ Hsm.out; (with_reducible refine hF.mono ?_); rintro e w1 ⟨g1, AP1, cp1, AS1, cs1, rfl, hset1, hs1, hg1, _, _⟩; have HSet1 := hide hset1; have HS1 := hide (Same.trans Hsm.out hs1); have HG1 : Hid (w.heap.size ≤ g1) := hide (Nat.le_trans Hsm.out.size hg1); clear hset1 hs1 hg1 hF)
          | (go_at_call 17; have hF := HFr.out _ HS1.out; (with_reducible refine hF.mono ?_); rintro e w2 ⟨rfl, hs⟩; have HS12 := hide hs; have HS2 := hide (Same.trans HS1.out hs); clear hs hF)
          | (refine wpList_ld (by rfl) 45 _ rfl b (off + i * 29) rfl LX _ (rangeAt_same Hra.out HS2.out) Tryz.underlying45 rfl (by rw [Hlx.out]; exact infoDeed) ?_)
          | (go_at_call 18; have hF := HTl.out _ _ _ _ _ _ HS2.out HG1.out (HSet1.out.same HS12.out); (with_reducible refine hF.mono ?_); rintro e w3 ⟨rfl, hset3, hc3⟩; obtain ⟨AP3, cp3, AS3, cs3, hset3⟩ := hset3; have HSet3 := hide hset3; have HC3 : Hid (Same w w3) := hide (Chg.fresh (S := fun k => w.heap.size ≤ k) (Chg.trans (HS2.out.to) hc3 fun k _ e => by subst e; exact HG1.out) fun _ h => h); clear hset3 hc3 hF)
          | (at_builtin; refine wpList_appS (by rfl) (.tmp 46) (.tmp 47) _ (by rfl) slI (by rfl) (base := w3.heap.size) (own_lit w3 w3.heap.size _ 1 #[] 0 (Nat.le_refl _) (by decide) rfl) (by rfl) HLis.out ((HB.out.same HC3.out).alloc _) (one_is done) (by have := Hb8.out.1; omega) (by have := Hb8.out.2; omega) (by simp) ?_; intro A5 c5 w5 hown hc hb; have HS35 := hide (Same.app ((Chg.refl (fun _ => False) w3).alloc _) (own_lit w3 w3.heap.size _ 1 #[] 0 (Nat.le_refl _) (by decide) rfl) (Nat.le_refl _) hc); simp only [Nat.zero_add, List.nil_append] at hown; have Hown5 := hide hown; clear hown hc hb)
          | (at_builtin; refine wpList_appS (by rfl) (.tmp 48) (.tmp 50) _ (by rfl) slI (by rfl) (base := w3.heap.size) (by exact own_chg Hown5.out ((Chg.refl (fun _ => False) w5).alloc _) (fun _ _ h => h)) (by rfl) (by rfl) (by exact rd_new w5 _ _) (one_is [(i : Int)]) (by have := Hb8.out.1; omega) (by have := Hb8.out.2; omega) (by have := HS35.out.size; simp; omega) ?_; intro A7 c7 w7 hown hc hb; have HS37 := hide (Same.app1 HS35.out Hown5.out (Nat.le_refl _) hc); have Hown7 := hide hown; clear hown hc hb)
          | (go_at_call 8; have hF := HRq.out w7 g1 cp3 cs3 AP3 AS3 A7 c7 (H.out.same (Same.trans HC3.out HS37.out)) (far_same HFar.out (Same.trans HC3.out HS37.out).size) (HSet3.out.same HS37.out) (by rw [is_append]; exact own_rd Hown7.out) (by obtain ⟨_, _, e, h1, _, _, _, h2, _⟩ := own_form Hown7.out; cases e; exact ⟨h1, h2⟩); (with_reducible refine hF.mono ?_); rintro e w8 ⟨A8, c8, rfl, hr8, hl8, hm8, hs8⟩; have HR8 := hide hr8; have HL8 := hide hl8; have HM8 := hide hm8; have HS8 := hide (Same.trans (Same.trans HC3.out HS37.out) hs8); clear hr8 hl8 hm8 hs8 hF)
          | fail)
        go_ret2
        exact sr_some (HR.out.trans (range_some Hil.out (fun k hk => Hall.out k hk) Hst.out)) rfl HR8.out HL8.out HM8.out HS8.out
    · go_wp2_with fail
      go_ret2
      have hie : n = i := by omega
      subst hie
      refine sr_none (HR.out.trans (range_none fun k hk => Hall.out k (by have := Hn.out; omega))) (Nat.zero_le _) (Hsm.out.alloc _)
end Go.Proofs.YtenkdjfikppkdaaGreat
/-! RfT -/
namespace Go.Proofs.YtenkdjfikppkdaaGreat
open Go.RowKit Go.Al
set_option linter.unusedVariables false

theorem all_none {l : List Dd} {done : List Int} (h : allL l done = []) {k : Nat} (hk : k < l.length) : freeB l done k = false := by
  cases hf : freeB l done k with
  | false => rfl
  | true =>
    have : (k : Int) ∈ allL l done := mem_allL.2 ⟨k, hk, rfl, hf⟩
    rw [h] at this
    cases this
/-- what a turn goes on with -/
def goS (l : List Dd) (most : Int) (f : Nat) (p s : List P3) (done : List Int) (i : Int) : Option (List Int) :=
  match l[i.toNat]? with
  | some d => srch l most f (doesP d.r p s most) (doesS d.r p s most) (done ++ [i])
  | none => none
theorem goS_at {l : List Dd} {most : Int} {f : Nat} {p s : List P3} {done : List Int} {i : Nat} (hi : i < l.length) : goS l most f p s done (i : Int) = srch l most f (doesP l[i].r p s most) (doesS l[i].r p s most) (done ++ [(i : Int)]) := by
  unfold goS
  rw [Int.toNat_natCast, List.getElem?_eq_getElem hi]
theorem turn_srch {l : List Dd} {most : Int} {f : Nat} {p s : List P3} {done : List Int} (h : explainsB l done = false) : srch l most (f + 1) p s done = (List.range l.length).findSome? (stepT l most p s done (goS l most f p s done)) := by
  rw [srch_succ h]
  unfold allL
  rw [find_filter]
  congr 1
  funext k
  unfold stepT
  by_cases hf : freeB l done k = true
  · rw [if_pos hf, if_pos hf]
    unfold stepS goS
    rw [Int.toNat_natCast]
    cases l[k]? with
    | none => rfl
    | some d => rfl
  · rw [if_neg hf, if_neg hf]
theorem searchRf_any {A : Option Addr} {c : Nat} {l : List Dd} {most : Int} (hl : l.length ≤ 7) (hlc : l.length ≤ c) : ∀ (f : Nat) (p s : List P3) (done : List Int), Done l.length done → l.length ≤ done.length + f → p.length ≤ done.length → s.length ≤ done.length → Srt p → Srt s →
    ∀ (w : World) (g cp cs : Nat) (AP AS B : Option Addr) (c2 : Nat), Dds w A l → FarD w.heap.size A l → SetR w g AP cp AS cs most p s → Rd w B (is done) → done.length ≤ c2 ∧ c2 ≤ maxLen →
      Calls Tryz.prog 8 #[.slice A l.length c, .pointer (some ⟨g, 0, none⟩), .slice B done.length c2] w (SrEnd w (srch l most f p s done)) := by
  intro f
  induction f with
  | zero =>
    intro p s done hd hf hp hs sp ss w g cp cs AP AS B c2 h hfar hset hB hc2
    have hdl := hd.le
    have hall := hd.full (by omega)
    refine searchRf_step hl hlc p s done (fun _ => none) _ (fun hx => srch_done hx 0 p s) (fun hx => ?_) (by omega) (by omega) (by omega) sp ss w g cp cs AP AS h hfar hset hB hc2 fun i hi hfr => ?_
    · rw [srch_zero hx]
      exact (range_none fun k hk => stepT_free (all_none hall hk)).symm
    · rw [all_none hall hi] at hfr
      cases hfr
  | succ f ih =>
    intro p s done hd hf hp hs sp ss w g cp cs AP AS B c2 h hfar hset hB hc2
    have hdl := hd.le
    refine searchRf_step hl hlc p s done (goS l most f p s done) _ (fun hx => srch_done hx _ p s) (fun hx => turn_srch hx) (by omega) (by omega) (by omega) sp ss w g cp cs AP AS h hfar hset hB hc2 fun i hi hfr _ w' g' cp' cs' AP' AS' B' c' h' hfar' hset' hB' hc' => ?_
    rw [goS_at hi]
    have hln := does_len l[i].r p s most
    have hst := does_srt l[i].r most sp ss
    have := ih (doesP l[i].r p s most) (doesS l[i].r p s most) (done ++ [(i : Int)]) (hd.snoc (by omega) (by omega) (free_new hfr)) (by rw [List.length_append]; simp; omega) (by rw [List.length_append]; simp; omega) (by rw [List.length_append]; simp; omega) hst.1 hst.2 w' g' cp' cs' AP' AS' B' c' h' hfar' hset' hB' (by rw [List.length_append]; exact hc')
    rw [List.length_append] at this
    exact this
/-- from an empty set on -/
theorem searchRf_all {A : Option Addr} {c : Nat} {l : List Dd} {most : Int} (hl : l.length ≤ 7) (hlc : l.length ≤ c) (w : World) (g : Nat) (B : Option Addr) (c2 : Nat) (h : Dds w A l) (hfar : FarD w.heap.size A l) (hb : Blk w g 56 #[.slice none 0 0, .slice none 0 0, .int .i64 most]) (hc2 : c2 ≤ maxLen) :
    Calls Tryz.prog 8 #[.slice A l.length c, .pointer (some ⟨g, 0, none⟩), .slice B 0 c2] w (SrEnd w (found l most)) := by
  have hr : Row3 w none 0 0 [] := ⟨Rd.nil _ _, rfl, Nat.le_refl _, Nat.zero_le _, fun b hb => by simp [blkOf] at hb⟩
  exact searchRf_any hl hlc l.length [] [] [] ⟨List.nodup_nil, fun x hx => by cases hx⟩ (by simp) (Nat.le_refl _) (Nat.le_refl _) List.Pairwise.nil List.Pairwise.nil w g 0 0 none none B c2 h hfar ⟨hb, hr, hr, by simp [blkOf], by simp [blkOf]⟩ (Rd.nil _ _) ⟨Nat.zero_le _, hc2⟩
end Go.Proofs.YtenkdjfikppkdaaGreat
/-! LnS -/
namespace Go.Proofs.YtenkdjfikppkdaaGreat
open Go.RowKit Go.Al
set_option linter.unusedVariables false

/-- how the law's own cut ends: operations in memory of their own -/
def FewOf (w : World) (l1 : List Dd) (e : Ending) (w' : World) : Prop :=
  ∃ A c l, e = .returned (.slice A l1.length c) ∧ Dds w' A l ∧ FarD w'.heap.size A l ∧ l.length = l1.length ∧ l1.length ≤ c ∧ l.map strip = l1.map strip ∧ Same w w'
theorem strip_rq {l m : List Dd} (h : l.map strip = m.map cutD) {P : Rq → Prop} (hm : ∀ d ∈ m, P d.r) : ∀ d ∈ l, P d.r := by
  intro d hd
  have h1 : strip d ∈ m.map cutD := by rw [← h]; exact List.mem_map.2 ⟨d, hd, rfl⟩
  obtain ⟨x, hx, he⟩ := List.mem_map.1 h1
  have h2 : d.r = x.r := by
    have := congrArg Dd.r he
    exact this.symm
  rw [h2]
  exact hm x hx
theorem strip_ln {l m : List Dd} (h : l.map strip = m.map cutD) : l.length = m.length := by
  have := congrArg List.length h
  simpa using this

/-- what the search tells, over what the law has laid -/
theorem few_pack {w w' : World} {base c : Nat} {A : Option Addr} {l : List Dd} (hown : w'.ownsRow base 45 29 (.slice A l.length c) l.length (flatD l)) (hrp : ∀ d ∈ l, RpAt w' d.t) (hbl : ∀ d ∈ l, ∀ b, blkOf d.t.A = some b → w.heap.size ≤ b ∧ b < w'.heap.size ∧ blkOf A ≠ some b) :
    Dds w' A l ∧ FarD w'.heap.size A l ∧ l.length ≤ c :=
  ⟨dds_own hown hrp, ⟨fun b hb => (hown.lt b (by rw [ownBlock_slice]; exact hb)).2, fun d hd b hb => (hbl d hd b hb).2.1⟩, by obtain ⟨_, _, e, h1, _⟩ := own_form hown; cases e; exact h1⟩
theorem strip_r2 {l m : List Dd} (h : l.map strip = m.map strip) {P : Rq → Prop} (hm : ∀ d ∈ m, P d.r) : ∀ d ∈ l, P d.r := fun d hd => by
  have h1 : strip d ∈ m.map strip := by rw [← h]; exact List.mem_map_of_mem hd
  obtain ⟨x, hx, e⟩ := List.mem_map.1 h1
  have h2 : x.r = d.r := (congrArg Dd.r e : (strip x).r = (strip d).r)
  rw [← h2]
  exact hm x hx
theorem few_of {A : Option Addr} {c : Nat} {l1 src : List Dd} (w : World) (h : Dds w A l1) (h7 : l1.length ≤ 7) (hm : l1.map strip = src.map cutD) :
    Calls Tryz.prog 5 #[.slice A l1.length c, .int .i64 7] w (FewOf w l1) :=
  (few_any 7 w h (by unfold maxLen; omega) (by decide)).mono fun e w' ⟨A2, c2, l2, he, hown, hrp, hbl, hmap, hs⟩ => by
    have hst := few_twice hm hmap h7
    have hl : l2.length = l1.length := by have := congrArg List.length hst; simpa using this
    obtain ⟨h1, h2, h3⟩ := few_pack hown hrp hbl
    exact ⟨A2, c2, l2, by rw [he, hl], h1, h2, hl, by omega, hst, hs⟩
/-- the code's search over operations cut again -/
theorem search_of {A : Option Addr} {c : Nat} {l l1 : List Dd} {most : Int} (w : World) (h1 : 1 ≤ most) (h2 : most ≤ 1048576) (h : Dds w A l) (hfar : FarD w.heap.size A l) (hl : l.length = l1.length) (h7 : l1.length ≤ 7) (hc : l1.length ≤ c) (hst : l.map strip = l1.map strip) (hwf : ∀ d ∈ l1, WfC d.r.c) :
    Calls Tryz.prog 6 #[.slice A l1.length c, .int .i64 most] w fun e w' => ∃ A' c', e = .returned (.tuple #[.slice A' ((found l1 most).getD []).length c', .int .i64 (if (found l1 most).isSome then 0 else 6)]) ∧ ((found l1 most).getD []).length ≤ c' ∧ Rd w' A' (is ((found l1 most).getD [])) ∧ Same w w' := by
  rw [← found_strip hst, ← hl]
  exact Search_anyC most w h1 h2 h (by omega) (by omega) hfar (strip_r2 (P := fun r => WfC r.c) hst hwf)
theorem fits_of {A B : Option Addr} {c c2 : Nat} {l l1 : List Dd} {most : Int} {r : List Int} (w : World) (h1 : 1 ≤ most) (h2 : most ≤ 1048576) (h : Dds w A l) (hfar : FarD w.heap.size A l) (hl : l.length = l1.length) (h7 : l1.length ≤ 7) (hc : l1.length ≤ c) (hst : l.map strip = l1.map strip) (hwf : ∀ d ∈ l1, WfC d.r.c)
    (hB : Rd w B (is r)) (hc2 : r.length ≤ c2) (hf : found l1 most = some r) :
    Calls Tryz.prog 10 #[.slice A l1.length c, .int .i64 most, .slice B r.length c2] w fun e w' => e = .returned (.bool true) ∧ Same w w' := by
  obtain ⟨hp, hd, hx⟩ := found_fits hf
  rw [← hl]
  have := hd.le
  exact fits_any w h1 h2 h (by omega) (by omega) hfar (strip_r2 (P := fun r => WfC r.c) hst hwf) hB (by omega) hc2 (fits_strip hst.symm hp) (by rw [← explains_strip, hst, explains_strip]; exact hx)
theorem eqI_refl (r : List Int) : eqI r r = true := by simp [eqI]
set_option maxRecDepth 100000 in
set_option maxHeartbeats 8000000 in
theorem linearSearch_any (a0 : Option Addr) (len0 cap0 : Nat) (l0 : List Dd) (most : Int) (w : World) (w0 : IsDeeds w a0 len0 cap0 l0) :
    Calls Tryz.prog 4 #[.slice a0 len0 cap0, .int .i64 most] w fun e w' => e = .returned (.bool true) ∧ Same w w' := by
  obtain ⟨hl, hd, hwf, hlc, hcm⟩ := w0
  subst hl
  have HF1 := hide (few_any (c := cap0) 7 w hd (Nat.le_trans hlc hcm) (by decide))
  have Hwf := hide hwf
  clear hd hwf
  go_enter Tryz.func4, Tryz.ntmps4
  go_wp2_with fail
  refine HF1.out.mono ?_
  rintro e w1 ⟨A1, c1, l1, rfl, hown1, hrp1, hbl1, hmap1, hs1⟩
  have h7 : l1.length ≤ 7 := (by rw [strip_ln hmap1, List.length_take]; omega)
  obtain ⟨hD1, hfar1, hc1⟩ := few_pack hown1 hrp1 hbl1
  have hwf1 : ∀ d ∈ l1, WfC d.r.c := strip_rq (P := fun r => WfC r.c) hmap1 (fun d hd => Hwf.out d (List.mem_of_mem_take hd))
  have HS1 := hide hs1
  have HD1 := hide hD1
  have HFar1 := hide hfar1
  have HWf1 := hide hwf1
  have H7 := hide h7
  have HF2 := hide (fun w' (hs : Same w1 w') => few_of (c := c1) w' (hD1.same hs) h7 hmap1)
  have HSr := hide (fun w' (hs : Same w1 w') g B c2 (hb : Blk w' g 56 #[.slice none 0 0, .slice none 0 0, .int .i64 most]) (hc : c2 ≤ maxLen) => searchRf_all (c := c1) h7 hc1 w' g B c2 (hD1.same hs) (far_same hfar1 hs.size) hb hc)
  have HSo := hide (fun (h1 : 1 ≤ most) (h2 : most ≤ 1048576) w' A c l (h : Dds w' A l) (hfar : FarD w'.heap.size A l) (hln : l.length = l1.length) (hlc : l1.length ≤ c) (hst : l.map strip = l1.map strip) => search_of w' h1 h2 h hfar hln h7 hlc hst hwf1)
  have HFo := hide (fun (h1 : 1 ≤ most) (h2 : most ≤ 1048576) w' A c l B c2 r (h : Dds w' A l) (hfar : FarD w'.heap.size A l) (hln : l.length = l1.length) (hlc : l1.length ≤ c) (hst : l.map strip = l1.map strip) (hB : Rd w' B (is r)) (hc2 : r.length ≤ c2) (hf : found l1 most = some r) => fits_of w' h1 h2 h hfar hln h7 hlc hst hwf1 hB hc2 hf)
  have tok2 : True := trivial
  have tok3 : True := trivial
  clear hown1 hrp1 hbl1 hmap1 hs1 h7 hD1 hfar1 hc1 hwf1 HF1
  obtain ⟨n1, hn1⟩ : ∃ n, l1.length = n := ⟨_, rfl⟩
  unfold FewOf at HF2
  rw [hn1] at HF2 HSr HSo HFo ⊢
  rw [hn1] at H7
  obtain ⟨res, hres⟩ : ∃ res, found l1 most = res := ⟨_, rfl⟩
  rw [hres] at HSr HSo HFo
  have Hres := hide hres
  have Hn1 := hide hn1
  clear hn1 hres
  by_cases hlo : most < 1
  · go_wp2_with (first
      | (go_at_call 5; have _t := tok2; have hF := HF2.out _ (Chg.refl _ _); (with_reducible refine hF.mono ?_); rintro e w2 ⟨A2, c2, l2, rfl, hd, hfar, hln, hlc, hst, hs⟩; have HD2 := hide (And.intro hd (And.intro hfar (And.intro hln (And.intro hlc hst)))); have HS2 : Hid (Same w1 w2) := hide (Same.trans (Chg.refl _ _) hs); clear hd hfar hln hlc hst hs hF tok2)
      | (go_at_call 6; have hlo' := hide hlo; refine (Search_arg most _ (.inl hlo'.out)).mono ?_; rintro e w3 ⟨rfl, hs⟩; have HS3 : Hid (Same w1 w3) := hide (Same.trans HS2.out hs); clear hs)
      | (go_at_call 7; refine (lives_any _).mono ?_; rintro e w9 ⟨rfl, hs9⟩; have Hs9 := hide hs9; clear hs9)
      | fail)
    go_ret
    exact ⟨rfl, Same.trans HS1.out (Same.trans HS3.out Hs9.out)⟩
  by_cases hhi : 1048576 < most
  · go_wp2_with (first
      | (go_at_call 5; have _t := tok2; have hF := HF2.out _ (Chg.refl _ _); (with_reducible refine hF.mono ?_); rintro e w2 ⟨A2, c2, l2, rfl, hd, hfar, hln, hlc, hst, hs⟩; have HD2 := hide (And.intro hd (And.intro hfar (And.intro hln (And.intro hlc hst)))); have HS2 : Hid (Same w1 w2) := hide (Same.trans (Chg.refl _ _) hs); clear hd hfar hln hlc hst hs hF tok2)
      | (go_at_call 6; have hlo' := hide hhi; refine (Search_arg most _ (.inr hlo'.out)).mono ?_; rintro e w3 ⟨rfl, hs⟩; have HS3 : Hid (Same w1 w3) := hide (Same.trans HS2.out hs); clear hs)
      | (go_at_call 7; refine (lives_any _).mono ?_; rintro e w9 ⟨rfl, hs9⟩; have Hs9 := hide hs9; clear hs9)
      | fail)
    go_ret
    exact ⟨rfl, Same.trans HS1.out (Same.trans HS3.out Hs9.out)⟩
  have hm1 : 1 ≤ most := by omega
  have hm2 : most ≤ 1048576 := by omega
  have HSo2 := hide (HSo.out hm1 hm2)
  have HFo2 := hide (HFo.out hm1 hm2)
  have Hm := hide (And.intro hm1 hm2)
  clear HSo HFo hm1 hm2
  cases res with
  | none =>
    go_wp2_with (first
      | (go_at_call 5; have _t := tok2; have hF := HF2.out _ (Chg.refl _ _); (with_reducible refine hF.mono ?_); rintro e w2 ⟨A2, c2, l2, rfl, hd, hfar, hln, hlc, hst, hs⟩; have HD2 := hide (And.intro hd (And.intro hfar (And.intro hln (And.intro hlc hst)))); have HS2 : Hid (Same w1 w2) := hide (Same.trans (Chg.refl _ _) hs); clear hd hfar hln hlc hst hs hF tok2)
      | (go_at_call 6; have hF := HSo2.out w2 A2 c2 l2 HD2.out.1 HD2.out.2.1 HD2.out.2.2.1 HD2.out.2.2.2.1 HD2.out.2.2.2.2; (with_reducible refine hF.mono ?_); rintro e w3 ⟨A3, c3, rfl, hc3, hr3, hs⟩; have HS3 : Hid (Same w1 w3) := hide (Same.trans HS2.out hs); have HR3 := hide hr3; have HC3 := hide hc3; clear hs hr3 hc3 hF)
      | (go_at_call 8; have hF := HSr.out _ ((HS3.out.alloc (.cells #[.slice none 0 0, .slice none 0 0, .int .i64 most] 56)).alloc (.cells #[] 3)) w3.heap.size (some ⟨w3.heap.size + 1, 0, none⟩) 0 ((Blk.new w3 _ _).alloc _) (Nat.zero_le _); (with_reducible refine hF.mono ?_); rintro e w4 ⟨A4, c4, rfl, hr4, hl4, hm4, hs⟩; have HS34 := hide (Same.trans (((Chg.refl (fun _ => False) w3).alloc (.cells #[.slice none 0 0, .slice none 0 0, .int .i64 most] 56)).alloc (.cells #[] 3)) hs); have HS4 : Hid (Same w1 w4) := hide (Same.trans HS3.out HS34.out); have HR4 := hide hr4; clear hs hr4 hl4 hm4 hF)
      | (go_at_call 7; refine (lives_any _).mono ?_; rintro e w9 ⟨rfl, hs9⟩; have Hs9 := hide hs9; clear hs9)
      | fail)
    go_ret
    exact ⟨rfl, Same.trans HS1.out (Same.trans HS4.out Hs9.out)⟩
  | some r =>
    have HLr : Hid (r.length ≤ maxLen) := hide (by have h := Hres.out; have := (found_fits h).2.1.le; have := H7.out; have hl : l1.length = n1 := Hn1.out; unfold maxLen; omega)
    go_wp2_with (first
      | (go_at_call 5; have _t := tok2; have hF := HF2.out _ (Chg.refl _ _); (with_reducible refine hF.mono ?_); rintro e w2 ⟨A2, c2, l2, rfl, hd, hfar, hln, hlc, hst, hs⟩; have HD2 := hide (And.intro hd (And.intro hfar (And.intro hln (And.intro hlc hst)))); have HS2 : Hid (Same w1 w2) := hide (Same.trans (Chg.refl _ _) hs); clear hd hfar hln hlc hst hs hF tok2)
      | (go_at_call 5; have _t := tok3; have hF := HF2.out _ HS5.out; (with_reducible refine hF.mono ?_); rintro e w6 ⟨A6, c6, l6, rfl, hd, hfar, hln, hlc, hst, hs⟩; have HD6 := hide (And.intro hd (And.intro hfar (And.intro hln (And.intro hlc hst)))); have HS56 := hide hs; have HS6 : Hid (Same w1 w6) := hide (Same.trans HS5.out hs); clear hd hfar hln hlc hst hs hF tok3)
      | (go_at_call 6; have hF := HSo2.out w2 A2 c2 l2 HD2.out.1 HD2.out.2.1 HD2.out.2.2.1 HD2.out.2.2.2.1 HD2.out.2.2.2.2; (with_reducible refine hF.mono ?_); rintro e w3 ⟨A3, c3, rfl, hc3, hr3, hs⟩; have HS3 : Hid (Same w1 w3) := hide (Same.trans HS2.out hs); have HR3 := hide hr3; have HC3 := hide hc3; clear hs hr3 hc3 hF)
      | (go_at_call 8; have hF := HSr.out _ ((HS3.out.alloc (.cells #[.slice none 0 0, .slice none 0 0, .int .i64 most] 56)).alloc (.cells #[] 3)) w3.heap.size (some ⟨w3.heap.size + 1, 0, none⟩) 0 ((Blk.new w3 _ _).alloc _) (Nat.zero_le _); (with_reducible refine hF.mono ?_); rintro e w4 ⟨A4, c4, rfl, hr4, hl4, hm4, hs⟩; have HS34 := hide (Same.trans (((Chg.refl (fun _ => False) w3).alloc (.cells #[.slice none 0 0, .slice none 0 0, .int .i64 most] 56)).alloc (.cells #[] 3)) hs); have HS4 : Hid (Same w1 w4) := hide (Same.trans HS3.out HS34.out); have HR4 := hide hr4; clear hs hr4 hl4 hm4 hF)
      | (go_at_call 9; refine (sameIRf_any _ _ _ (HR3.out.same HS34.out) HR4.out HLr.out HLr.out).mono ?_; rintro e w5 ⟨he, hs⟩; rw [eqI_refl] at he; subst he; have HS45 := hide hs; have HS5 : Hid (Same w1 w5) := hide (Same.trans HS4.out hs); clear hs)
      | (go_at_call 10; have hF := HFo2.out w6 A6 c6 l6 A3 c3 r HD6.out.1 HD6.out.2.1 HD6.out.2.2.1 HD6.out.2.2.2.1 HD6.out.2.2.2.2 ((HR3.out.same HS34.out).same (Same.trans HS45.out HS56.out)) HC3.out rfl; (with_reducible refine hF.mono ?_); rintro e w7 ⟨rfl, hs⟩; have HS7 : Hid (Same w1 w7) := hide (Same.trans HS6.out hs); clear hs hF)
      | (go_at_call 7; refine (lives_any _).mono ?_; rintro e w9 ⟨rfl, hs9⟩; have Hs9 := hide hs9; clear hs9)
      | fail)
    go_ret
    exact ⟨rfl, Same.trans HS1.out (Same.trans HS7.out Hs9.out)⟩
end Go.Proofs.YtenkdjfikppkdaaGreat
/-! LnSearch -/
namespace Go.Proofs.YtenkdjfikppkdaaGreat.linearSearch
open Go.Al Go.Proofs.YtenkdjfikppkdaaGreat
open Go.ChangeShapes Go.WideShapes Go.ChangeAt Go.RowKit
open Go.ChangeMaps (open_string shut_string)
set_option linter.unusedVariables false

theorem own : ownKnob Tryz.prog.godebug = none := by kernel_rfl
theorem laidOut : laidOutB Tryz.prog = true := by kernel_rfl

/-- a slice of integers that came in -/
def IsRow (k : IntKind) (w : World) (a : Option Addr) (len cap : Nat) (zs : List Int) : Prop :=
  (a = none ∧ len = 0 ∧ cap = 0 ∧ zs = []) ∨
  ∃ x, a = some x ∧ len ≤ cap ∧ cap ≤ maxLen ∧ zs.length = cap ∧ (∀ i, i < zs.length → w.cell? (x.add i) = some (.int k (zs.getD i 0))) ∧ ∀ n ∈ zs, (Lit.int k n).wf = true
/-- a slice of byte slices that came in -/
def IsRows (e : TypeId) (w : World) (a : Option Addr) (len cap : Nat) (ls : List (List UInt8)) (xs : List Value) : Prop :=
  ls.length = len ∧ Rd w a xs ∧ Rows2 w.heap.size e w xs (ls.map bs) ∧ (∀ l ∈ ls, l.length ≤ maxLen) ∧ len ≤ cap ∧ cap ≤ maxLen

theorem walk (a0 : Option Addr) (len0 cap0 : Nat) (l0 : List Dd) (a1 : Int) (w : World) (w0 : IsDeeds w a0 len0 cap0 l0) (w1 : (Lit.int .i64 a1).wf = true) :
    Calls Tryz.prog 4 #[.slice a0 len0 cap0, .int .i64 a1] w fun e w' => e = .returned (.bool true) ∧ Below w.heap.size w w' := by
  exact (linearSearch_any a0 len0 cap0 l0 a1 w w0).mono fun e w' ⟨he, hs⟩ => ⟨he, hs.below (Nat.le_refl _) fun _ h => h.elim⟩

set_option maxRecDepth 100000 in
theorem lifted (os : Os) (started : os.Started) (H : Type) (enc : TypeId × Value → H) :
    ReturnsInHanded {} Tryz.checked os 4 .any (Rows.linearSearchSpec.pre6 enc Tryz.prog Tryz.f4 Rows.linearSearchRow.domain false) (Rows.linearSearchSpec.post enc Tryz.prog Tryz.f4 false true false false) := by
  refine returnsInHanded_of_change (C := Tryz.checked) own started (by kernel_rfl) Tryz.func4
    (ChangeSpec.witness6 (enc := enc) (C := Tryz.checked) false ⟨#[], #[.slice none 0 0, .int .i64 0], []⟩ 8 (by kernel_rfl) (by kernel_rfl) (by kernel_rfl) (by kernel_rfl)) ?_
  intro W base args ds gs before hval0 hW hcnd _
  have hval : ∀ (j : Nat) t v, Tryz.f4.params[j]? = some t → args[j]? = some v → Value.okWide Tryz.prog W .any base t v := hval0
  have hW' := hW
  obtain ⟨p, q, hA0, hV, rfl, hfz, hnd⟩ := hW
  have hA : DataW.TrodAll enc Tryz.prog W 0 (fun _ => true) true Tryz.f4.params.toList args.toList ds p := hA0
  rw [Tryz.params4] at hA hval
  obtain ⟨v0, vs0, d0, ds0, p0, q0, hargs, rfl, rfl, h0, r0⟩ := trodAll_cons hA
  obtain ⟨v1, vs1, d1, ds1, p1, q1, rfl, rfl, rfl, h1, r1⟩ := trodAll_cons r0
  obtain ⟨rfl, rfl, rfl⟩ := trodAll_nil r1
  obtain rfl : args = #[v0, v1] := by cases args; simp_all
  obtain ⟨rfl, rfl⟩ := trodVars_none hV
  obtain ⟨a0, len0, cap0, rfl⟩ := okWide_slice Tryz.underlying22 (hval 0 22 v0 rfl rfl)
  have k0 := h0
  have lt0 : ∀ x ∈ p0, x.block < W.heap.size := by obtain ⟨m, hm⟩ := k0; exact DataW.trod_lt m _ _ _ hm
  obtain ⟨l0, w0⟩ : ∃ ls, IsDeeds W a0 len0 cap0 ls := by
    obtain ⟨fuel, hf⟩ := h0
    exact open_deeds hf
  obtain ⟨a1, rfl, rfl, rfl, w1⟩ := open_int Tryz.underlying3 (hval 1 3 v1 rfl rfl) h1
  clear hA0 hval0
  refine (walk a0 len0 cap0 l0 a1 W w0 w1).mono fun e W' ⟨he, bel⟩ => ?_
  subst he
  exact ⟨_, rfl, _, _, _, [], _, [], hW', trodAll_mk1 (shut_bool Tryz.underlying4 _), (trodAll_cons_mk (Below.trod laidOut (by kernel_rfl) (of_decide_eq_true (by kernel_rfl)) k0 bel lt0) (trodAll_cons_mk (shut_int Tryz.underlying3 w1) trodAll_mk0)), rfl, bel.frame _, fun h => by cases h⟩

theorem over : Rows.linearSearchRow.holds Tryz.pinned (OpenSpec.ofChange Rows.linearSearchSpec) :=
  OpenClaim.holds_of_wide 4 Tryz.f4 rfl rfl rfl rfl rfl rfl rfl ⟨rfl, rfl, rfl, rfl, rfl⟩ rfl rfl rfl rfl rfl (by kernel_rfl) Tryz.func4 (by kernel_rfl)
    (of_decide_eq_true (by kernel_rfl)) (by unfold Func.isWrapper; first | (rw [if_pos (by decide +kernel)]; kernel_rfl) | (rw [if_neg (by decide +kernel)]; exact ⟨rfl, rfl⟩))
    (fun os started H enc _ => lifted os started H enc)

theorem proved : Rows.LinearSearchSaid := over
#print axioms proved
end Go.Proofs.YtenkdjfikppkdaaGreat.linearSearch
