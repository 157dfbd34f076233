/-
  Plain law: a change that may be, and the one that turns it back, leave the lists as they were; the table and the document's set side by side. No conditions.
-/
import Derived.Test.YtllcjkddlenleaaTdE
import Derived.Test.YtllcjkddlenleaaTcE
import Derived.Test.YtllcjkddlenleaaTbF
namespace Go.Proofs.Ytllcjkddlenleaa
open Go.RowKit Go.Al
set_option linter.unusedVariables false

/-! the plain law -/
theorem srt_ext {a b : List P3} (ha : Srt a) (hb : Srt b) (h : ∀ x, x ∈ a ↔ x ∈ b) : a = b := by
  have n1 : a.Nodup := ha.imp fun h e => by rw [e] at h; omega
  have n2 : b.Nodup := hb.imp fun h e => by rw [e] at h; omega
  exact List.Perm.eq_of_pairwise (le := fun p q : P3 => p.1 < q.1) (fun a b _ _ h1 h2 => by have : a.1 < b.1 := h1; have : b.1 < a.1 := h2; omega) ha hb ((List.perm_ext_iff_of_nodup n1 n2).2 h)
theorem mem_put3 {q x : P3} {l : List P3} : x ∈ put3 q l ↔ x = q ∨ (x ∈ l ∧ ¬ x.1 = q.1) := by
  unfold put3
  rw [mem_ins3, mem_del3]
theorem del_put {q : P3} {l : List P3} (hs : Srt l) (h : hasK l q.1 = false) : del3 q.1 (put3 q l) = l := by
  have h' : ∀ x ∈ l, ¬ x.1 = q.1 := fun x hx e => by rw [hasK_iff.2 ⟨x, hx, e⟩] at h; cases h
  refine srt_ext ((hs.put q).del _) hs fun x => ?_
  rw [mem_del3, mem_put3]
  refine ⟨fun ⟨h1, h2⟩ => ?_, fun hx => ⟨.inr ⟨hx, h' x hx⟩, h' x hx⟩⟩
  rcases h1 with rfl | h1
  · exact absurd rfl h2
  · exact h1.1
theorem put_del {q : P3} {l : List P3} (hs : Srt l) (h : q ∈ l) : put3 q (del3 q.1 l) = l := by
  refine srt_ext ((hs.del _).put q) hs fun x => ?_
  rw [mem_put3, mem_del3]
  refine ⟨fun h1 => ?_, fun hx => ?_⟩
  · rcases h1 with rfl | h1
    · exact h
    · exact h1.1.1
  · by_cases e : x.1 = q.1
    · exact .inl (uniq_key hs hx h e)
    · exact .inr ⟨⟨hx, e⟩, e⟩
theorem has_del (k : Int) (l : List P3) : hasK (del3 k l) k = false := by
  cases h : hasK (del3 k l) k
  · rfl
  · obtain ⟨x, hx, e⟩ := hasK_iff.1 h
    exact absurd e (mem_del3.1 hx).2
theorem has_put (q : P3) (l : List P3) : hasK (put3 q l) q.1 = true := hasK_iff.2 ⟨q, mem_put3.2 (.inl rfl), rfl⟩
theorem find_has {l : List P3} {k : Int} (h : hasK l k = true) : ∃ q, find3 l k = some q ∧ q ∈ l ∧ q.1 = k := by
  obtain ⟨x, hx, e⟩ := hasK_iff.1 h
  cases hf : find3 l k with
  | none =>
    have := List.find?_eq_none.1 hf x hx
    simp [e] at this
  | some q => exact ⟨q, rfl, List.mem_of_find?_eq_some hf, by have := List.find?_some hf; simpa using this⟩

def GoodP (p : List P3) : Prop := ∀ q ∈ p, judgeE ⟨1, q, z3⟩ = 0
def GoodS (s : List P3) : Prop := ∀ q ∈ s, judgeE ⟨3, z3, q⟩ = 0
theorem judge_p (q x y : P3) : judgeE ⟨1, q, x⟩ = judgeE ⟨1, q, y⟩ := by unfold judgeE kindC idC placeE; rfl
theorem judge_s (q x y : P3) : judgeE ⟨3, x, q⟩ = judgeE ⟨3, y, q⟩ := by unfold judgeE kindC idC placeE; rfl
theorem judge_rng {c : Cg} (h : judgeE c = 0) : 1 ≤ idC c ∧ idC c ≤ 2147483647 := by
  unfold judgeE at h
  split at h
  · omega
  · rename_i hn
    constructor
    · exact Int.not_lt.1 fun h' => hn (.inr (.inl h'))
    · exact Int.not_lt.1 fun h' => hn (.inr (.inr h'))
theorem judge_d2 {q x : P3} (h1 : 1 ≤ q.1) (h2 : q.1 ≤ 2147483647) : judgeE ⟨2, q, x⟩ = 0 := by
  unfold judgeE
  rw [if_neg]
  · simp [placeE]
  · simp [kindC, idC]; omega
theorem judge_d4 {q x : P3} (h1 : 1 ≤ q.1) (h2 : q.1 ≤ 2147483647) : judgeE ⟨4, x, q⟩ = 0 := by
  unfold judgeE
  rw [if_neg]
  · simp [placeE]
  · simp [kindC, idC]; omega
theorem good_do {p s : List P3} {c : Cg} (hp : GoodP p) (hs : GoodS s) : GoodP (doP' p s 30 c) ∧ GoodS (doS' p s 30 c) := by
  unfold doP' doS'
  by_cases hm : mayE p s 30 c = 0
  · rw [if_pos hm, if_pos hm]
    obtain ⟨hk, _, _, hj⟩ := may_zero hm
    obtain ⟨k, q, x⟩ := c
    simp only at hk
    unfold doP doS
    rcases hk with rfl | rfl | rfl | rfl
    · refine ⟨fun y hy => ?_, hs⟩
      have hy : y ∈ put3 q p := hy
      rcases mem_put3.1 hy with rfl | hy
      · exact (judge_p y z3 x).trans hj
      · exact hp y hy.1
    · exact ⟨fun y hy => hp y (mem_del3.1 hy).1, hs⟩
    · refine ⟨hp, fun y hy => ?_⟩
      have hy : y ∈ put3 x s := hy
      rcases mem_put3.1 hy with rfl | hy
      · exact (judge_s y z3 q).trans hj
      · exact hs y hy.1
    · exact ⟨hp, fun y hy => hs y (mem_del3.1 hy).1⟩
  · rw [if_neg hm, if_neg hm]
    exact ⟨hp, hs⟩
theorem wf_i64 {x : Int} (h1 : 1 ≤ x) (h2 : x ≤ 2147483647) : (Lit.int .i64 x).wf = true := by
  simp [Lit.wf, IntKind.min, IntKind.max, IntKind.signed, IntKind.bits]
  omega
theorem back_law {p s : List P3} {c : Cg} (hp : GoodP p) (hs : GoodS s) (sp : Srt p) (ss : Srt s) (hr : (p.length : Int) + (s.length : Int) ≤ 30) (hm : mayE p s 30 c = 0) :
    WfC (doB p s 30 c) ∧ mayE (doP' p s 30 c) (doS' p s 30 c) 30 (doB p s 30 c) = 0 ∧ doP' (doP' p s 30 c) (doS' p s 30 c) 30 (doB p s 30 c) = p ∧ doS' (doP' p s 30 c) (doS' p s 30 c) 30 (doB p s 30 c) = s := by
  have key : WfC (backC p s c) ∧ mayE (doP p c) (doS s c) 30 (backC p s c) = 0 ∧ doP (doP p c) (backC p s c) = p ∧ doS (doS s c) (backC p s c) = s := by
    obtain ⟨hk, hadd, hdrop, hj⟩ := may_zero hm
    have hid := judge_rng hj
    obtain ⟨k, q, x⟩ := c
    simp only at hk
    rcases hk with rfl | rfl | rfl | rfl
    · obtain ⟨h1, h2⟩ := hadd rfl
      have h1 : hasK p q.1 = false := h1
      have hid : 1 ≤ q.1 ∧ q.1 ≤ 2147483647 := hid
      refine ⟨⟨wf_i64 hid.1 hid.2, rfl⟩, ?_, del_put sp h1, rfl⟩
      show mayE (put3 q p) s 30 ⟨2, q, z3⟩ = 0
      unfold mayE
      rw [if_pos (judge_d2 hid.1 hid.2), if_neg (by simp [addsC]), if_pos]
      exact has_put q p
    · have h1 : hasK p q.1 = true := hdrop rfl
      obtain ⟨y, hf, hy, hyq⟩ := find_has h1
      have hjy := hp y hy
      have hlen := len_del3 sp h1
      have e0 : backC p s ⟨2, q, x⟩ = ⟨1, y, z3⟩ := by show (⟨1, (find3 p q.1).getD z3, z3⟩ : Cg) = _; rw [hf]; rfl
      rw [e0]
      have hid := judge_rng hjy
      have hid : 1 ≤ y.1 ∧ y.1 ≤ 2147483647 := hid
      refine ⟨⟨wf_i64 hid.1 hid.2, rfl⟩, ?_, ?_, rfl⟩
      · show mayE (del3 q.1 p) s 30 ⟨1, y, z3⟩ = 0
        unfold mayE
        rw [if_pos hjy, if_pos (by simp [addsC]), if_neg, if_neg (by omega)]
        show ¬ hasK (del3 q.1 p) y.1 = true
        rw [hyq, has_del]; simp
      · show put3 y (del3 q.1 p) = p
        rw [← hyq]; exact put_del sp hy
    · obtain ⟨h1, h2⟩ := hadd rfl
      have h1 : hasK s x.1 = false := h1
      have hid : 1 ≤ x.1 ∧ x.1 ≤ 2147483647 := hid
      refine ⟨⟨rfl, wf_i64 hid.1 hid.2⟩, ?_, rfl, del_put ss h1⟩
      show mayE p (put3 x s) 30 ⟨4, z3, x⟩ = 0
      unfold mayE
      rw [if_pos (judge_d4 hid.1 hid.2), if_neg (by simp [addsC]), if_pos]
      exact has_put x s
    · have h1 : hasK s x.1 = true := hdrop rfl
      obtain ⟨y, hf, hy, hyq⟩ := find_has h1
      have hjy := hs y hy
      have hlen := len_del3 ss h1
      have e0 : backC p s ⟨4, q, x⟩ = ⟨3, z3, y⟩ := by show (⟨3, z3, (find3 s x.1).getD z3⟩ : Cg) = _; rw [hf]; rfl
      rw [e0]
      have hid := judge_rng hjy
      have hid : 1 ≤ y.1 ∧ y.1 ≤ 2147483647 := hid
      refine ⟨⟨rfl, wf_i64 hid.1 hid.2⟩, ?_, rfl, ?_⟩
      · show mayE p (del3 x.1 s) 30 ⟨3, z3, y⟩ = 0
        unfold mayE
        rw [if_pos hjy, if_pos (by simp [addsC]), if_neg, if_neg (by omega)]
        show ¬ hasK (del3 x.1 s) y.1 = true
        rw [hyq, has_del]; simp
      · show put3 y (del3 x.1 s) = s
        rw [← hyq]; exact put_del ss hy
  obtain ⟨k1, k2, k3, k4⟩ := key
  unfold doB
  rw [if_pos hm]
  have e1 : doP' p s 30 c = doP p c := if_pos hm
  have e2 : doS' p s 30 c = doS s c := if_pos hm
  rw [e1, e2]
  refine ⟨k1, k2, ?_, ?_⟩
  · unfold doP'; rw [if_pos k2]; exact k3
  · unfold doS'; rw [if_pos k2]; exact k4

/-! both side by side -/
structure SetF (w : World) (h pm sm : Nat) (p s : List P3) : Prop where
  ex : ∃ AP cp AS cs, SetR w h AP cp AS cs 30 p s ∧ (∀ b, blkOf AP = some b → b ≠ pm ∧ b ≠ sm) ∧ (∀ b, blkOf AS = some b → b ≠ pm ∧ b ≠ sm)
  srtP : Srt p
  srtS : Srt s
  room : (p.length : Int) + (s.length : Int) ≤ 30
  hp : h ≠ pm
  hs : h ≠ sm
structure Both (w0 w : World) (g pm sm h : Nat) (p s p2 s2 : List P3) : Prop where
  same : Same w0 w
  tab : Tab w g pm sm 30 p s
  set : SetF w h pm sm p2 s2
  fp : w0.heap.size ≤ pm
  fs : w0.heap.size ≤ sm
  fh : w0.heap.size ≤ h
  gh : g ≠ h
theorem SetF.same {w w' : World} {h pm sm : Nat} {p s : List P3} (hF : SetF w h pm sm p s) (hs : Same w w') : SetF w' h pm sm p s :=
  ⟨hF.ex.imp fun AP ⟨cp, AS, cs, hR, h1, h2⟩ => ⟨cp, AS, cs, hR.chg hs (fun e => e) (fun _ _ e => e) (fun _ _ e => e), h1, h2⟩, hF.srtP, hF.srtS, hF.room, hF.hp, hF.hs⟩
theorem Both.go {w0 w w' : World} {g pm sm h : Nat} {p s p2 s2 : List P3} (hB : Both w0 w g pm sm h p s p2 s2) (hs : Same w w') : Both w0 w' g pm sm h p s p2 s2 :=
  ⟨Same.trans hB.same hs, hB.tab.same hs, hB.set.same hs, hB.fp, hB.fs, hB.fh, hB.gh⟩
theorem both_doT {w0 w : World} {g pm sm h : Nat} {p s p2 s2 : List P3} (c : Cg) (hB : Both w0 w g pm sm h p s p2 s2) (hw : WfC c) :
    Calls Try.prog 8 #[.pointer (some ⟨g, 0, none⟩), cgV c] w fun e w' => e = .returned (.tuple #[cgV (doB p s 30 c), .int .i64 (mayE p s 30 c)]) ∧
      Both w0 w' g pm sm h (doP' p s 30 c) (doS' p s 30 c) p2 s2 ∧ Chg (fun k => k = pm ∨ k = sm) w w' := by
  refine (do_any c w hB.tab hw).mono ?_
  rintro e w' ⟨he, hT, hC⟩
  refine ⟨he, ⟨tab_fresh hB.same hB.fp hB.fs hC, hT, ⟨?_, hB.set.srtP, hB.set.srtS, hB.set.room, hB.set.hp, hB.set.hs⟩, hB.fp, hB.fs, hB.fh, hB.gh⟩, hC⟩
  obtain ⟨AP, cp, AS, cs, hR, h1, h2⟩ := hB.set.ex
  exact ⟨AP, cp, AS, cs, hR.chg hC (fun e => e.elim hB.set.hp hB.set.hs) (fun b hb e => e.elim (h1 b hb).1 (h1 b hb).2) (fun b hb e => e.elim (h2 b hb).1 (h2 b hb).2), h1, h2⟩
theorem room_do {p s : List P3} (c : Cg) (sp : Srt p) (ss : Srt s) (h : (p.length : Int) + (s.length : Int) ≤ 30) : ((doP' p s 30 c).length : Int) + ((doS' p s 30 c).length : Int) ≤ 30 ∧ Srt (doP' p s 30 c) ∧ Srt (doS' p s 30 c) := by
  unfold doP' doS'
  by_cases hm : mayE p s 30 c = 0
  · rw [if_pos hm, if_pos hm]
    obtain ⟨hk, hadd, hdrop, hj⟩ := may_zero hm
    obtain ⟨k, q, x⟩ := c
    simp only at hk
    rcases hk with rfl | rfl | rfl | rfl
    · obtain ⟨h1, h2⟩ := hadd rfl
      have h1 : hasK p q.1 = false := h1
      have := len_put3 h1
      exact ⟨by show ((put3 q p).length : Int) + (s.length : Int) ≤ 30; omega, sp.put q, ss⟩
    · have h1 : hasK p q.1 = true := hdrop rfl
      have := len_del3 sp h1
      exact ⟨by show ((del3 q.1 p).length : Int) + (s.length : Int) ≤ 30; omega, sp.del _, ss⟩
    · obtain ⟨h1, h2⟩ := hadd rfl
      have h1 : hasK s x.1 = false := h1
      have := len_put3 h1
      exact ⟨by show (p.length : Int) + ((put3 x s).length : Int) ≤ 30; omega, sp, ss.put x⟩
    · have h1 : hasK s x.1 = true := hdrop rfl
      have := len_del3 ss h1
      exact ⟨by show (p.length : Int) + ((del3 x.1 s).length : Int) ≤ 30; omega, sp, ss.del _⟩
  · rw [if_neg hm, if_neg hm]
    exact ⟨h, sp, ss⟩
theorem both_doR {w0 w : World} {g pm sm h : Nat} {p s p2 s2 : List P3} (c : Cg) (hB : Both w0 w g pm sm h p s p2 s2) :
    Calls Try.prog 10 #[.pointer (some ⟨h, 0, none⟩), cgV c] w fun e w' => e = .returned (.tuple #[cgV (doB p2 s2 30 c), .int .i64 (mayE p2 s2 30 c)]) ∧
      Both w0 w' g pm sm h p s (doP' p2 s2 30 c) (doS' p2 s2 30 c) := by
  obtain ⟨AP, cp, AS, cs, hR, h1, h2⟩ := hB.set.ex
  have hro := hB.set.room
  have hpm := hB.tab.mp.lt
  have hsm := hB.tab.ms.lt
  refine (doR_any c w hR (by omega) (by omega) hB.set.srtP hB.set.srtS).mono ?_
  rintro e w' ⟨he, AP', cp', AS', cs', hR', hC, f1, f2⟩
  obtain ⟨r1, r2, r3⟩ := room_do c hB.set.srtP hB.set.srtS hro
  refine ⟨he, ⟨Chg.trans hB.same hC fun k hk e => by have := hB.fh; omega, hB.tab.chg hC hB.gh (fun e => hB.set.hp e.symm) (fun e => hB.set.hs e.symm), ⟨⟨AP', cp', AS', cs', hR', fun b hb => ?_, fun b hb => ?_⟩, r2, r3, r1, hB.set.hp, hB.set.hs⟩, hB.fp, hB.fs, hB.fh, hB.gh⟩⟩
  · rcases f1 b hb with e | e
    · exact h1 b e
    · constructor <;> omega
  · rcases f2 b hb with e | e
    · exact h2 b e
    · constructor <;> omega
theorem both_same {w0 w : World} {g pm sm h : Nat} {p s p2 s2 : List P3} {A1 A2 : Option Addr} {c1 c2 : Nat} (hB : Both w0 w g pm sm h p s p2 s2) (h1 : Row3 w A1 p2.length c1 p2) (h2 : Row3 w A2 s2.length c2 s2) :
    Calls Try.prog 12 #[.pointer (some ⟨h, 0, none⟩), .slice A1 p2.length c1, .slice A2 s2.length c2] w fun e w' => e = .returned (.bool true) ∧ Same w w' := by
  obtain ⟨AP, cp, AS, cs, hR, _, _⟩ := hB.set.ex
  have hro := hB.set.room
  exact sameR_eq w hR h1 h2 (by omega) (by omega)
end Go.Proofs.Ytllcjkddlenleaa
