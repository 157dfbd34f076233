/-
  digest.read, Read: bytes that are points and intervals are just theirs; others are none. Condition: at most 6000 bytes.
-/
import Derived.Test.YtopkdiiigidfdaaGreatDgZ
import Derived.OwnWalk
namespace Go.Proofs.YtopkdiiigidfdaaGreat
open Go.RowKit Go.Al Go.Shelf
set_option linter.unusedVariables false

theorem rd3_len {l : List UInt8} {q : P3 × List UInt8} (h : rd3 l = some q) : q.2.length + 3 ≤ l.length := by
  unfold rd3 at h
  cases h1 : rdI l with
  | none => rw [h1] at h; cases h
  | some a =>
    rw [h1, Option.bind_some] at h
    cases h2 : rdI a.2 with
    | none => rw [h2] at h; cases h
    | some b =>
      rw [h2, Option.bind_some] at h
      cases h3 : rdI b.2 with
      | none => rw [h3] at h; cases h
      | some c =>
        rw [h3, Option.bind_some] at h
        cases h
        have := (rdI_len h1).1
        have := (rdI_len h2).1
        have := (rdI_len h3).1
        show c.2.length + 3 ≤ l.length
        omega
theorem rdT_len (f : Int → P3 → P3) : ∀ (n : Nat) (last : Int) (l : List UInt8) (q : List P3 × List UInt8), rdT f n last l = some q → 3 * q.1.length + q.2.length ≤ l.length
  | 0, last, l, q, h => by rw [rdT] at h; cases h; simp
  | n + 1, last, l, q, h => by
    rw [rdT] at h
    cases h1 : rd3 l with
    | none => rw [h1] at h; cases h
    | some a =>
      rw [h1, Option.bind_some] at h
      cases h2 : rdT f n (f last a.1).1 a.2 with
      | none => rw [h2] at h; cases h
      | some r =>
        rw [h2, Option.map_some] at h
        cases h
        have := rd3_len h1
        have := rdT_len f n _ _ _ h2
        simp only [List.length_cons]
        omega
theorem rdA_len {l : List UInt8} {p s : List P3} (h : rdA l = some (p, s)) : 3 * p.length + 3 * s.length ≤ l.length := by
  unfold rdA at h
  cases h1 : rdM l with
  | none => rw [h1] at h; cases h
  | some a =>
    rw [h1, Option.bind_some] at h
    cases h2 : rdT ptF a.1.toNat 0 a.2 with
    | none => rw [h2] at h; cases h
    | some b =>
      rw [h2, Option.bind_some] at h
      cases h3 : rdM b.2 with
      | none => rw [h3] at h; cases h
      | some c =>
        rw [h3, Option.bind_some] at h
        cases h4 : rdT spF c.1.toNat 0 c.2 with
        | none => rw [h4] at h; cases h
        | some d =>
          rw [h4, Option.map_some] at h
          cases h
          have := (rdM_len h1).2.2
          have := rdT_len ptF _ _ _ _ h2
          have := (rdM_len h3).2.2
          have := rdT_len spF _ _ _ _ h4
          omega
theorem two_blk {w : World} {g : Nat} {t : TypeId} {a b : Value} (h : Blk w g t #[a, b]) (u0 u1 : Value) (o : Obj) : Blk (((w.setCell ⟨g, 0, none⟩ u0).setCell ⟨g, 1, none⟩ u1).alloc o) g t #[u0, u1] := by
  have := ((h.set_ 0 u0).set_ 1 u1).alloc o
  simpa using this
theorem two_same {w w2 : World} (h : Same w w2) (u0 u1 : Value) (o : Obj) : Same w (((w2.setCell ⟨w.heap.size, 0, none⟩ u0).setCell ⟨w.heap.size, 1, none⟩ u1).alloc o) :=
  Chg.fresh (S := fun k => w.heap.size ≤ k) (((h.to.setCell (S := fun k => w.heap.size ≤ k) (p := ⟨w.heap.size, 0, none⟩) (.inl (Nat.le_refl _)) u0).setCell (p := ⟨w.heap.size, 1, none⟩) (.inl (Nat.le_refl _)) u1).alloc o) fun _ h => h
theorem two_blk0 {w : World} {g : Nat} {t : TypeId} {a b : Value} (h : Blk w g t #[a, b]) (u0 u1 : Value) : Blk ((w.setCell ⟨g, 0, none⟩ u0).setCell ⟨g, 1, none⟩ u1) g t #[u0, u1] := by
  have := (h.set_ 0 u0).set_ 1 u1
  simpa using this
theorem two_chg {S : Nat → Prop} {w w2 : World} {g : Nat} (h : Chg S w w2) (hg : S g) (u0 u1 : Value) : Chg S w ((w2.setCell ⟨g, 0, none⟩ u0).setCell ⟨g, 1, none⟩ u1) :=
  (h.setCell (p := ⟨g, 0, none⟩) (.inl hg) u0).setCell (p := ⟨g, 1, none⟩) (.inl hg) u1
theorem two_same0 {w w2 : World} (h : Same w w2) (u0 u1 : Value) : Same w ((w2.setCell ⟨w.heap.size, 0, none⟩ u0).setCell ⟨w.heap.size, 1, none⟩ u1) :=
  Chg.fresh (S := fun k => w.heap.size ≤ k) (two_chg h.to (Nat.le_refl _) u0 u1) fun _ h => h
/-- what the closure hands back: rows of its own -/
def PAll (p s : List P3) (b0 : Nat) (R : List Value) (w : World) : Prop :=
  ∃ AP cp AS cs, R = [.slice AP p.length cp, .slice AS s.length cs] ∧ w.ownsRow b0 23 3 (.slice AP p.length cp) p.length (is3 p) ∧ w.ownsRow b0 25 3 (.slice AS s.length cs) s.length (is3 s)
theorem PAll.keep (p s : List P3) : KeepD (PAll p s) := fun b0 R u u' ⟨AP, cp, AS, cs, h, h1, h2⟩ hc =>
  ⟨AP, cp, AS, cs, h, own_chg h1 hc fun b hb e => by have := (h1.lt b hb).1; omega, own_chg h2 hc fun b hb e => by have := (h2.lt b hb).1; omega⟩
/-- how read ends -/
def ReadV (w : World) (q : Option (List P3 × List P3)) (e : Ending) (w' : World) : Prop := match q with
  | none => e = .returned (.tuple #[.agg #[.slice none 0 0, .slice none 0 0], .int .i64 8])
  | some q => ∃ AP cp AS cs, e = .returned (.tuple #[.agg #[.slice AP q.1.length cp, .slice AS q.2.length cs], .int .i64 0]) ∧ w'.ownsRow w.heap.size 23 3 (.slice AP q.1.length cp) q.1.length (is3 q.1) ∧ w'.ownsRow w.heap.size 25 3 (.slice AS q.2.length cs) q.2.length (is3 q.2)
def ReadEnd (w : World) (q : Option (List P3 × List P3)) (e : Ending) (w' : World) : Prop := Same w w' ∧ ReadV w q e w'
theorem readD_of {b : List UInt8} {p s : List P3} (h : rdA b = some (p, s)) : readD b = if wellB p s = true ∧ wrtD p s = b then some (p, s) else none := by unfold readD; rw [h]; rfl
theorem readD_no {b : List UInt8} (h : rdA b = none) : readD b = none := by unfold readD; rw [h]; rfl
set_option maxRecDepth 100000 in
set_option maxHeartbeats 8000000 in
theorem dread_any {A : Option Addr} {n c : Nat} (b : List UInt8) (w : World) (hr : Rd w A (bs b)) (hn : b.length = n) (hnc : n ≤ c) (hcm : c ≤ maxLen) (hd : ∀ k, blkOf A = some k → k < w.heap.size) (h6 : n ≤ 6000) :
    Calls Tryz.prog 53 #[.slice A n c] w (ReadEnd w (readD b)) := by
  have hs1 : Same w ((w.alloc (.cells #[.slice none 0 0, .slice none 0 0] 113)).alloc (.cells #[.slice A n c] 176)) := ((Chg.refl _ w).alloc _).alloc _
  have hz1 : ((w.alloc (.cells #[.slice none 0 0, .slice none 0 0] 113)).alloc (.cells #[.slice A n c] 176)).heap.size = w.heap.size + 2 := by simp
  have hb0 : Blk ((w.alloc (.cells #[.slice none 0 0, .slice none 0 0] 113)).alloc (.cells #[.slice A n c] 176)) w.heap.size 113 #[.slice none 0 0, .slice none 0 0] := (Blk.new _ _ _).alloc _
  have hrd : Rdr ((w.alloc (.cells #[.slice none 0 0, .slice none 0 0] 113)).alloc (.cells #[.slice A n c] 176)) (w.heap.size + 1) (w.heap.size + 2) b := ⟨⟨A, n, c, by have := Blk.new (w.alloc (.cells #[.slice none 0 0, .slice none 0 0] 113)) 176 #[.slice A n c]; simpa using this, hr.same hs1, hn, hnc, hcm, fun k e => by have := hd k e; omega⟩, by omega⟩
  have e94 : ∀ args w, (callFunc 94 args).run Tryz.prog w = .ok (.enter 94 args) w := enters_of Tryz.func94 (by kernel_rfl) rfl
  have hmf : ∀ (fn : Fn) (first cap : Array Value) (w : World), (Instr.makeFunc fn first cap).run Tryz.prog w = .ok (.func fn first cap) w := fun _ _ _ _ => rfl
  have hall : ∀ w1, Same ((w.alloc (.cells #[.slice none 0 0, .slice none 0 0] 113)).alloc (.cells #[.slice A n c] 176)) w1 → Calls Tryz.prog 94 #[.pointer (some ⟨w.heap.size + 1, 0, none⟩)] w1 (AllEnd w1 (w.heap.size + 1) b (rdA b)) := fun w1 h => by
    have h1 := hrd.same h
    have h2 := h.size
    exact all_any b w1 ⟨by obtain ⟨A', n', c', q1, q2, q3, q4, q5, q6⟩ := h1.st; exact ⟨A', n', c', q1, q2, q3, q4, q5, fun k e => ⟨(q6 k e).1, by have := (q6 k e).2; omega⟩⟩, Nat.le_refl _⟩ (by omega) (by omega)
  have Hs1 := hide hs1
  have Hz1 := hide hz1
  have Hb0 := hide hb0
  have hn67 : ¬ (67108864 : Int) < (n : Int) := by omega
  have Hbn := hide hn
  cases hq : rdA b with
  | none =>
    have HVN : Hid (readD b = none) := hide (readD_no hq)
    have HE : Hid (∀ w9, Same w w9 → ReadEnd w (readD b) (.returned (.tuple #[.agg #[.slice none 0 0, .slice none 0 0], .int .i64 8])) w9) := hide fun w9 hs => ⟨hs, by rw [HVN.out]; rfl⟩
    rw [hq] at hall
    have HC := hide (valueD_bad (K := 94) (caps := #[.pointer (some ⟨w.heap.size + 1, 0, none⟩)]) e94 (S := fun k => k = w.heap.size + 1) (whA b) 8 _ (fun k e => by omega) (fun w1 h => (hall w1 h).mono fun e w' h2 => ⟨h2.2, h2.1⟩))
    clear hall hrd hb0 hs1 hq hr hn hd hcm
    go_enter Tryz.func53, Tryz.ntmps53
    go_wp2_with (first
      | (go_at_call 93; have hF := HC.out; refine hF.mono ?_; rintro e w2 ⟨rfl, hc⟩; have HC2 := hide hc; have HB2 := hide (Hb0.out.chg hc (by omega)); have hz2 : w.heap.size < w2.heap.size := (by have := hc.size; omega); have hk2 := (Hb0.out.chg hc (by omega)).cell; have hf2 := (Hb0.out.chg hc (by omega)).frozen; clear hc; clear hF)
      | fail)
    refine bodyPost_ret (results_cell2 rfl rfl (two_blk HB2.out _ _ _) Tryz.underlying113 rfl (by kernel_rfl)) rfl ?_
    exact HE.out _ (two_same (Hs1.out.to.trans HC2.out fun k hk e => by omega) _ _ _)
  | some q =>
    obtain ⟨p, s⟩ := q
    have hlen := rdA_len hq
    have HV := hide (readD_of hq)
    rw [hq] at hall
    have hread : ∀ v : Bool × Bool, (wellB p s, decide (wrtD p s = b)) = v → readD b = if v.1 && v.2 then some (p, s) else none := fun v hv => by
      rw [HV.out, ← hv]
      cases h1 : wellB p s
      · simp
      · by_cases h2 : wrtD p s = b <;> simp [h2]
    have HC := hide (valueD_ok (K := 94) (caps := #[.pointer (some ⟨w.heap.size + 1, 0, none⟩)]) e94 (S := fun k => k = w.heap.size + 1) (PAll.keep p s) _ (fun k e => by omega) (fun w1 h => (hall w1 h).mono fun e w' h2 => by
      obtain ⟨hc, AP, cp, AS, cs, he, h3, h4⟩ := h2
      exact ⟨_, rfl, (by intro u hu; simp at hu; rcases hu with rfl | rfl <;> rfl), he, ⟨AP, cp, AS, cs, rfl, h3, h4⟩, hc⟩))
    have HWl := hide (fun (w' : World) (AP AS : Option Addr) (cp cs : Nat) (h1 : Row3 w' AP p.length cp p) (h2 : Row3 w' AS s.length cs s) => well_any p s w' h1 h2 (by omega) (by omega))
    have HWr := hide (fun (w' : World) (AP AS : Option Addr) (cp cs : Nat) (hw : wellB p s = true) (h1 : Row3 w' AP p.length cp p) (h2 : Row3 w' AS s.length cs s) => written_any p s w' h1 h2 hw (by omega) (by omega))
    have HBb := hide (fun (w' : World) (hs : Same w w') (A' : Option Addr) (c' : Nat) (v : Value) (hv : v = .slice A' (wrtD p s).length c') (h1 : Rd w' A' (bs (wrtD p s))) => (show Calls Tryz.prog 95 #[v, .slice A n c] w' fun e w'' => e = .returned (.bool (decide (wrtD p s = b))) ∧ w' = w'' by
      subst hv
      subst hn
      have := bequal_any (c := c') (d := c) (wrtD p s) b w' h1 (hr.same hs)
      rw [show (wrtD p s == b) = decide (wrtD p s = b) by rw [Bool.eq_iff_iff]; simp] at this
      exact this))
    clear hall hrd hb0 hs1 hq hr hn hd hcm
    cases hw : wellB p s with
    | false =>
      have HVN : Hid (readD b = none) := hide (hread (false, decide (wrtD p s = b)) (by rw [hw]))
      have HE : Hid (∀ w9, Same w w9 → ReadEnd w (readD b) (.returned (.tuple #[.agg #[.slice none 0 0, .slice none 0 0], .int .i64 8])) w9) := hide fun w9 hs => ⟨hs, by rw [HVN.out]; rfl⟩
      rw [hw] at HWl
      clear hread hw HWr HBb
      go_enter Tryz.func53, Tryz.ntmps53
      go_wp2_with (first
        | (go_at_call 93; have hF := HC.out; refine hF.mono ?_; rintro e w2 ⟨R, b0, hl, h1, rfl, ⟨AP, cp, AS, cs, rfl, hop, hos⟩, hb0, hc⟩; have HC2 := hide hc; have HB2 := hide (Hb0.out.chg hc (by omega)); have hz2 : w.heap.size < w2.heap.size := (by have := hc.size; omega); have hk2 := (Hb0.out.chg hc (by omega)).cell; have hf2 := (Hb0.out.chg hc (by omega)).frozen; have Hop := hide hop; have Hos := hide hos; have hbb0 : w.heap.size + 2 ≤ b0 := (by have := Hz1.out; omega); have HR1 := hide (Row3.own hop rfl); have HR2 := hide (Row3.own hos rfl); clear hc hl h1 hb0 hop hos; clear hF)
        | (go_at_call 47; have hF := HWl.out (w2.alloc (.cells #[.slice AP p.length cp, .slice AS s.length cs] 113)) _ _ _ _ (HR1.out.same ((Chg.refl _ _).alloc _)) (HR2.out.same ((Chg.refl _ _).alloc _)); (with_reducible refine hF.mono ?_); rintro e w3 ⟨rfl, hs3⟩; have Hs3 := hide hs3; have hk3 := ((HB2.out.alloc (.cells #[.slice AP p.length cp, .slice AS s.length cs] 113)).same hs3).cell; have hf3 := ((HB2.out.alloc (.cells #[.slice AP p.length cp, .slice AS s.length cs] 113)).same hs3).frozen; have hx3 := ((Blk.new w2 113 #[.slice AP p.length cp, .slice AS s.length cs]).same hs3).cell; clear hs3 hF)
        | fail)
      refine bodyPost_ret (results_cell2 rfl rfl (two_blk0 ((HB2.out.alloc (.cells #[.slice AP p.length cp, .slice AS s.length cs] 113)).same Hs3.out) _ _) Tryz.underlying113 rfl (by kernel_rfl)) rfl ?_
      exact HE.out _ (two_same0 (Same.trans ((Hs1.out.to.trans HC2.out fun k hk e => by omega : Chg (fun _ => False) w w2).alloc _) Hs3.out) _ _)
    | true =>
      rw [hw] at HWl
      have Hw := hide hw
      by_cases hb9 : wrtD p s = b
      · have HVS : Hid (readD b = some (p, s)) := hide (hread (true, true) (by rw [hw, decide_eq_true hb9]))
        rw [decide_eq_true hb9] at HBb
        clear hread hw hb9
        go_enter Tryz.func53, Tryz.ntmps53
        go_wp2_with (first
          | (go_at_call 93; have hF := HC.out; refine hF.mono ?_; rintro e w2 ⟨R, b0, hl, h1, rfl, ⟨AP, cp, AS, cs, rfl, hop, hos⟩, hb0, hc⟩; have HC2 := hide hc; have HB2 := hide (Hb0.out.chg hc (by omega)); have hz2 : w.heap.size < w2.heap.size := (by have := hc.size; omega); have hk2 := (Hb0.out.chg hc (by omega)).cell; have hf2 := (Hb0.out.chg hc (by omega)).frozen; have Hop := hide hop; have Hos := hide hos; have hbb0 : w.heap.size + 2 ≤ b0 := (by have := Hz1.out; omega); have HR1 := hide (Row3.own hop rfl); have HR2 := hide (Row3.own hos rfl); clear hc hl h1 hb0 hop hos; clear hF)
          | (go_at_call 47; have hF := HWl.out (w2.alloc (.cells #[.slice AP p.length cp, .slice AS s.length cs] 113)) _ _ _ _ (HR1.out.same ((Chg.refl _ _).alloc _)) (HR2.out.same ((Chg.refl _ _).alloc _)); (with_reducible refine hF.mono ?_); rintro e w3 ⟨rfl, hs3⟩; have Hs3 := hide hs3; have hk3 := ((HB2.out.alloc (.cells #[.slice AP p.length cp, .slice AS s.length cs] 113)).same hs3).cell; have hf3 := ((HB2.out.alloc (.cells #[.slice AP p.length cp, .slice AS s.length cs] 113)).same hs3).frozen; have hx3 := ((Blk.new w2 113 #[.slice AP p.length cp, .slice AS s.length cs]).same hs3).cell; clear hs3 hF)
          | (go_at_call 48; have hF := HWr.out w3 _ _ _ _ Hw.out ((HR1.out.same ((Chg.refl _ _).alloc _)).same Hs3.out) ((HR2.out.same ((Chg.refl _ _).alloc _)).same Hs3.out); (with_reducible refine hF.mono ?_); rintro e w4 ⟨A4, c4, rfl, ho4, hs4⟩; have Hs4 := hide hs4; have Hr4 := hide (own_rd ho4); have hk4 := (((HB2.out.alloc (.cells #[.slice AP p.length cp, .slice AS s.length cs] 113)).same Hs3.out).same hs4).cell; have hf4 := (((HB2.out.alloc (.cells #[.slice AP p.length cp, .slice AS s.length cs] 113)).same Hs3.out).same hs4).frozen; have hx4 := (((Blk.new w2 113 #[.slice AP p.length cp, .slice AS s.length cs]).same Hs3.out).same hs4).cell; clear hs4 ho4 hF)
          | (go_at_call 95; have hF := HBb.out w4 (Same.trans (Same.trans ((Hs1.out.to.trans HC2.out fun k hk e => by omega : Chg (fun _ => False) w w2).alloc _) Hs3.out) Hs4.out) A4 c4 _ rfl Hr4.out; (with_reducible refine hF.mono ?_); rintro e w5 ⟨rfl, rfl⟩; clear hF)
          | fail)
        refine bodyPost_ret (results_cell2 rfl rfl (two_blk0 (((HB2.out.alloc (.cells #[.slice AP p.length cp, .slice AS s.length cs] 113)).same Hs3.out).same Hs4.out) _ _) Tryz.underlying113 rfl (by kernel_rfl)) rfl ?_
        have hsf : Same w w4 := Same.trans (Same.trans ((Hs1.out.to.trans HC2.out fun k hk e => by omega : Chg (fun _ => False) w w2).alloc _) Hs3.out) Hs4.out
        have hsb : Same w2 w4 := Same.trans (Same.trans ((Chg.refl _ _).alloc _) Hs3.out) Hs4.out
        have hc9 := fun (u0 u1 : Value) => two_chg (S := fun k => k = w.heap.size) (g := w.heap.size) (Same.to hsb) rfl u0 u1
        refine ⟨two_same0 hsf _ _, ?_⟩
        rw [HVS.out]
        refine ⟨AP, cp, AS, cs, rfl, own_mono (own_chg Hop.out (hc9 _ _) fun k hk e => ?_) fun k hk => ?_, own_mono (own_chg Hos.out (hc9 _ _) fun k hk e => ?_) fun k hk => ?_⟩
        · have := (Hop.out.lt k hk).1; omega
        · have := (Hop.out.lt k hk).1; omega
        · have := (Hos.out.lt k hk).1; omega
        · have := (Hos.out.lt k hk).1; omega
      · have HVN : Hid (readD b = none) := hide (hread (true, false) (by rw [hw, decide_eq_false hb9]))
        have HE : Hid (∀ w9, Same w w9 → ReadEnd w (readD b) (.returned (.tuple #[.agg #[.slice none 0 0, .slice none 0 0], .int .i64 8])) w9) := hide fun w9 hs => ⟨hs, by rw [HVN.out]; rfl⟩
        rw [decide_eq_false hb9] at HBb
        clear hread hw hb9
        go_enter Tryz.func53, Tryz.ntmps53
        go_wp2_with (first
          | (go_at_call 93; have hF := HC.out; refine hF.mono ?_; rintro e w2 ⟨R, b0, hl, h1, rfl, ⟨AP, cp, AS, cs, rfl, hop, hos⟩, hb0, hc⟩; have HC2 := hide hc; have HB2 := hide (Hb0.out.chg hc (by omega)); have hz2 : w.heap.size < w2.heap.size := (by have := hc.size; omega); have hk2 := (Hb0.out.chg hc (by omega)).cell; have hf2 := (Hb0.out.chg hc (by omega)).frozen; have Hop := hide hop; have Hos := hide hos; have hbb0 : w.heap.size + 2 ≤ b0 := (by have := Hz1.out; omega); have HR1 := hide (Row3.own hop rfl); have HR2 := hide (Row3.own hos rfl); clear hc hl h1 hb0 hop hos; clear hF)
          | (go_at_call 47; have hF := HWl.out (w2.alloc (.cells #[.slice AP p.length cp, .slice AS s.length cs] 113)) _ _ _ _ (HR1.out.same ((Chg.refl _ _).alloc _)) (HR2.out.same ((Chg.refl _ _).alloc _)); (with_reducible refine hF.mono ?_); rintro e w3 ⟨rfl, hs3⟩; have Hs3 := hide hs3; have hk3 := ((HB2.out.alloc (.cells #[.slice AP p.length cp, .slice AS s.length cs] 113)).same hs3).cell; have hf3 := ((HB2.out.alloc (.cells #[.slice AP p.length cp, .slice AS s.length cs] 113)).same hs3).frozen; have hx3 := ((Blk.new w2 113 #[.slice AP p.length cp, .slice AS s.length cs]).same hs3).cell; clear hs3 hF)
          | (go_at_call 48; have hF := HWr.out w3 _ _ _ _ Hw.out ((HR1.out.same ((Chg.refl _ _).alloc _)).same Hs3.out) ((HR2.out.same ((Chg.refl _ _).alloc _)).same Hs3.out); (with_reducible refine hF.mono ?_); rintro e w4 ⟨A4, c4, rfl, ho4, hs4⟩; have Hs4 := hide hs4; have Hr4 := hide (own_rd ho4); have hk4 := (((HB2.out.alloc (.cells #[.slice AP p.length cp, .slice AS s.length cs] 113)).same Hs3.out).same hs4).cell; have hf4 := (((HB2.out.alloc (.cells #[.slice AP p.length cp, .slice AS s.length cs] 113)).same Hs3.out).same hs4).frozen; have hx4 := (((Blk.new w2 113 #[.slice AP p.length cp, .slice AS s.length cs]).same Hs3.out).same hs4).cell; clear hs4 ho4 hF)
          | (go_at_call 95; have hF := HBb.out w4 (Same.trans (Same.trans ((Hs1.out.to.trans HC2.out fun k hk e => by omega : Chg (fun _ => False) w w2).alloc _) Hs3.out) Hs4.out) A4 c4 _ rfl Hr4.out; (with_reducible refine hF.mono ?_); rintro e w5 ⟨rfl, rfl⟩; clear hF)
          | fail)
        refine bodyPost_ret (results_cell2 rfl rfl (two_blk0 (((HB2.out.alloc (.cells #[.slice AP p.length cp, .slice AS s.length cs] 113)).same Hs3.out).same Hs4.out) _ _) Tryz.underlying113 rfl (by kernel_rfl)) rfl ?_
        exact HE.out _ (two_same0 (Same.trans (Same.trans ((Hs1.out.to.trans HC2.out fun k hk e => by omega : Chg (fun _ => False) w w2).alloc _) Hs3.out) Hs4.out) _ _)
/-- how Read ends -/
def ReadV2 (w : World) (q : Option (List P3 × List P3)) (e : Ending) (w' : World) : Prop := match q with
  | none => e = .returned (.tuple #[.slice none 0 0, .slice none 0 0, .int .i64 8])
  | some q => ∃ AP cp AS cs, e = .returned (.tuple #[.slice AP q.1.length cp, .slice AS q.2.length cs, .int .i64 0]) ∧ w'.ownsRow w.heap.size 23 3 (.slice AP q.1.length cp) q.1.length (is3 q.1) ∧ w'.ownsRow w.heap.size 25 3 (.slice AS q.2.length cs) q.2.length (is3 q.2)
set_option maxRecDepth 100000 in
set_option maxHeartbeats 4000000 in
theorem dRead_any {A : Option Addr} {n c : Nat} (b : List UInt8) (w : World) (hr : Rd w A (bs b)) (hn : b.length = n) (hnc : n ≤ c) (hcm : c ≤ maxLen) (hd : ∀ k, blkOf A = some k → k < w.heap.size) (h6 : n ≤ 6000) :
    Calls Tryz.prog 23 #[.slice A n c] w fun e w' => Same w w' ∧ ReadV2 w (readD b) e w' := by
  have HR := hide (dread_any b w hr hn hnc hcm hd h6)
  clear hr hn hnc hcm hd h6
  cases hq : readD b with
  | none =>
    rw [hq] at HR
    clear hq
    go_enter Tryz.func23, Tryz.ntmps23
    go_wp2_with (first
      | (go_at_call 53; have hF := HR.out; (with_reducible refine hF.mono ?_); rintro e w2 ⟨hs, hv⟩; have h2 : e = .returned (.tuple #[.agg #[.slice none 0 0, .slice none 0 0], .int .i64 8]) := hv; subst h2; have Hs := hide hs; clear hs hv hF)
      | fail)
    go_quiet (fail)
    go_wp2_with fail
    refine bodyPost_ret (results_tmp3 rfl _ _ _) rfl ?_
    exact ⟨(Hs.out.alloc _).drewN _, by first | rfl | (show _ = _; rfl)⟩
  | some q =>
    obtain ⟨p, s⟩ := q
    rw [hq] at HR
    clear hq
    go_enter Tryz.func23, Tryz.ntmps23
    go_wp2_with (first
      | (go_at_call 53; have hF := HR.out; (with_reducible refine hF.mono ?_); rintro e w2 ⟨hs, AP, cp, AS, cs, rfl, ho1, ho2⟩; have Hs := hide hs; have Ho1 := hide ho1; have Ho2 := hide ho2; clear hs ho1 ho2 hF)
      | fail)
    go_quiet (fail)
    go_wp2_with fail
    refine bodyPost_ret (results_tmp3 rfl _ _ _) rfl ?_
    exact ⟨(Hs.out.alloc _).drewN _, AP, cp, AS, cs, rfl, own_chg Ho1.out (((Chg.refl (fun _ => False) w2).alloc _).drewN _) fun _ _ f => f, own_chg Ho2.out (((Chg.refl (fun _ => False) w2).alloc _).drewN _) fun _ _ f => f⟩
end Go.Proofs.YtopkdiiigidfdaaGreat
