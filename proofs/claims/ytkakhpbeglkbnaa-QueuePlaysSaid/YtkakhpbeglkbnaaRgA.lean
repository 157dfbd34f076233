/-
  The ring's leaf methods: New, place, seek, Head, Len: what they do, said of cells. Conditions: the ring's cells are known, at most 65536 wait.
-/
import Derived.Test.YtkakhpbeglkbnaaProg
import Derived.Test.YtkakhpbeglkbnaaLib
import Derived.Test.YtkakhpbeglkbnaaRgP
namespace Go.Proofs.Ytkakhpbeglkbnaa
open Go.RowKit Go.Al Go.Al.Rg
set_option linter.unusedVariables false

theorem slI : SlTy Try.prog 36 3 1 8 := .of (z := .int .i64 0) Try.underlying36 (by kernel_rfl) rfl (by decide)

/-- a ring: who waits, where the array lies, what it holds, where the first one is -/
def Rgm (w : World) (g most : Nat) (q : List Int) (A : Option Addr) (P : List Int) (a : Nat) : Prop :=
  Blk w g 59 #[.slice A P.length P.length, .int .i64 a, .int .i64 (q.length : Nat), .int .i64 most] ∧ (P ≠ [] → ∃ ga, A = some ⟨ga, 0, none⟩ ∧ Blk w ga 3 (is P).toArray ∧ a < P.length) ∧ (P = [] → a = 0 ∧ A = none) ∧
  q.length ≤ P.length ∧ Lay P a q ∧ q.length ≤ most ∧ P.length ≤ 2 * most + 1

theorem Rgm.chg {S : Nat → Prop} {w w' : World} {g most a : Nat} {q P : List Int} {A : Option Addr} (h : Rgm w g most q A P a) (hc : Chg S w w') (hg : ¬ S g) (hA : ∀ b, blkOf A = some b → ¬ S b) : Rgm w' g most q A P a := by
  obtain ⟨h1, h2, h3⟩ := h
  refine ⟨h1.chg hc hg, fun hp => ?_, h3⟩
  obtain ⟨ga, e, hb, ha⟩ := h2 hp
  exact ⟨ga, e, hb.chg hc (hA ga (by rw [e]; rfl)), ha⟩
theorem Rgm.same {w w' : World} {g most a : Nat} {q P : List Int} {A : Option Addr} (h : Rgm w g most q A P a) (hc : Same w w') : Rgm w' g most q A P a :=
  h.chg hc (fun hf => hf) fun _ _ hf => hf
theorem Rgm.ne {w : World} {g most a : Nat} {q P : List Int} {A : Option Addr} (h : Rgm w g most q A P a) {ga : Nat} (hb : Blk w ga 3 (is P).toArray) : ga ≠ g := fun e => by
  subst e
  have h1 := h.1.ty
  rw [hb.ty] at h1
  exact absurd (Option.some.inj h1) (by decide)

theorem Rgm.blk {w : World} {g most a : Nat} {q P : List Int} {A : Option Addr} (h : Rgm w g most q A P a) : ∀ b, blkOf A = some b → b < w.heap.size ∧ ty w b = some 3 ∧ b ≠ g := fun b hb => by
  by_cases hP : P = []
  · rw [(h.2.2.1 hP).2] at hb
    simp [blkOf] at hb
  · obtain ⟨ga, e, hga, _⟩ := h.2.1 hP
    rw [e] at hb
    simp [blkOf] at hb
    subst hb
    exact ⟨hga.lt, hga.ty, h.ne hga⟩

set_option maxHeartbeats 400000 in
theorem rnew_bad (most : Int) (w : World) (h : most < 1 ∨ 65536 < most) :
    Calls Try.prog 9 #[.int .i64 most] w fun e w' => e = .returned (.tuple #[.pointer none, .int .i64 1]) ∧ w = w' := by
  by_cases h1 : most < 1
  · clear h
    go_enter Try.func9, Try.ntmps9
    go_wp2
    go_ret2
    exact ⟨rfl, rfl⟩
  · have h2 : 65536 < most := by omega
    clear h
    go_enter Try.func9, Try.ntmps9
    go_wp2
    go_ret2
    exact ⟨rfl, rfl⟩

set_option maxHeartbeats 400000 in
theorem rnew_ok (m : Nat) (w : World) (h1 : 1 ≤ (m : Int)) (h2 : (m : Int) ≤ 65536) :
    Calls Try.prog 9 #[.int .i64 m] w fun e w' => e = .returned (.tuple #[.pointer (some ⟨w.heap.size, 0, none⟩), .int .i64 0]) ∧ Rgm w' w.heap.size m [] none [] 0 ∧ Same w w' := by
  go_enter Try.func9, Try.ntmps9
  go_wp2
  go_ret2
  exact ⟨rfl, ⟨Blk.new w _ _, fun h => absurd rfl h, fun _ => ⟨rfl, rfl⟩, Nat.le_refl _, Lay.nil _ _, Nat.zero_le _, Nat.zero_le _⟩, (Chg.refl _ w).alloc _⟩

set_option maxHeartbeats 400000 in
/-- where the i-th that waits lies -/
theorem place_any (g len c a : Nat) (i : Int) (p : Nat) (A : Option Addr) (w : World) (h0 : w.cell? ⟨g, 0, none⟩ = some (.slice A len c)) (h1 : w.cell? ⟨g, 1, none⟩ = some (.int .i64 a)) (ha : a < len) (hl : len ≤ 1048576) (hi : 0 ≤ i) (hi2 : i ≤ 1048576) (hp : ((a : Int) + i) % (len : Int) = (p : Int)) :
    Calls Try.prog 36 #[.pointer (some ⟨g, 0, none⟩), .int .i64 i] w fun e w' => e = .returned (.int .i64 p) ∧ ∃ k, w' = w.drewN k := by
  have hl0 : (0 : Int) < (len : Int) := by omega
  go_enter Try.func36, Try.ntmps36
  go_wp2_with fail
  go_quiet (fail)
  go_wp2_with fail
  go_ret
  exact ⟨by simp [hp], _, rfl⟩

theorem pmod (a i len : Nat) : ((a : Int) + (i : Int)) % (len : Int) = (((a + i) % len : Nat) : Int) := by rw [Int.natCast_emod, Int.natCast_add]

set_option maxHeartbeats 400000 in
theorem seek_nil (v : Int) (w : World) :
    Calls Try.prog 34 #[.pointer none, .int .i64 v] w fun e w' => e = .returned (.tuple #[.int .i64 0, .bool false]) ∧ w = w' := by
  go_enter Try.func34, Try.ntmps34
  go_wp2_with fail
  go_ret2
  exact ⟨rfl, rfl⟩

/-- what seek tells -/
def seekV (q : List Int) (v : Int) : Value := if v ∈ q then .tuple #[.int .i64 (pos q v : Nat), .bool true] else .tuple #[.int .i64 0, .bool false]

set_option maxRecDepth 100000 in
set_option maxHeartbeats 1000000 in
theorem seek_any (g most a : Nat) (q P : List Int) (A : Option Addr) (v : Int) (w : World) (hr : Rgm w g most q A P a) (hm : most ≤ 65536) :
    Calls Try.prog 34 #[.pointer (some ⟨g, 0, none⟩), .int .i64 v] w fun e w' => e = .returned (seekV q v) ∧ Same w w' := by
  have hk := hr.1.cell
  have hqm : q.length ≤ most := hr.2.2.2.2.2.1
  have hPl : P.length ≤ 2 * most + 1 := hr.2.2.2.2.2.2
  have Hr := hide hr
  clear hr
  go_enter Try.func34, Try.ntmps34
  go_wp2_with fail
  go_loopg [13] q.length (fun k vi wr => ∃ i : Nat, i ≤ q.length ∧ k = q.length - i ∧ vi = .int .i64 i ∧ (∀ j, j < i → q[j]? ≠ some v) ∧ Same w wr)
  case atStart => exact ⟨0, Nat.zero_le _, rfl, rfl, fun j h => by omega, Chg.refl _ _⟩
  case round =>
    obtain ⟨i, hi, hkk, rfl, hnot, hsame⟩ := hrel
    have Hk := hide hkk
    have Hnot := hide hnot
    have Hsame := hide hsame
    have hr := Hr.out.same hsame
    clear hkk hnot hsame hk
    by_cases hlt : i < q.length
    · have hk := hr.1.cell
      have hP : P ≠ [] := fun h => by have := hr.2.2.2.1; rw [h] at this; simp at this; rw [this] at hlt; simp at hlt
      obtain ⟨ga, rfl, hb, ha⟩ := hr.2.1 hP
      have hp : (a + i) % P.length < P.length := mod_lt' ha
      have hpm := pmod a i P.length
      have hcell : wr.cell? ⟨ga, (a + i) % P.length, none⟩ = some (.int .i64 q[i]) := by
        rw [hb.cell]
        have := hr.2.2.2.2.1 i hlt
        simp [is, this, hlt]
      generalize (a + i) % P.length = p at *
      have i0 : (0 : Int) ≤ (p : Int) := by omega
      have i1 : (p : Int) < (P.length : Int) := by omega
      have Hr' := hide hr
      have Hpm := hide hpm
      have Hfound := hide (fun h => pos_found hlt h Hnot.out : q[i] = v → v ∈ q ∧ pos q v = i)
      have hn2 : ¬ q[i] = v → ∀ j, j < i + 1 → q[j]? ≠ some v := fun hne j hj => by
        rcases Nat.lt_or_ge j i with h | h
        · exact Hnot.out j h
        · have : j = i := by omega
          subst this
          rw [List.getElem?_eq_getElem hlt]
          exact fun e => hne (Option.some.inj e)
      have Hn2 := hide hn2
      clear hn2
      have hk0 := hk 0
      have hk1 := hk 1
      clear hr hb hpm hk
      generalize q[i] = x at *
      by_cases hx : x = v
      · have hxb : (x == v) = true := by simp [hx]
        have Hx := hide hx
        clear hx
        go_wp2_with fail
        go_quiet ((go_at_call 36; exact Calls.quiet_of (place_any g P.length P.length a i p _ _ hk0 hk1 (by omega) (by omega) (by omega) (by omega) Hpm.out)))
        go_wp2_with fail
        go_ret2
        exact ⟨by rw [seekV, if_pos (Hfound.out Hx.out).1, (Hfound.out Hx.out).2]; rfl, Hsame.out.drewN _⟩
      · have hxb : (x == v) = false := by simp [hx]
        have Hx := hide hx
        clear hx
        go_wp2_with fail
        go_quiet ((go_at_call 36; exact Calls.quiet_of (place_any g P.length P.length a i p _ _ hk0 hk1 (by omega) (by omega) (by omega) (by omega) Hpm.out)))
        go_wp2_with fail
        go_roundg (q.length - (i + 1))
        case measure => have := Hk.out; omega
        case rel => exact ⟨i + 1, by omega, rfl, by go_num, Hn2.out Hx.out, Hsame.out.drewN _⟩
    · go_wp2_with fail
      go_ret2
      have e : ¬ v ∈ q := not_mem_of fun j hj => Hnot.out j (by omega)
      exact ⟨by rw [seekV, if_neg e]; rfl, Hsame.out⟩

set_option maxHeartbeats 400000 in
theorem Head_nil (w : World) :
    Calls Try.prog 18 #[.pointer none] w fun e w' => e = .returned (.tuple #[.int .i64 0, .bool false]) ∧ w = w' := by
  go_enter Try.func18, Try.ntmps18
  go_wp2_with fail
  go_ret2
  exact ⟨rfl, rfl⟩
set_option maxHeartbeats 400000 in
theorem Head_empty (g most a : Nat) (P : List Int) (A : Option Addr) (w : World) (hr : Rgm w g most [] A P a) :
    Calls Try.prog 18 #[.pointer (some ⟨g, 0, none⟩)] w fun e w' => e = .returned (.tuple #[.int .i64 0, .bool false]) ∧ w = w' := by
  have hk := hr.1.cell
  clear hr
  go_enter Try.func18, Try.ntmps18
  go_wp2_with fail
  go_ret2
  exact ⟨rfl, rfl⟩
theorem Rgm.first {w : World} {g most a : Nat} {x : Int} {q P : List Int} {A : Option Addr} (h : Rgm w g most (x :: q) A P a) : ∃ ga, A = some ⟨ga, 0, none⟩ ∧ Blk w ga 3 (is P).toArray ∧ a < P.length ∧ w.cell? ⟨ga, a, none⟩ = some (.int .i64 x) := by
  have hP : P ≠ [] := fun e => by have := h.2.2.2.1; rw [e] at this; simp at this
  obtain ⟨ga, e, hb, ha⟩ := h.2.1 hP
  refine ⟨ga, e, hb, ha, ?_⟩
  rw [hb.cell]
  have := h.2.2.2.2.1 0 (by simp)
  rw [Nat.add_zero, Nat.mod_eq_of_lt ha] at this
  simp [is, this]
set_option maxHeartbeats 400000 in
theorem Head_any (g most a : Nat) (x : Int) (q P : List Int) (A : Option Addr) (w : World) (hr : Rgm w g most (x :: q) A P a) (hm : most ≤ 65536) :
    Calls Try.prog 18 #[.pointer (some ⟨g, 0, none⟩)] w fun e w' => e = .returned (.tuple #[.int .i64 x, .bool true]) ∧ Same w w' := by
  obtain ⟨ga, rfl, hb, ha, hcell⟩ := hr.first
  have hk0 := hr.1.cell 0
  have hk1 := hr.1.cell 1
  have hk2 : w.cell? ⟨g, 2, none⟩ = some (.int .i64 ((q.length : Int) + 1)) := by rw [hr.1.cell]; simp
  have hqm : q.length + 1 ≤ most := hr.2.2.2.2.2.1
  have i0 : (0 : Int) ≤ (a : Int) := by omega
  have i1 : (a : Int) < (P.length : Int) := by omega
  have hb0 : (((q.length : Int) + 1) == 0) = false := by simp; omega
  clear hr hb
  go_enter Try.func18, Try.ntmps18
  go_wp2_with fail
  go_quiet (fail)
  go_wp2_with fail
  go_ret2
  exact ⟨rfl, Same.of_drewN _ _⟩
set_option maxHeartbeats 400000 in
theorem Len_nil (w : World) :
    Calls Try.prog 21 #[.pointer none] w fun e w' => e = .returned (.int .i64 0) ∧ w = w' := by
  go_enter Try.func21, Try.ntmps21
  go_wp2_with fail
  go_ret
  exact ⟨rfl, rfl⟩
set_option maxHeartbeats 400000 in
theorem Len_any (g most a : Nat) (q P : List Int) (A : Option Addr) (w : World) (hr : Rgm w g most q A P a) :
    Calls Try.prog 21 #[.pointer (some ⟨g, 0, none⟩)] w fun e w' => e = .returned (.int .i64 (q.length : Nat)) ∧ w = w' := by
  have hk := hr.1.cell
  clear hr
  go_enter Try.func21, Try.ntmps21
  go_wp2_with fail
  go_ret
  exact ⟨rfl, rfl⟩
theorem Place_nil (v : Int) (w : World) :
    Calls Try.prog 14 #[.pointer none, .int .i64 v] w fun e w' => e = .returned (.tuple #[.int .i64 0, .bool false]) ∧ w = w' := by
  go_enter Try.func14, Try.ntmps14
  go_wp2_with (go_at_call 34; refine (seek_nil _ _).mono ?_; rintro e w' ⟨rfl, rfl⟩)
  go_ret2
  exact ⟨rfl, rfl⟩
set_option maxHeartbeats 400000 in
theorem Place_any (g most a : Nat) (q P : List Int) (A : Option Addr) (v : Int) (w : World) (hr : Rgm w g most q A P a) (hm : most ≤ 65536) :
    Calls Try.prog 14 #[.pointer (some ⟨g, 0, none⟩), .int .i64 v] w fun e w' => e = .returned (seekV q v) ∧ Same w w' := by
  have H := hide (seek_any g most a q P A v w hr hm)
  clear hr
  by_cases hv : v ∈ q
  · have e : seekV q v = .tuple #[.int .i64 (pos q v : Nat), .bool true] := by rw [seekV, if_pos hv]
    rw [e] at H ⊢
    clear e hv
    go_enter Try.func14, Try.ntmps14
    go_wp2_with (go_at_call 34; refine H.out.mono ?_; rintro e w' ⟨rfl, hs⟩; have Hs := hide hs; clear hs)
    go_ret2
    exact ⟨rfl, Hs.out⟩
  · have e : seekV q v = .tuple #[.int .i64 0, .bool false] := by rw [seekV, if_neg hv]
    rw [e] at H ⊢
    clear e hv
    go_enter Try.func14, Try.ntmps14
    go_wp2_with (go_at_call 34; refine H.out.mono ?_; rintro e w' ⟨rfl, hs⟩; have Hs := hide hs; clear hs)
    go_ret2
    exact ⟨rfl, Hs.out⟩
end Go.Proofs.Ytkakhpbeglkbnaa
