/-
  The document's set of points and intervals: where one stands, and what is wrong of a change. Condition: at most 65536 of each.
  The document's set: May. Condition: at most 65536 of each.
-/
import Derived.Test.YtlimpepdelpogaaGreatDoorTbC
import Derived.Test.YtlimpepdelpogaaGreatDoorTcP
/-! TcA -/
namespace Go.Proofs.YtlimpepdelpogaaGreatDoor
open Go.RowKit Go.Al
set_option linter.unusedVariables false
set_option maxHeartbeats 4000000
set_option maxRecDepth 100000
/-- the document's set -/
structure SetR (w : World) (g : Nat) (AP : Option Addr) (cp : Nat) (AS : Option Addr) (cs : Nat) (most : Int) (p s : List P3) : Prop where
  blk : Blk w g 67 #[.slice AP p.length cp, .slice AS s.length cs, .int .i64 most]
  rp : Row3 w AP p.length cp p
  rs : Row3 w AS s.length cs s
  np : blkOf AP ≠ some g
  ns : blkOf AS ≠ some g
theorem SetR.chg {S : Nat → Prop} {w w' : World} {g cp cs : Nat} {AP AS : Option Addr} {most : Int} {p s : List P3} (h : SetR w g AP cp AS cs most p s) (hc : Chg S w w') (h1 : ¬ S g) (h2 : ∀ b, blkOf AP = some b → ¬ S b) (h3 : ∀ b, blkOf AS = some b → ¬ S b) : SetR w' g AP cp AS cs most p s :=
  ⟨h.blk.chg hc h1, h.rp.chg hc h2, h.rs.chg hc h3, h.np, h.ns⟩
theorem SetR.same {w w' : World} {g cp cs : Nat} {AP AS : Option Addr} {most : Int} {p s : List P3} (h : SetR w g AP cp AS cs most p s) (hc : Same w w') : SetR w' g AP cp AS cs most p s :=
  h.chg hc (fun h => h) (fun _ _ h => h) fun _ _ h => h
theorem pointAt_any {g cp cs : Nat} {AP AS : Option Addr} {most : Int} {p s : List P3} (k : Int) (w : World) (h : SetR w g AP cp AS cs most p s) (hn : p.length ≤ 65536) :
    Calls Tryz.prog 59 #[.pointer (some ⟨g, 0, none⟩), .int .i64 k] w fun e w' => e = .returned (.int .i64 (at3 p k)) ∧ w = w' := by
  have hkt := h.blk.cell
  have Hr := hide h.rp
  obtain ⟨n, hnn⟩ : ∃ n, n = p.length := ⟨_, rfl⟩
  rw [← hnn] at hkt hn
  clear h
  go_enter Tryz.func59, Tryz.ntmps59
  go_wp2_with fail
  go_loopg [5] n (fun m vi wr => ∃ i : Nat, i ≤ n ∧ m = n - i ∧ vi = .int .i64 i ∧ (∀ j (hj : j < p.length), j < i → ¬ p[j].1 = k) ∧ w = wr)
  case atStart => exact ⟨0, Nat.zero_le _, rfl, rfl, fun j _ h => by omega, rfl⟩
  case round =>
    obtain ⟨i, hi, hkk, rfl, hnot, rfl⟩ := hrel
    have Hk := hide hkk
    have Hnot := hide hnot
    clear hkk hnot
    by_cases hlt : i < n
    · have hil : i < p.length := by omega
      obtain ⟨b, off, rfl, hbl, hc, _, _⟩ := Hr.out.at_ hil
      have Hfound := hide (fun h => pos3_found hil h (fun j hj => Hnot.out j (by omega) hj) : p[i].1 = k → hasK p k = true ∧ pos3 p k = i)
      have Hn2 : Hid (¬ p[i].1 = k → ∀ j (hj : j < p.length), j < i + 1 → ¬ p[j].1 = k) := hide fun hne j hj hj1 => by
        rcases Nat.lt_or_ge j i with h | h
        · exact Hnot.out j hj h
        · have : j = i := by omega
          subst this
          exact hne
      generalize p[i].1 = x at *
      by_cases hx : x = k
      · have hxb : (x == k) = true := by simp [hx]
        obtain ⟨h1, h2⟩ := Hfound.out hx
        clear hx
        go_wp2_with fail
        go_ret
        exact ⟨by rw [at3, if_pos h1, h2]; rfl, rfl⟩
      · have hxb : (x == k) = false := by simp [hx]
        have Hn3 := hide (Hn2.out hx)
        clear hx
        go_wp2_with fail
        go_roundg (n - (i + 1))
        case measure => have := Hk.out; omega
        case rel => exact ⟨i + 1, by omega, rfl, by go_num, Hn3.out, rfl⟩
    · have h := hasK_none (l := p) (k := k) (fun j hj => Hnot.out j hj (by omega))
      go_wp2_with fail
      go_ret
      exact ⟨by rw [at3, h]; rfl, rfl⟩
theorem spanAt_any {g cp cs : Nat} {AP AS : Option Addr} {most : Int} {p s : List P3} (k : Int) (w : World) (h : SetR w g AP cp AS cs most p s) (hn : s.length ≤ 65536) :
    Calls Tryz.prog 60 #[.pointer (some ⟨g, 0, none⟩), .int .i64 k] w fun e w' => e = .returned (.int .i64 (at3 s k)) ∧ w = w' := by
  have hkt := h.blk.cell
  have Hr := hide h.rs
  obtain ⟨n, hnn⟩ : ∃ n, n = s.length := ⟨_, rfl⟩
  rw [← hnn] at hkt hn
  clear h
  go_enter Tryz.func60, Tryz.ntmps60
  go_wp2_with fail
  go_loopg [5] n (fun m vi wr => ∃ i : Nat, i ≤ n ∧ m = n - i ∧ vi = .int .i64 i ∧ (∀ j (hj : j < s.length), j < i → ¬ s[j].1 = k) ∧ w = wr)
  case atStart => exact ⟨0, Nat.zero_le _, rfl, rfl, fun j _ h => by omega, rfl⟩
  case round =>
    obtain ⟨i, hi, hkk, rfl, hnot, rfl⟩ := hrel
    have Hk := hide hkk
    have Hnot := hide hnot
    clear hkk hnot
    by_cases hlt : i < n
    · have hil : i < s.length := by omega
      obtain ⟨b, off, rfl, hbl, hc, _, _⟩ := Hr.out.at_ hil
      have Hfound := hide (fun h => pos3_found hil h (fun j hj => Hnot.out j (by omega) hj) : s[i].1 = k → hasK s k = true ∧ pos3 s k = i)
      have Hn2 : Hid (¬ s[i].1 = k → ∀ j (hj : j < s.length), j < i + 1 → ¬ s[j].1 = k) := hide fun hne j hj hj1 => by
        rcases Nat.lt_or_ge j i with h | h
        · exact Hnot.out j hj h
        · have : j = i := by omega
          subst this
          exact hne
      generalize s[i].1 = x at *
      by_cases hx : x = k
      · have hxb : (x == k) = true := by simp [hx]
        obtain ⟨h1, h2⟩ := Hfound.out hx
        clear hx
        go_wp2_with fail
        go_ret
        exact ⟨by rw [at3, if_pos h1, h2]; rfl, rfl⟩
      · have hxb : (x == k) = false := by simp [hx]
        have Hn3 := hide (Hn2.out hx)
        clear hx
        go_wp2_with fail
        go_roundg (n - (i + 1))
        case measure => have := Hk.out; omega
        case rel => exact ⟨i + 1, by omega, rfl, by go_num, Hn3.out, rfl⟩
    · have h := hasK_none (l := s) (k := k) (fun j hj => Hnot.out j hj (by omega))
      go_wp2_with fail
      go_ret
      exact ⟨by rw [at3, h]; rfl, rfl⟩
/-! what is wrong of a change by itself -/
def idOk (x : Int) : Bool := decide (1 ≤ x) && decide (x ≤ 2147483647)
theorem coord_any (x : Int) (w : World) : Calls Tryz.prog 63 #[.int .i64 x] w fun e w' => e = .returned (.bool (good x)) ∧ w = w' := by
  unfold good
  by_cases h : -1099511627776 ≤ x
  · go_enter Tryz.func63, Tryz.ntmps63
    go_wp2_with fail
    go_ret
    exact ⟨by simp [h], rfl⟩
  · rw [decide_eq_false h]
    go_enter Tryz.func63, Tryz.ntmps63
    go_wp2_with fail
    go_ret
    exact ⟨by simp, rfl⟩
theorem coord_is (x : Int) (w : World) (v : Bool) (h : good x = v) : Calls Tryz.prog 63 #[.int .i64 x] w fun e w' => e = .returned (.bool v) ∧ w = w' := h ▸ coord_any x w
theorem idok_any (x : Int) (w : World) : Calls Tryz.prog 133 #[.int .i64 x] w fun e w' => e = .returned (.bool (idOk x)) ∧ w = w' := by
  unfold idOk
  by_cases h : 1 ≤ x
  · go_enter Tryz.func133, Tryz.ntmps133
    go_wp2_with fail
    go_ret
    exact ⟨by simp [h], rfl⟩
  · rw [decide_eq_false h]
    go_enter Tryz.func133, Tryz.ntmps133
    go_wp2_with fail
    go_ret
    exact ⟨by simp, rfl⟩
theorem idok_is (x : Int) (w : World) (v : Bool) (h : idOk x = v) : Calls Tryz.prog 133 #[.int .i64 x] w fun e w' => e = .returned (.bool v) ∧ w = w' := h ▸ idok_any x w
theorem lies_is (i x y : Int) (w : World) (v : Bool) (h : (good x && good y) = v) :
    Calls Tryz.prog 134 #[.agg #[.int .i64 i, .int .i64 x, .int .i64 y]] w fun e w' => e = .returned (.bool v) ∧ Same w w' := by
  subst h
  have HG := hide coord_is
  have Hs : Hid (Same w (w.alloc (.cells #[.int .i64 i, .int .i64 x, .int .i64 y] 25))) := hide ((Chg.refl _ w).alloc _)
  cases hx : good x
  · go_enter Tryz.func134, Tryz.ntmps134
    go_wp2_with (go_at_call 63; refine (HG.out x _ _ hx).mono ?_; rintro e w1 ⟨rfl, hww⟩; subst hww)
    go_ret
    exact ⟨rfl, Hs.out⟩
  · cases hy : good y
    · go_enter Tryz.func134, Tryz.ntmps134
      go_wp2_with (first
        | (go_at_call_of 63 (Value.int IntKind.i64 x); refine (HG.out x _ _ hx).mono ?_; rintro e w1 ⟨rfl, hww⟩; subst hww)
        | (go_at_call_of 63 (Value.int IntKind.i64 y); refine (HG.out y _ _ hy).mono ?_; rintro e w1 ⟨rfl, hww⟩; subst hww))
      go_ret
      exact ⟨rfl, Hs.out⟩
    · go_enter Tryz.func134, Tryz.ntmps134
      go_wp2_with (first
        | (go_at_call_of 63 (Value.int IntKind.i64 x); refine (HG.out x _ _ hx).mono ?_; rintro e w1 ⟨rfl, hww⟩; subst hww)
        | (go_at_call_of 63 (Value.int IntKind.i64 y); refine (HG.out y _ _ hy).mono ?_; rintro e w1 ⟨rfl, hww⟩; subst hww))
      go_ret
      exact ⟨rfl, Hs.out⟩
theorem judge_bad {c : Cg} (h : ¬ (c.k = 1 ∨ c.k = 2 ∨ c.k = 3 ∨ c.k = 4)) : judgeE c = 1 := by
  unfold judgeE kindC
  rw [if_pos (.inl (by simpa using h))]
theorem judge_id {c : Cg} (hk : c.k = 1 ∨ c.k = 2 ∨ c.k = 3 ∨ c.k = 4) (h : idOk (idC c) = false) : judgeE c = 1 := by
  unfold judgeE
  rw [if_pos]
  unfold idOk at h
  simp at h
  by_cases h1 : 1 ≤ idC c
  · exact .inr (.inr (h h1))
  · exact .inr (.inl (by omega))
theorem judge_place {c : Cg} (hk : c.k = 1 ∨ c.k = 2 ∨ c.k = 3 ∨ c.k = 4) (h : idOk (idC c) = true) : judgeE c = placeE c := by
  unfold judgeE
  unfold idOk at h
  simp at h
  rw [if_neg]
  rintro (h1 | h1 | h1)
  · simp [kindC, hk] at h1
  · omega
  · omega
theorem judgeR_any (c : Cg) (w : World) :
    Calls Tryz.prog 94 #[cgV c] w fun e w' => e = .returned (.int .i64 (judgeE c)) ∧ Same w w' := by
  have HI := hide idok_is
  have HC := hide coord_is
  have HL := hide lies_is
  have hs : Same w (w.alloc (.cells (bx c) 29)) := (Chg.refl _ w).alloc _
  have hb := Blk.new w 29 (bx c)
  have Hs := hide hs
  have Hb := hide hb
  have hB := judge_bad (c := c)
  have hI := judge_id (c := c)
  have hP := judge_place (c := c)
  clear hs hb
  obtain ⟨k, ⟨pi, px, py⟩, ⟨si, lo, hi⟩⟩ := c
  unfold cgV bx at *
  by_cases hk : k = 1 ∨ k = 2 ∨ k = 3 ∨ k = 4
  · clear hB
    cases hid : idOk (idC ⟨k, (pi, px, py), (si, lo, hi)⟩)
    · rw [hI hk hid]
      clear hI hP
      rcases hk with rfl | rfl | rfl | rfl
      · go_enter Tryz.func94, Tryz.ntmps94
        go_wp2_with (first
          | (go_at_call 133; refine (HI.out _ _ _ hid).mono ?_; rintro e w1 ⟨rfl, hww⟩; subst hww))
        go_ret
        exact ⟨rfl, Hs.out⟩
      · go_enter Tryz.func94, Tryz.ntmps94
        go_wp2_with (first
          | (go_at_call 133; refine (HI.out _ _ _ hid).mono ?_; rintro e w1 ⟨rfl, hww⟩; subst hww))
        go_ret
        exact ⟨rfl, Hs.out⟩
      · go_enter Tryz.func94, Tryz.ntmps94
        go_wp2_with (first
          | (go_at_call 133; refine (HI.out _ _ _ hid).mono ?_; rintro e w1 ⟨rfl, hww⟩; subst hww))
        go_ret
        exact ⟨rfl, Hs.out⟩
      · go_enter Tryz.func94, Tryz.ntmps94
        go_wp2_with (first
          | (go_at_call 133; refine (HI.out _ _ _ hid).mono ?_; rintro e w1 ⟨rfl, hww⟩; subst hww))
        go_ret
        exact ⟨rfl, Hs.out⟩
    · rw [hP hk hid]
      clear hI hP
      rcases hk with rfl | rfl | rfl | rfl
      · cases hl : (good px && good py)
        · rw [show placeE ⟨1, (pi, px, py), (si, lo, hi)⟩ = 2 by simp [placeE]; simpa using hl]
          go_enter Tryz.func94, Tryz.ntmps94
          go_wp2_with (first
            | (go_at_call 133; refine (HI.out _ _ _ hid).mono ?_; rintro e w1 ⟨rfl, hww⟩; subst hww)
            | (go_at_call 134; refine (HL.out _ _ _ _ _ hl).mono ?_; rintro e w2 ⟨rfl, hs2⟩; have hk2 := (Hb.out.same hs2).cell; have Hs2 := hide (Same.trans Hs.out hs2); clear hs2))
          go_ret
          exact ⟨rfl, Hs2.out⟩
        · rw [show placeE ⟨1, (pi, px, py), (si, lo, hi)⟩ = 0 by simp [placeE]; simpa using hl]
          go_enter Tryz.func94, Tryz.ntmps94
          go_wp2_with (first
            | (go_at_call 133; refine (HI.out _ _ _ hid).mono ?_; rintro e w1 ⟨rfl, hww⟩; subst hww)
            | (go_at_call 134; refine (HL.out _ _ _ _ _ hl).mono ?_; rintro e w2 ⟨rfl, hs2⟩; have hk2 := (Hb.out.same hs2).cell; have Hs2 := hide (Same.trans Hs.out hs2); clear hs2))
          go_ret
          exact ⟨rfl, Hs2.out⟩
      · go_enter Tryz.func94, Tryz.ntmps94
        go_wp2_with (first
          | (go_at_call 133; refine (HI.out _ _ _ hid).mono ?_; rintro e w1 ⟨rfl, hww⟩; subst hww))
        go_ret
        exact ⟨rfl, Hs.out⟩
      · cases hlo : good lo
        · rw [show placeE ⟨3, (pi, px, py), (si, lo, hi)⟩ = 2 by simp [placeE, hlo]]
          go_enter Tryz.func94, Tryz.ntmps94
          go_wp2_with (first
            | (go_at_call 133; refine (HI.out _ _ _ hid).mono ?_; rintro e w1 ⟨rfl, hww⟩; subst hww)
            | (go_at_call_of 63 (Value.int IntKind.i64 lo); refine (HC.out lo _ _ hlo).mono ?_; rintro e w1 ⟨rfl, hww⟩; subst hww))
          go_ret
          exact ⟨rfl, Hs.out⟩
        · cases hhi : good hi
          · rw [show placeE ⟨3, (pi, px, py), (si, lo, hi)⟩ = 2 by simp [placeE, hlo, hhi]]
            go_enter Tryz.func94, Tryz.ntmps94
            go_wp2_with (first
              | (go_at_call 133; refine (HI.out _ _ _ hid).mono ?_; rintro e w1 ⟨rfl, hww⟩; subst hww)
              | (go_at_call_of 63 (Value.int IntKind.i64 lo); refine (HC.out lo _ _ hlo).mono ?_; rintro e w1 ⟨rfl, hww⟩; subst hww)
              | (go_at_call_of 63 (Value.int IntKind.i64 hi); refine (HC.out hi _ _ hhi).mono ?_; rintro e w1 ⟨rfl, hww⟩; subst hww))
            go_ret
            exact ⟨rfl, Hs.out⟩
          · by_cases hlh : hi < lo
            · rw [show placeE ⟨3, (pi, px, py), (si, lo, hi)⟩ = 3 by simp [placeE, hlo, hhi, hlh]]
              go_enter Tryz.func94, Tryz.ntmps94
              go_wp2_with (first
                | (go_at_call 133; refine (HI.out _ _ _ hid).mono ?_; rintro e w1 ⟨rfl, hww⟩; subst hww)
                | (go_at_call_of 63 (Value.int IntKind.i64 lo); refine (HC.out lo _ _ hlo).mono ?_; rintro e w1 ⟨rfl, hww⟩; subst hww)
                | (go_at_call_of 63 (Value.int IntKind.i64 hi); refine (HC.out hi _ _ hhi).mono ?_; rintro e w1 ⟨rfl, hww⟩; subst hww))
              go_ret
              exact ⟨rfl, Hs.out⟩
            · rw [show placeE ⟨3, (pi, px, py), (si, lo, hi)⟩ = 0 by simp [placeE, hlo, hhi, hlh]]
              go_enter Tryz.func94, Tryz.ntmps94
              go_wp2_with (first
                | (go_at_call 133; refine (HI.out _ _ _ hid).mono ?_; rintro e w1 ⟨rfl, hww⟩; subst hww)
                | (go_at_call_of 63 (Value.int IntKind.i64 lo); refine (HC.out lo _ _ hlo).mono ?_; rintro e w1 ⟨rfl, hww⟩; subst hww)
                | (go_at_call_of 63 (Value.int IntKind.i64 hi); refine (HC.out hi _ _ hhi).mono ?_; rintro e w1 ⟨rfl, hww⟩; subst hww))
              go_ret
              exact ⟨rfl, Hs.out⟩
      · go_enter Tryz.func94, Tryz.ntmps94
        go_wp2_with (first
          | (go_at_call 133; refine (HI.out _ _ _ hid).mono ?_; rintro e w1 ⟨rfl, hww⟩; subst hww))
        go_ret
        exact ⟨rfl, Hs.out⟩
  · rw [hB hk]
    clear hI hP hB
    by_cases h1 : k < 1
    · go_enter Tryz.func94, Tryz.ntmps94
      go_wp2_with fail
      go_ret
      exact ⟨rfl, Hs.out⟩
    · have h4 : 4 < k := by omega
      go_enter Tryz.func94, Tryz.ntmps94
      go_wp2_with fail
      go_ret
      exact ⟨rfl, Hs.out⟩
end Go.Proofs.YtlimpepdelpogaaGreatDoor
/-! TcB -/
namespace Go.Proofs.YtlimpepdelpogaaGreatDoor
open Go.RowKit Go.Al
set_option linter.unusedVariables false
set_option maxHeartbeats 8000000
set_option maxRecDepth 100000
theorem at3_in {l : List P3} {k : Int} (h : hasK l k = true) : at3 l k = (pos3 l k : Nat) := if_pos h
theorem at3_out {l : List P3} {k : Int} (h : hasK l k = false) : at3 l k = -1 := by rw [at3, h]; rfl
theorem may_k1 {p s : List P3} {most : Int} {q x : P3} (h : judgeE ⟨1, q, x⟩ = 0) : mayE p s most ⟨1, q, x⟩ = if hasK p q.1 then 5 else if most ≤ (p.length : Int) + (s.length : Int) then 4 else 0 := by
  simp [mayE, h, addsC, isC, idC]
theorem may_k2 {p s : List P3} {most : Int} {q x : P3} (h : judgeE ⟨2, q, x⟩ = 0) : mayE p s most ⟨2, q, x⟩ = if hasK p q.1 then 0 else 6 := by
  simp [mayE, h, addsC, isC, idC]
theorem may_k3 {p s : List P3} {most : Int} {q x : P3} (h : judgeE ⟨3, q, x⟩ = 0) : mayE p s most ⟨3, q, x⟩ = if hasK s x.1 then 5 else if most ≤ (p.length : Int) + (s.length : Int) then 4 else 0 := by
  simp [mayE, h, addsC, isC, idC]
theorem may_k4 {p s : List P3} {most : Int} {q x : P3} (h : judgeE ⟨4, q, x⟩ = 0) : mayE p s most ⟨4, q, x⟩ = if hasK s x.1 then 0 else 6 := by
  simp [mayE, h, addsC, isC, idC]
theorem mayR_any {g cp cs : Nat} {AP AS : Option Addr} {most : Int} {p s : List P3} (c : Cg) (w : World) (h : SetR w g AP cp AS cs most p s) (hp : p.length ≤ 65536) (hs : s.length ≤ 65536) :
    Calls Tryz.prog 58 #[.pointer (some ⟨g, 0, none⟩), cgV c] w fun e w' => e = .returned (.int .i64 (mayE p s most c)) ∧ Same w w' := by
  have HJ := hide (judgeR_any c)
  have HP := hide (fun k w' (hs : Same w w') => pointAt_any k w' (h.same hs) hp)
  have HS := hide (fun k w' (hs' : Same w w') => spanAt_any k w' (h.same hs') hs)
  have H := hide h
  have hsm : Same w (w.alloc (.cells (bx c) 29)) := (Chg.refl _ w).alloc _
  have hb := Blk.new w 29 (bx c)
  have Hs := hide hsm
  have Hb := hide hb
  clear h hsm hb
  by_cases hj : judgeE c = 0
  · have hk : c.k = 1 ∨ c.k = 2 ∨ c.k = 3 ∨ c.k = 4 := by
      rcases Classical.em (c.k = 1 ∨ c.k = 2 ∨ c.k = 3 ∨ c.k = 4) with h | h
      · exact h
      · rw [judge_bad h] at hj; simp at hj
    rw [hj] at HJ
    have hw : IntKind.i64.wrap ((p.length : Int) + (s.length : Int)) = (p.length : Int) + (s.length : Int) := IntWalk.i64_in _ (by omega)
    obtain ⟨k, ⟨pi, px, py⟩, ⟨si, lo, hi⟩⟩ := c
    simp only at hk
    rcases hk with rfl | rfl | rfl | rfl
    · cases hb0 : hasK p pi
      · by_cases hf : most ≤ (p.length : Int) + (s.length : Int)
        · rw [may_k1 hj]
          have hb1 : hasK p pi = false := hb0
          have ha := at3_out hb1
          rw [if_neg (by rw [hb1]; simp)]
          rw [if_pos hf]
          have hkt := fun w' (h : Same w w') => (H.out.same h).blk.cell
          generalize p.length = a at *
          generalize s.length = b at *
          unfold cgV bx at *
          have Hkt := hide hkt
          have Ha := hide ha
          clear hb0 hb1 hkt ha hj
          go_enter Tryz.func58, Tryz.ntmps58
          go_wp2_with (first
            | (go_at_call 94; refine (HJ.out _).mono ?_; rintro e w1 ⟨rfl, hs1⟩; have hk1 := (Hb.out.same hs1).cell; have hkt1 := Hkt.out _ (Same.trans Hs.out hs1); have bg1 := (Hb.out.same hs1).lt; have Hs1 := hide (Same.trans Hs.out hs1); clear hs1)
            | (go_at_call 59; have hF := HP.out pi w1 Hs1.out; rw [Ha.out] at hF; refine hF.mono ?_; rintro e w2 ⟨rfl, hww⟩; subst hww; clear hF))
          go_quiet (fail)
          go_wp2_with fail
          go_ret
          exact ⟨rfl, Same.trans Hs1.out (Same.of_drewN _ _)⟩
        · rw [may_k1 hj]
          have hb1 : hasK p pi = false := hb0
          have ha := at3_out hb1
          rw [if_neg (by rw [hb1]; simp)]
          rw [if_neg hf]
          have hkt := fun w' (h : Same w w') => (H.out.same h).blk.cell
          generalize p.length = a at *
          generalize s.length = b at *
          unfold cgV bx at *
          have Hkt := hide hkt
          have Ha := hide ha
          clear hb0 hb1 hkt ha hj
          go_enter Tryz.func58, Tryz.ntmps58
          go_wp2_with (first
            | (go_at_call 94; refine (HJ.out _).mono ?_; rintro e w1 ⟨rfl, hs1⟩; have hk1 := (Hb.out.same hs1).cell; have hkt1 := Hkt.out _ (Same.trans Hs.out hs1); have bg1 := (Hb.out.same hs1).lt; have Hs1 := hide (Same.trans Hs.out hs1); clear hs1)
            | (go_at_call 59; have hF := HP.out pi w1 Hs1.out; rw [Ha.out] at hF; refine hF.mono ?_; rintro e w2 ⟨rfl, hww⟩; subst hww; clear hF))
          go_quiet (fail)
          go_wp2_with fail
          go_ret
          exact ⟨rfl, Same.trans Hs1.out (Same.of_drewN _ _)⟩
      · rw [may_k1 hj]
        have hb1 : hasK p pi = true := hb0
        have ha := at3_in hb1
        rw [if_pos hb1]
        generalize pos3 p pi = m at *
        have hkt := fun w' (h : Same w w') => (H.out.same h).blk.cell
        generalize p.length = a at *
        generalize s.length = b at *
        unfold cgV bx at *
        have Hkt := hide hkt
        have Ha := hide ha
        clear hb0 hb1 hkt ha hj
        go_enter Tryz.func58, Tryz.ntmps58
        go_wp2_with (first
          | (go_at_call 94; refine (HJ.out _).mono ?_; rintro e w1 ⟨rfl, hs1⟩; have hk1 := (Hb.out.same hs1).cell; have hkt1 := Hkt.out _ (Same.trans Hs.out hs1); have bg1 := (Hb.out.same hs1).lt; have Hs1 := hide (Same.trans Hs.out hs1); clear hs1)
          | (go_at_call 59; have hF := HP.out pi w1 Hs1.out; rw [Ha.out] at hF; refine hF.mono ?_; rintro e w2 ⟨rfl, hww⟩; subst hww; clear hF))
        go_ret
        exact ⟨rfl, Hs1.out⟩
    · cases hb0 : hasK p pi
      · rw [may_k2 hj]
        have hb1 : hasK p pi = false := hb0
        have ha := at3_out hb1
        rw [if_neg (by rw [hb1]; simp)]
        have hkt := fun w' (h : Same w w') => (H.out.same h).blk.cell
        generalize p.length = a at *
        generalize s.length = b at *
        unfold cgV bx at *
        have Hkt := hide hkt
        have Ha := hide ha
        clear hb0 hb1 hkt ha hj
        go_enter Tryz.func58, Tryz.ntmps58
        go_wp2_with (first
          | (go_at_call 94; refine (HJ.out _).mono ?_; rintro e w1 ⟨rfl, hs1⟩; have hk1 := (Hb.out.same hs1).cell; have hkt1 := Hkt.out _ (Same.trans Hs.out hs1); have bg1 := (Hb.out.same hs1).lt; have Hs1 := hide (Same.trans Hs.out hs1); clear hs1)
          | (go_at_call 59; have hF := HP.out pi w1 Hs1.out; rw [Ha.out] at hF; refine hF.mono ?_; rintro e w2 ⟨rfl, hww⟩; subst hww; clear hF))
        go_ret
        exact ⟨rfl, Hs1.out⟩
      · rw [may_k2 hj]
        have hb1 : hasK p pi = true := hb0
        have ha := at3_in hb1
        rw [if_pos hb1]
        generalize pos3 p pi = m at *
        have hkt := fun w' (h : Same w w') => (H.out.same h).blk.cell
        generalize p.length = a at *
        generalize s.length = b at *
        unfold cgV bx at *
        have Hkt := hide hkt
        have Ha := hide ha
        clear hb0 hb1 hkt ha hj
        go_enter Tryz.func58, Tryz.ntmps58
        go_wp2_with (first
          | (go_at_call 94; refine (HJ.out _).mono ?_; rintro e w1 ⟨rfl, hs1⟩; have hk1 := (Hb.out.same hs1).cell; have hkt1 := Hkt.out _ (Same.trans Hs.out hs1); have bg1 := (Hb.out.same hs1).lt; have Hs1 := hide (Same.trans Hs.out hs1); clear hs1)
          | (go_at_call 59; have hF := HP.out pi w1 Hs1.out; rw [Ha.out] at hF; refine hF.mono ?_; rintro e w2 ⟨rfl, hww⟩; subst hww; clear hF))
        go_ret
        exact ⟨rfl, Hs1.out⟩
    · cases hb0 : hasK s si
      · by_cases hf : most ≤ (p.length : Int) + (s.length : Int)
        · rw [may_k3 hj]
          have hb1 : hasK s si = false := hb0
          have ha := at3_out hb1
          rw [if_neg (by rw [hb1]; simp)]
          rw [if_pos hf]
          have hkt := fun w' (h : Same w w') => (H.out.same h).blk.cell
          generalize p.length = a at *
          generalize s.length = b at *
          unfold cgV bx at *
          have Hkt := hide hkt
          have Ha := hide ha
          clear hb0 hb1 hkt ha hj
          go_enter Tryz.func58, Tryz.ntmps58
          go_wp2_with (first
            | (go_at_call 94; refine (HJ.out _).mono ?_; rintro e w1 ⟨rfl, hs1⟩; have hk1 := (Hb.out.same hs1).cell; have hkt1 := Hkt.out _ (Same.trans Hs.out hs1); have bg1 := (Hb.out.same hs1).lt; have Hs1 := hide (Same.trans Hs.out hs1); clear hs1)
            | (go_at_call 60; have hF := HS.out si w1 Hs1.out; rw [Ha.out] at hF; refine hF.mono ?_; rintro e w2 ⟨rfl, hww⟩; subst hww; clear hF))
          go_quiet (fail)
          go_wp2_with fail
          go_ret
          exact ⟨rfl, Same.trans Hs1.out (Same.of_drewN _ _)⟩
        · rw [may_k3 hj]
          have hb1 : hasK s si = false := hb0
          have ha := at3_out hb1
          rw [if_neg (by rw [hb1]; simp)]
          rw [if_neg hf]
          have hkt := fun w' (h : Same w w') => (H.out.same h).blk.cell
          generalize p.length = a at *
          generalize s.length = b at *
          unfold cgV bx at *
          have Hkt := hide hkt
          have Ha := hide ha
          clear hb0 hb1 hkt ha hj
          go_enter Tryz.func58, Tryz.ntmps58
          go_wp2_with (first
            | (go_at_call 94; refine (HJ.out _).mono ?_; rintro e w1 ⟨rfl, hs1⟩; have hk1 := (Hb.out.same hs1).cell; have hkt1 := Hkt.out _ (Same.trans Hs.out hs1); have bg1 := (Hb.out.same hs1).lt; have Hs1 := hide (Same.trans Hs.out hs1); clear hs1)
            | (go_at_call 60; have hF := HS.out si w1 Hs1.out; rw [Ha.out] at hF; refine hF.mono ?_; rintro e w2 ⟨rfl, hww⟩; subst hww; clear hF))
          go_quiet (fail)
          go_wp2_with fail
          go_ret
          exact ⟨rfl, Same.trans Hs1.out (Same.of_drewN _ _)⟩
      · rw [may_k3 hj]
        have hb1 : hasK s si = true := hb0
        have ha := at3_in hb1
        rw [if_pos hb1]
        generalize pos3 s si = m at *
        have hkt := fun w' (h : Same w w') => (H.out.same h).blk.cell
        generalize p.length = a at *
        generalize s.length = b at *
        unfold cgV bx at *
        have Hkt := hide hkt
        have Ha := hide ha
        clear hb0 hb1 hkt ha hj
        go_enter Tryz.func58, Tryz.ntmps58
        go_wp2_with (first
          | (go_at_call 94; refine (HJ.out _).mono ?_; rintro e w1 ⟨rfl, hs1⟩; have hk1 := (Hb.out.same hs1).cell; have hkt1 := Hkt.out _ (Same.trans Hs.out hs1); have bg1 := (Hb.out.same hs1).lt; have Hs1 := hide (Same.trans Hs.out hs1); clear hs1)
          | (go_at_call 60; have hF := HS.out si w1 Hs1.out; rw [Ha.out] at hF; refine hF.mono ?_; rintro e w2 ⟨rfl, hww⟩; subst hww; clear hF))
        go_ret
        exact ⟨rfl, Hs1.out⟩
    · cases hb0 : hasK s si
      · rw [may_k4 hj]
        have hb1 : hasK s si = false := hb0
        have ha := at3_out hb1
        rw [if_neg (by rw [hb1]; simp)]
        have hkt := fun w' (h : Same w w') => (H.out.same h).blk.cell
        generalize p.length = a at *
        generalize s.length = b at *
        unfold cgV bx at *
        have Hkt := hide hkt
        have Ha := hide ha
        clear hb0 hb1 hkt ha hj
        go_enter Tryz.func58, Tryz.ntmps58
        go_wp2_with (first
          | (go_at_call 94; refine (HJ.out _).mono ?_; rintro e w1 ⟨rfl, hs1⟩; have hk1 := (Hb.out.same hs1).cell; have hkt1 := Hkt.out _ (Same.trans Hs.out hs1); have bg1 := (Hb.out.same hs1).lt; have Hs1 := hide (Same.trans Hs.out hs1); clear hs1)
          | (go_at_call 60; have hF := HS.out si w1 Hs1.out; rw [Ha.out] at hF; refine hF.mono ?_; rintro e w2 ⟨rfl, hww⟩; subst hww; clear hF))
        go_ret
        exact ⟨rfl, Hs1.out⟩
      · rw [may_k4 hj]
        have hb1 : hasK s si = true := hb0
        have ha := at3_in hb1
        rw [if_pos hb1]
        generalize pos3 s si = m at *
        have hkt := fun w' (h : Same w w') => (H.out.same h).blk.cell
        generalize p.length = a at *
        generalize s.length = b at *
        unfold cgV bx at *
        have Hkt := hide hkt
        have Ha := hide ha
        clear hb0 hb1 hkt ha hj
        go_enter Tryz.func58, Tryz.ntmps58
        go_wp2_with (first
          | (go_at_call 94; refine (HJ.out _).mono ?_; rintro e w1 ⟨rfl, hs1⟩; have hk1 := (Hb.out.same hs1).cell; have hkt1 := Hkt.out _ (Same.trans Hs.out hs1); have bg1 := (Hb.out.same hs1).lt; have Hs1 := hide (Same.trans Hs.out hs1); clear hs1)
          | (go_at_call 60; have hF := HS.out si w1 Hs1.out; rw [Ha.out] at hF; refine hF.mono ?_; rintro e w2 ⟨rfl, hww⟩; subst hww; clear hF))
        go_ret
        exact ⟨rfl, Hs1.out⟩
  · have hm : mayE p s most c = judgeE c := by unfold mayE; rw [if_neg hj]
    rw [hm]
    generalize judgeE c = j at *
    obtain ⟨k, ⟨pi, px, py⟩, ⟨si, lo, hi⟩⟩ := c
    unfold cgV bx at *
    clear hm
    go_enter Tryz.func58, Tryz.ntmps58
    go_wp2_with (go_at_call 94; refine (HJ.out _).mono ?_; rintro e w1 ⟨rfl, hs1⟩; have Hs1 := hide (Same.trans Hs.out hs1); clear hs1)
    go_ret
    exact ⟨rfl, Hs1.out⟩
end Go.Proofs.YtlimpepdelpogaaGreatDoor
