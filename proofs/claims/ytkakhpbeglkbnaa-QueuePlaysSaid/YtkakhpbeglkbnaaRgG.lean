/-
  The acts that came in as cells; the plain laws of who waits nearer; RingNearer's walk. No conditions.
-/
import Derived.Test.YtkakhpbeglkbnaaRgE
namespace Go.Proofs.Ytkakhpbeglkbnaa
open Go.RowKit Go.Al Go.Al.Rg
set_option linter.unusedVariables false

/-- a slice of pairs of integers that came in -/
def Acts (w : World) (A : Option Addr) (n : Nat) (l : List (Int × Int)) : Prop :=
  l.length = n ∧ (l ≠ [] → ∃ b off, A = some ⟨b, off, none⟩ ∧ b < w.heap.size ∧ ∀ i (h : i < l.length), w.cell? ⟨b, off + i * 2, none⟩ = some (.int .i64 l[i].1) ∧ w.cell? ⟨b, off + i * 2 + 1, none⟩ = some (.int .i64 l[i].2))
theorem Acts.at_ {w wr : World} {A : Option Addr} {n i : Nat} {l : List (Int × Int)} (h : Acts w A n l) (hs : Same w wr) (hi : i < n) :
    ∃ b off k v, A = some ⟨b, off, none⟩ ∧ b < w.heap.size ∧ l[i]? = some (k, v) ∧ wr.cell? ⟨b, off + i * 2, none⟩ = some (.int .i64 k) ∧ wr.cell? ⟨b, off + i * 2 + 1, none⟩ = some (.int .i64 v) := by
  have hl : i < l.length := by rw [h.1]; exact hi
  obtain ⟨b, off, e, hb, hc⟩ := h.2 (fun e => by rw [e] at hl; simp at hl)
  obtain ⟨h1, h2⟩ := hc i hl
  exact ⟨b, off, l[i].1, l[i].2, e, hb, List.getElem?_eq_getElem hl, (hs.cell (p := ⟨b, _, none⟩) hb (fun h => h)).trans h1, (hs.cell (p := ⟨b, _, none⟩) hb (fun h => h)).trans h2⟩

theorem near_pop {q : List Int} {v : Int} (h : v ∈ q) (hn : ¬ headI q = v) : v ∈ q.tail ∧ pos q v = pos q.tail v + 1 := by
  cases q with
  | nil => simp at h
  | cons x r =>
    have hn : ¬ x = v := hn
    refine ⟨?_, by simp [pos, hn]⟩
    rcases List.mem_cons.1 h with e | e
    · exact absurd e.symm hn
    · exact e
theorem near_cut {v u : Int} : ∀ {q : List Int}, v ∈ q → u ∈ q → ¬ u = v → v ∈ q.eraseIdx (pos q u) ∧ pos (q.eraseIdx (pos q u)) v ≤ pos q v := by
  intro q
  induction q with
  | nil => intro h; simp at h
  | cons x r ih =>
    intro hv hu hn
    by_cases hx : x = u
    · have hxv : ¬ x = v := fun e => hn (hx ▸ e)
      have hr : v ∈ r := (List.mem_cons.1 hv).elim (fun e => absurd e.symm hxv) id
      simp [pos, hx, hn, hr]
    · have hu' : u ∈ r := (List.mem_cons.1 hu).elim (fun e => absurd e.symm hx) id
      by_cases hxv : x = v
      · subst hxv; simp [pos, hx]
      · have hr : v ∈ r := (List.mem_cons.1 hv).elim (fun e => absurd e.symm hxv) id
        obtain ⟨h1, h2⟩ := ih hr hu' hn
        simp [pos, hx, hxv, h1]
        exact h2
theorem near_drop {q : List Int} {v u : Int} (h : v ∈ q) (hn : ¬ u = v) : v ∈ dropQ q u ∧ pos (dropQ q u) v ≤ pos q v := by
  unfold dropQ
  split
  · exact near_cut h ‹_› hn
  · exact ⟨h, Nat.le_refl _⟩
theorem pos_append {v : Int} {m : List Int} : ∀ {q : List Int}, v ∈ q → pos (q ++ m) v = pos q v := by
  intro q
  induction q with
  | nil => intro h; simp at h
  | cons x r ih =>
    intro h
    by_cases hx : x = v
    · simp [pos, hx]
    · simp [pos, hx, ih ((List.mem_cons.1 h).elim (fun e => absurd e.symm hx) id)]
theorem near_push {q : List Int} {v u : Int} {m : Nat} (h : v ∈ q) : v ∈ pushQ q m u ∧ pos (pushQ q m u) v = pos q v := by
  unfold pushQ
  split
  · exact ⟨h, rfl⟩
  · split
    · exact ⟨h, rfl⟩
    · exact ⟨List.mem_append_left _ h, pos_append h⟩

theorem placeI_in {q : List Int} {v : Int} (h : v ∈ q) : placeI q v = (pos q v : Nat) := if_pos h

set_option maxRecDepth 100000 in
set_option maxHeartbeats 8000000 in
theorem ringNearer_any (A : Option Addr) (n c : Nat) (l : List (Int × Int)) (who : Int) (w : World) (ha : Acts w A n l) (hnm : n ≤ c) (hcm : c ≤ maxLen) :
    Calls Try.prog 3 #[.slice A n c, .int .i64 who] w fun e w' => e = .returned (.bool true) ∧ Same w w' := by
  have Ha := hide ha
  have n1 : n ≤ maxLen := by omega
  unfold maxLen at n1
  clear ha
  go_enter Try.func3, Try.ntmps3
  go_wp2_with (first
    | (go_at_call 9
       have hF := ring_new 40 w (by decide) (by decide)
       refine hF.mono ?_
       rintro e w1 ⟨rfl, hs1, F1, hr1, hf1⟩
       have Hr1 := hide hr1; have Hs1 := hide hs1; have Hf1 := hide hf1; clear hr1 hs1 hF hf1)
    | (go_at_call 10
       have hF := ring_push who Hr1.out (by decide)
       refine hF.mono ?_
       rintro e w2 ⟨rfl, F2, hr2, hs2⟩
       have Hr2 := hide hr2; have Hs2 := hide hs2; clear hr2 hs2 hF))
  go_loopg [7, 8] n (fun k vp vi wr => ∃ (i : Nat) (q : List Int) (F : Nat → Prop), i ≤ n ∧ k = n - i ∧ vp = .int .i64 (pos q who : Nat) ∧ vi = .int .i64 i ∧ Ring F wr w.heap.size 40 q ∧ who ∈ q ∧ Same w wr ∧ ∀ k, F k → w.heap.size ≤ k)
  case atStart =>
    have h := Stp.fresh Hs1.out Hf1.out Hs2.out
    exact ⟨0, [who], F2, Nat.zero_le _, rfl, by simp [pos], rfl, Hr2.out, by simp, h.1, h.2⟩
  case round =>
    obtain ⟨i, q, F, hi, hkk, rfl, rfl, hr, hin, hsame, hF⟩ := hrel
    have Hk := hide hkk
    have Hr := hide hr
    have Hin := hide hin
    have Hs := hide hsame
    have HF := hide hF
    have hpl : pos q who < 40 := Nat.lt_of_lt_of_le (pos_lt hin) hr.len
    clear hkk hr hin hF
    by_cases hlt : i < n ∧ i < 60
    · obtain ⟨b, off, ka, va, rfl, hbl, hli, hc0, hc1⟩ := Ha.out.at_ hsame hlt.1
      obtain ⟨hlt1, hlt2⟩ := hlt
      have Hc0 := hide hc0
      have Hc1 := hide hc1
      clear hsame hli
      by_cases hk1 : ka = 1
      · subst hk1
        by_cases hx : headI q = who
        · have hxb : (headI q == who) = true := by simp [hx]
          clear hx
          go_wp2_with (first
            | (go_at_call 11
               have hF := ring_pop Hr.out (by decide)
               refine hF.mono ?_
               rintro e w1 ⟨rfl, F1, hr1, hs1⟩
               have Hr1 := hide hr1; have Hs1 := hide hs1; clear hr1 hs1 hF)
            | (go_at_call 12
               have hF := lives_any w1
               refine hF.mono ?_
               rintro e w2 ⟨rfl, hs2⟩
               have Hs2 := hide hs2; clear hs2 hF))
          go_ret
          exact ⟨rfl, ((Stp.fresh Hs.out HF.out Hs1.out).1).trans Hs2.out⟩
        · have hxb : (headI q == who) = false := by simp [hx]
          obtain ⟨hin', hpp⟩ := near_pop Hin.out hx
          have Hin' := hide hin'
          have hpd : decide (who ∈ q.tail) = true := decide_eq_true hin'
          have hpi : placeI q.tail who = (pos q.tail who : Nat) := placeI_in hin'
          clear hx hin'
          generalize hpq : pos q who = p at *
          generalize hpt : pos q.tail who = p' at *
          go_wp2_with (first
            | (go_at_call 11
               have hF := ring_pop Hr.out (by decide)
               refine hF.mono ?_
               rintro e w1 ⟨rfl, F1, hr1, hs1⟩
               have Hr1 := hide hr1; have Hs1 := hide hs1; clear hr1 hs1 hF)
            | (go_at_call 14
               have hF := ring_place who Hr1.out (by decide)
               rw [hpd, hpi] at hF
               refine hF.mono ?_
               rintro e w2 ⟨rfl, hs2⟩
               have Hs2 := hide hs2; clear hs2 hF))
          go_roundg (n - (i + 1))
          case measure => have := Hk.out; omega
          case rel =>
            have h := Stp.fresh Hs.out HF.out Hs1.out
            exact ⟨i + 1, q.tail, F1, by omega, rfl, by rw [hpt], by go_num, Hr1.out.same Hs2.out, Hin'.out, h.1.trans Hs2.out, h.2⟩
      · by_cases hk2 : ka = 2
        · subst hk2
          by_cases hx : va = who
          · have hxb : (va == who) = true := by simp [hx]
            clear hx
            go_wp2_with (go_at_call 12
                         have hF := lives_any wr
                         refine hF.mono ?_
                         rintro e w2 ⟨rfl, hs2⟩
                         have Hs2 := hide hs2; clear hs2 hF)
            go_ret
            exact ⟨rfl, Hs.out.trans Hs2.out⟩
          · have hxb : (va == who) = false := by simp [hx]
            obtain ⟨hin', hpp⟩ := near_drop Hin.out hx
            have Hin' := hide hin'
            have hpd : decide (who ∈ dropQ q va) = true := decide_eq_true hin'
            have hpi : placeI (dropQ q va) who = (pos (dropQ q va) who : Nat) := placeI_in hin'
            clear hx hin'
            generalize hpq : pos q who = p at *
            generalize hpt : pos (dropQ q va) who = p' at *
            go_wp2_with (first
              | (go_at_call 13
                 have hF := ring_drop va Hr.out (by decide)
                 refine hF.mono ?_
                 rintro e w1 ⟨rfl, F1, hr1, hs1⟩
                 have Hr1 := hide hr1; have Hs1 := hide hs1; clear hr1 hs1 hF)
              | (go_at_call 14
                 have hF := ring_place who Hr1.out (by decide)
                 rw [hpd, hpi] at hF
                 refine hF.mono ?_
                 rintro e w2 ⟨rfl, hs2⟩
                 have Hs2 := hide hs2; clear hs2 hF))
            go_roundg (n - (i + 1))
            case measure => have := Hk.out; omega
            case rel =>
              have h := Stp.fresh Hs.out HF.out Hs1.out
              exact ⟨i + 1, dropQ q va, F1, by omega, rfl, by rw [hpt], by go_num, Hr1.out.same Hs2.out, Hin'.out, h.1.trans Hs2.out, h.2⟩
        · obtain ⟨hin', hpp⟩ := near_push (m := 40) (u := va) Hin.out
          have Hin' := hide hin'
          have hpd : decide (who ∈ pushQ q 40 va) = true := decide_eq_true hin'
          have hpi : placeI (pushQ q 40 va) who = (pos (pushQ q 40 va) who : Nat) := placeI_in hin'
          clear hin'
          rw [hpp] at hpi
          have hpt := hpp
          clear hpp
          generalize hpq : pos q who = p at *
          go_wp2_with (first
            | (go_at_call 10
               have hF := ring_push va Hr.out (by decide)
               refine hF.mono ?_
               rintro e w1 ⟨rfl, F1, hr1, hs1⟩
               have Hr1 := hide hr1; have Hs1 := hide hs1; clear hr1 hs1 hF)
            | (go_at_call 14
               have hF := ring_place who Hr1.out (by decide)
               rw [hpd, hpi] at hF
               refine hF.mono ?_
               rintro e w2 ⟨rfl, hs2⟩
               have Hs2 := hide hs2; clear hs2 hF))
          go_roundg (n - (i + 1))
          case measure => have := Hk.out; omega
          case rel =>
            have h := Stp.fresh Hs.out HF.out Hs1.out
            exact ⟨i + 1, pushQ q 40 va, F1, by omega, rfl, by rw [hpt], by go_num, Hr1.out.same Hs2.out, Hin'.out, h.1.trans Hs2.out, h.2⟩
    · clear hsame
      by_cases hin2 : i < n
      · go_wp2_with (go_at_call 12; have hF := lives_any wr; refine hF.mono ?_; rintro e w2 ⟨rfl, hs2⟩; have Hs2 := hide hs2; clear hs2 hF)
        go_ret
        exact ⟨rfl, Hs.out.trans Hs2.out⟩
      · go_wp2_with (go_at_call 12; have hF := lives_any wr; refine hF.mono ?_; rintro e w2 ⟨rfl, hs2⟩; have Hs2 := hide hs2; clear hs2 hF)
        go_ret
        exact ⟨rfl, Hs.out.trans Hs2.out⟩
end Go.Proofs.Ytkakhpbeglkbnaa
