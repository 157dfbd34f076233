/-
  The ring's methods that write: grow, Push, cut, Pop, Drop, All. Conditions: the ring's cells are known, at most 65536 wait.
-/
import Derived.Test.YtkakhpbeglkbnaaRgA
namespace Go.Proofs.Ytkakhpbeglkbnaa
open Go.RowKit Go.Al Go.Al.Rg
set_option linter.unusedVariables false
attribute [local go_sem ↓] Go.wp_at_zero Go.wp_at_succ

/-- a row of zeros that make lays -/
def iobj (n : Nat) : Obj := .cells (is (List.replicate n 0)).toArray 3
theorem imake (n : Nat) (v : Int) (hv : v = (n : Int)) (hn : n ≤ 1048576) : ∀ w : World, (Instr.makeSlice 36 (.int .i64 v) (.int .i64 v)).run Try.prog w = .ok (.slice (some ⟨w.heap.size, 0, none⟩) n n) (w.alloc (iobj n)) := by
  intro w
  subst hv
  obtain ⟨_, ⟨i, z, hi, hz, hsz, hby, hzs⟩, _⟩ := slI
  have h0 : (Try.prog.info? 3).map (·.zero) = some (some (.int .i64 0)) := by kernel_rfl
  rw [hi] at h0
  have hz' : i.zero = some (.int .i64 0) := by simpa using h0
  have h := run_make (P := Try.prog) w 36 3 i (.int .i64 0) Try.underlying36 hi hz' .i64 .i64 (n : Int) (n : Int) (by omega) (by omega) (by rw [hby]; omega) (by omega)
  rw [h]
  have e : madeCells (Value.cells (.int .i64 0)) n = (is (List.replicate n 0)).toArray := by
    apply Array.toList_inj.1
    show (madeCells #[.int .i64 0] n).toList = _
    rw [toList_madeCells_one]
    simp [is]
  simp [hsz, iobj, e]
theorem is_set (N : List Int) (p : Nat) (v : Int) : (is N).toArray.setIfInBounds p (.int .i64 v) = (is (N.set p v)).toArray := by
  simp [is, List.map_set]
theorem is_at {N : List Int} {p : Nat} (hp : p < N.length) : (is N).toArray[p]? = some (.int .i64 (N.getD p 0)) := by
  simp [is, hp, List.getD_eq_getElem?_getD]

theorem far_cell (b i b' j : Nat) (h : b ≠ b') : ∀ (W : World) (v : Value), (W.setCell ⟨b, i, none⟩ v).cell? ⟨b', j, none⟩ = W.cell? ⟨b', j, none⟩ := fun W v => World.cell?_setCell_other W _ _ v fun e => h (by cases e; rfl)

set_option maxRecDepth 100000 in
set_option maxHeartbeats 2000000 in
theorem grow_any (g most a : Nat) (q P : List Int) (A : Option Addr) (w : World) (hr : Rgm w g most q A P a) (hm : most ≤ 65536) :
    Calls Try.prog 35 #[.pointer (some ⟨g, 0, none⟩)] w fun e w' => e = .returned (.tuple #[]) ∧ ∃ N : List Int, N.length = 2 * P.length + 1 ∧ (∀ i, i < q.length → N[i]? = q[i]?) ∧
      Blk w' g 59 #[.slice (some ⟨w.heap.size, 0, none⟩) N.length N.length, .int .i64 0, .int .i64 (q.length : Nat), .int .i64 most] ∧ Blk w' w.heap.size 3 (is N).toArray ∧ Chg (· = g) w w' := by
  have hk := hr.1.cell
  have hglt := hr.1.lt
  have hqP : q.length ≤ P.length := hr.2.2.2.1
  have hqm : q.length ≤ most := hr.2.2.2.2.2.1
  have hPl : P.length ≤ 2 * most + 1 := hr.2.2.2.2.2.2
  have hmk := imake (2 * P.length + 1) (2 * (P.length : Int) + 1) (by omega) (by omega)
  have Hr := hide hr
  clear hr
  go_enter Try.func35, Try.ntmps35
  go_wp2_with fail
  have Hb1 : Hid (Blk (w.alloc (iobj (2 * P.length + 1))) w.heap.size 3 (is (List.replicate (2 * P.length + 1) 0)).toArray) := Blk.new w _ _
  have Hs1 : Hid (Same w (w.alloc (iobj (2 * P.length + 1)))) := (Chg.refl _ w).alloc _
  generalize (w.alloc (iobj (2 * P.length + 1))) = w1 at *
  clear hk hmk
  go_loopg [16] q.length (fun k vi wr => ∃ (i : Nat) (N : List Int), i ≤ q.length ∧ k = q.length - i ∧ vi = .int .i64 i ∧ N.length = 2 * P.length + 1 ∧ (∀ j, j < i → N[j]? = q[j]?) ∧ Blk wr w.heap.size 3 (is N).toArray ∧ Chg (· = w.heap.size) w1 wr)
  case atStart => exact ⟨0, _, Nat.zero_le _, rfl, rfl, by simp, fun j h => by omega, Hb1.out, Chg.refl _ _⟩
  case round =>
    obtain ⟨i, N, hi, hkk, rfl, hN, hcop, hb, hchg⟩ := hrel
    have hr : Rgm wr g most q A P a := (Hr.out.same Hs1.out).chg hchg (fun h => by have h' : g = w.heap.size := h; omega) fun b hbA h => by
      have h1 := (Hr.out.blk b hbA).1
      have h' : b = w.heap.size := h
      omega
    have Hk := hide hkk
    have HN := hide hN
    have Hcop := hide hcop
    have Hb := hide hb
    have Hchg := hide hchg
    clear hkk hcop hchg
    by_cases hlt : i < q.length
    · have hP : P ≠ [] := fun h => by have := hr.2.2.2.1; rw [h] at this; simp at this; rw [this] at hlt; simp at hlt
      obtain ⟨ga, rfl, hbP, ha⟩ := hr.2.1 hP
      have hp : (a + i) % P.length < P.length := mod_lt' ha
      have hpm := pmod a i P.length
      have hcell : wr.cell? ⟨ga, (a + i) % P.length, none⟩ = some (.int .i64 q[i]) := by
        rw [hbP.cell]
        have := hr.2.2.2.2.1 i hlt
        simp [is, this, hlt]
      have hcN : wr.cell? ⟨w.heap.size, i, none⟩ = some (.int .i64 (N.getD i 0)) := by
        rw [hb.cell]; exact is_at (by omega)
      have hfN : wr.frozen? ⟨w.heap.size, i, none⟩ = false := hb.frozen i
      have hgne : ga ≠ w.heap.size := by have h1 := (Hr.out.blk ga rfl).1; omega
      have hqi : q[i]? = some q[i] := List.getElem?_eq_getElem hlt
      have hk0 := hr.1.cell 0
      have hk1 := hr.1.cell 1
      have Hr' := hide hr
      have Hpm := hide hpm
      have Hqi := hide hqi
      clear hr hbP hpm hb hqi
      generalize (a + i) % P.length = p at *
      generalize q[i] = x at *
      generalize N.getD i 0 = y at *
      have i0 : (0 : Int) ≤ (p : Int) := by omega
      have i1 : (p : Int) < (P.length : Int) := by omega
      have i2 : (0 : Int) ≤ (i : Int) := by omega
      have i3 : (i : Int) < 2 * (P.length : Int) + 1 := by omega
      go_wp2_with fail
      have n0 := far_cell w.heap.size i g 0 (by omega)
      have n1 := far_cell w.heap.size i g 1 (by omega)
      have n2 := far_cell w.heap.size i ga p (by omega)
      go_region_held3 (fun w' => w'.cell? ⟨g, 0, none⟩ = some (.slice (some ⟨ga, 0, none⟩) P.length P.length) ∧ w'.cell? ⟨g, 1, none⟩ = some (.int .i64 a) ∧ w'.cell? ⟨ga, p, none⟩ = some (.int .i64 x)) (go_keep)
        (first | (go_at_call 36; refine (place_any g P.length P.length a i p _ _ (by assumption) (by assumption) (by omega) (by omega) (by omega) (by omega) Hpm.out).mono ?_; rintro e w' ⟨rfl, k, rfl⟩))
      clear n0 n1 n2
      go_wp2_with fail
      go_roundg (q.length - (i + 1))
      case measure => have := Hk.out; omega
      case rel =>
        refine ⟨i + 1, N.set i x, by omega, rfl, by go_num, by rw [List.length_set]; exact HN.out, fun j hj => ?_, ?_, Chg.set1 (Hchg.out.drewN _) _ _⟩
        · rw [List.getElem?_set]
          by_cases e : i = j
          · subst e
            rw [if_pos rfl, if_pos (by have := HN.out; omega), Hqi.out]
          · rw [if_neg e]
            exact Hcop.out j (by omega)
        · have := (Hb.out.drewN (1 + k)).set_ i (.int .i64 x)
          rw [is_set] at this
          exact this
    · have hk := hr.1.cell
      have hf := hr.1.frozen
      have Hr' := hide hr
      clear hr hb
      go_wp2_with fail
      go_end0
      have hi' : i = q.length := by omega
      subst hi'
      refine ⟨rfl, N, HN.out, Hcop.out, ?_, ?_, ?_⟩
      · have := (Hr'.out.1.set_ 0 (.slice (some ⟨w.heap.size, 0, none⟩) N.length N.length)).set_ 1 (.int .i64 0)
        simpa [HN.out] using this
      · exact (Hb.out.far (p := ⟨g, 0, none⟩) (by simp; omega) _).far (p := ⟨g, 1, none⟩) (by simp; omega) _
      · have h1 : Same w wr := (Hs1.out.to.trans Hchg.out fun _ _ h => h).fresh fun k hk => Nat.le_of_eq (Eq.symm hk)
        exact ((h1.to).set1 _ _).set1 _ _
/-! ### Push -/
set_option maxHeartbeats 400000 in
theorem Push_nil (v : Int) (w : World) :
    Calls Try.prog 10 #[.pointer none, .int .i64 v] w fun e w' => e = .returned (.int .i64 1) ∧ w = w' := by
  go_enter Try.func10, Try.ntmps10
  go_wp2_with fail
  go_ret
  exact ⟨rfl, rfl⟩
set_option maxHeartbeats 400000 in
theorem Push_dup (g most a : Nat) (q P : List Int) (A : Option Addr) (v : Int) (w : World) (hr : Rgm w g most q A P a) (hm : most ≤ 65536) (hv : v ∈ q) :
    Calls Try.prog 10 #[.pointer (some ⟨g, 0, none⟩), .int .i64 v] w fun e w' => e = .returned (.int .i64 5) ∧ Same w w' := by
  have hF := seek_any g most a q P A v w hr hm
  rw [seekV, if_pos hv] at hF
  have HF := hide hF
  clear hF hr hv
  go_enter Try.func10, Try.ntmps10
  go_wp2_with (go_at_call 34; refine HF.out.mono ?_; rintro e w1 ⟨rfl, hs1⟩; have Hs1 := hide hs1; clear hs1)
  go_ret
  exact ⟨rfl, Hs1.out⟩
set_option maxHeartbeats 400000 in
theorem Push_full (g most a : Nat) (q P : List Int) (A : Option Addr) (v : Int) (w : World) (hr : Rgm w g most q A P a) (hm : most ≤ 65536) (hv : ¬ v ∈ q) (hn : most ≤ q.length) :
    Calls Try.prog 10 #[.pointer (some ⟨g, 0, none⟩), .int .i64 v] w fun e w' => e = .returned (.int .i64 4) ∧ Same w w' := by
  have hF := seek_any g most a q P A v w hr hm
  rw [seekV, if_neg hv] at hF
  have HF := hide hF
  have Hr := hide hr
  clear hF hr hv
  go_enter Try.func10, Try.ntmps10
  go_wp2_with (go_at_call 34; refine HF.out.mono ?_; rintro e w1 ⟨rfl, hs1⟩; have hk1 := (Hr.out.same hs1).1.cell; have Hs1 := hide hs1; clear hs1)
  go_quiet (fail)
  go_wp2_with fail
  go_ret
  exact ⟨rfl, Hs1.out.drewN _⟩

/-- what a push leaves -/
def Pushed (w : World) (g most : Nat) (q : List Int) (A : Option Addr) (w' : World) : Prop :=
  ∃ A' P' a', Rgm w' g most q A' P' a' ∧ Chg (fun k => k = g ∨ blkOf A = some k) w w' ∧ (blkOf A' = blkOf A ∨ ∀ b, blkOf A' = some b → w.heap.size ≤ b)

theorem Rgm.put {w : World} {g most a ga p : Nat} {q P : List Int} (h : Rgm w g most q (some ⟨ga, 0, none⟩) P a) (hn : q.length < most) (hP : q.length < P.length) (hp : (a + q.length) % P.length = p) (v : Int) :
    Rgm ((w.setCell ⟨ga, p, none⟩ (.int .i64 v)).setCell ⟨g, 2, none⟩ (.int .i64 ((q.length : Int) + 1))) g most (q ++ [v]) (some ⟨ga, 0, none⟩) (P.set p v) a := by
  have hne : P ≠ [] := fun e => by rw [e] at hP; simp at hP
  obtain ⟨ga', e, hb, ha⟩ := h.2.1 hne
  cases e
  have hgn := h.ne hb
  subst hp
  refine ⟨?_, fun _ => ⟨ga, rfl, ?_, by rw [List.length_set]; exact ha⟩, fun e => absurd (by rw [← List.length_eq_zero_iff] at e ⊢; rw [List.length_set] at e; exact e) hne, ?_, ?_, ?_, ?_⟩
  · have := (h.1.far (p := ⟨ga, (a + q.length) % P.length, none⟩) (Ne.symm hgn) (.int .i64 v)).set_ 2 (.int .i64 ((q.length : Int) + 1))
    simpa using this
  · have := (hb.set_ ((a + q.length) % P.length) (.int .i64 v)).far (p := ⟨g, 2, none⟩) hgn (.int .i64 ((q.length : Int) + 1))
    rw [is_set] at this
    exact this
  · simp; omega
  · exact h.2.2.2.2.1.push ha hP v
  · simp; omega
  · rw [List.length_set]; exact h.2.2.2.2.2.2

set_option maxRecDepth 100000 in
set_option maxHeartbeats 2000000 in
theorem Push_ok (g most a : Nat) (q P : List Int) (A : Option Addr) (v : Int) (w : World) (hr : Rgm w g most q A P a) (hm : most ≤ 65536) (hv : ¬ v ∈ q) (hn : q.length < most) :
    Calls Try.prog 10 #[.pointer (some ⟨g, 0, none⟩), .int .i64 v] w fun e w' => e = .returned (.int .i64 0) ∧ Pushed w g most (q ++ [v]) A w' := by
  have hF := seek_any g most a q P A v w hr hm
  rw [seekV, if_neg hv] at hF
  have HF := hide hF
  have Hr := hide hr
  have hqP := hr.2.2.2.1
  have hPl := hr.2.2.2.2.2.2
  clear hF hr hv
  by_cases hfull : q.length = P.length
  · have hb1 : ((q.length : Int) == (P.length : Int)) = true := by simp [hfull]
    have Hfull := hide hfull
    clear hfull
    go_enter Try.func10, Try.ntmps10
    go_wp2_with (go_at_call 34; refine HF.out.mono ?_; rintro e w1 ⟨rfl, hs1⟩; have hk1 := (Hr.out.same hs1).1.cell; have Hs1 := hide hs1; clear hs1)
    go_quiet (fail)
    go_wp2_with fail
    go_quiet (fail)
    go_wp2_with fail
    generalize hw2 : w1.drewN _ = w2
    have Hs2 : Hid (Same w1 w2) := hide (by rw [← hw2]; exact (Chg.refl _ w1).drewN _)
    clear hw2 hk1
    refine (grow_any g most a q P A w2 (Hr.out.same (Same.trans Hs1.out Hs2.out)) hm).mono ?_
    rintro e w3 ⟨rfl, N, hN, hcop, hg3, hb3, hc3⟩
    generalize hgn0 : w2.heap.size = gn at hg3 hb3
    have hqlt : q.length < N.length := by omega
    have hr2 : Rgm w3 g most q (some ⟨gn, 0, none⟩) N 0 := ⟨hg3, fun _ => ⟨_, rfl, hb3, by omega⟩, fun h => by rw [h] at hN; simp at hN, by omega, Lay.copy (by omega) hcop, by omega, by have := Hfull.out; omega⟩
    have hPne : N ≠ [] := fun h => by rw [h] at hN; simp at hN
    have Hc3 := hide hc3
    have HN := hide hN
    have Hgn0 := hide hgn0
    clear hg3 hb3 hc3 hcop hN hgn0
    obtain ⟨ga, hA, hb, ha⟩ := hr2.2.1 hPne
    have eA : ga = gn := by cases hA; rfl
    subst eA
    clear hA
    have hp : (0 + q.length) % N.length < N.length := mod_lt' ha
    have hpm := pmod 0 q.length N.length
    have hcw : w3.cell? ⟨ga, (0 + q.length) % N.length, none⟩ = some (.int .i64 (N.getD ((0 + q.length) % N.length) 0)) := by rw [hb.cell]; exact is_at hp
    have hfw : w3.frozen? ⟨ga, (0 + q.length) % N.length, none⟩ = false := hb.frozen _
    have hgn := hr2.ne hb
    have hf2 : w3.frozen? ⟨g, 2, none⟩ = false := hr2.1.frozen 2
    have hk0 := hr2.1.cell 0
    have hk1 := hr2.1.cell 1
    have hk2 := hr2.1.cell 2
    have Hput := hide (fun (w : World) (h : Rgm w g most q (some ⟨ga, 0, none⟩) N 0) => h.put hn hqlt rfl v)
    have hP2 := hr2.2.2.2.2.2.2
    have Hr2 := hide hr2
    have Hpm := hide hpm
    clear hr2 hb hpm hPne
    generalize hpe : (0 + q.length) % N.length = p at *
    generalize N.getD p 0 = y at *
    clear hpe
    have i0 : (0 : Int) ≤ (p : Int) := by omega
    have i1 : (p : Int) < (N.length : Int) := by omega
    have n0 := far_cell ga p g 0 hgn
    have n1 := far_cell ga p g 1 hgn
    have n2 := far_cell ga p g 2 hgn
    go_wp2_with fail
    go_region_held3 (fun w' => w'.cell? ⟨g, 0, none⟩ = some (.slice (some ⟨ga, 0, none⟩) N.length N.length) ∧ w'.cell? ⟨g, 1, none⟩ = some (.int .i64 0) ∧ w'.cell? ⟨g, 2, none⟩ = some (.int .i64 (q.length : Nat))) (go_keep)
      (first | (go_at_call 36; refine (place_any g N.length N.length 0 q.length p _ _ (by assumption) (by assumption) (by omega) (by omega) (by omega) (by omega) Hpm.out).mono ?_; rintro e w' ⟨rfl, k, rfl⟩))
    go_wp2_with fail
    go_ret
    refine ⟨rfl, _, _, _, Hput.out _ (Hr2.out.same (Same.of_drewN _ _)), ?_, .inr fun b hb => ?_⟩
    · have h1 : Chg (fun k => k = g ∨ blkOf A = some k) w w3 := ((Same.trans Hs1.out Hs2.out).to).trans Hc3.out fun k _ h => .inl h
      have h2 := Hgn0.out
      have h3 := (Same.trans Hs1.out Hs2.out).size
      exact ((h1.drewN _).setCell (.inr (by show w.heap.size ≤ ga; omega)) _).setCell (.inl (.inl rfl)) _
    · simp [blkOf] at hb
      have h2 := Hgn0.out
      have h3 := (Same.trans Hs1.out Hs2.out).size
      omega
  · have hb1 : ((q.length : Int) == (P.length : Int)) = false := by simp; omega
    have hqlt : q.length < P.length := by omega
    go_enter Try.func10, Try.ntmps10
    go_wp2_with (go_at_call 34; refine HF.out.mono ?_; rintro e w1 ⟨rfl, hs1⟩; have hk1 := (Hr.out.same hs1).1.cell; have Hs1 := hide hs1; clear hs1)
    go_quiet (fail)
    go_wp2_with fail
    go_quiet (fail)
    generalize hw2 : w1.drewN _ = w2
    have Hs2 : Hid (Same w1 w2) := hide (by rw [← hw2]; exact (Chg.refl _ w1).drewN _)
    clear hw2 hk1
    have hr2 : Rgm w2 g most q A P a := Hr.out.same (Same.trans Hs1.out Hs2.out)
    have hPne : P ≠ [] := fun h => by rw [h] at hqlt; simp at hqlt
    obtain ⟨ga, hA, hb, ha⟩ := hr2.2.1 hPne
    subst hA
    have hp : (a + q.length) % P.length < P.length := mod_lt' ha
    have hpm := pmod a q.length P.length
    have hcw : w2.cell? ⟨ga, (a + q.length) % P.length, none⟩ = some (.int .i64 (P.getD ((a + q.length) % P.length) 0)) := by rw [hb.cell]; exact is_at hp
    have hfw : w2.frozen? ⟨ga, (a + q.length) % P.length, none⟩ = false := hb.frozen _
    have hgn := hr2.ne hb
    have hf2 : w2.frozen? ⟨g, 2, none⟩ = false := hr2.1.frozen 2
    have hk0 := hr2.1.cell 0
    have hk1 := hr2.1.cell 1
    have hk2 := hr2.1.cell 2
    have Hput := hide (fun (w : World) (h : Rgm w g most q (some ⟨ga, 0, none⟩) P a) => h.put hn hqlt rfl v)
    have hP2 := hr2.2.2.2.2.2.2
    have Hr2 := hide hr2
    have Hpm := hide hpm
    clear hr2 hb hpm hPne
    generalize hpe : (a + q.length) % P.length = p at *
    generalize P.getD p 0 = y at *
    clear hpe
    have i0 : (0 : Int) ≤ (p : Int) := by omega
    have i1 : (p : Int) < (P.length : Int) := by omega
    have n0 := far_cell ga p g 0 hgn
    have n1 := far_cell ga p g 1 hgn
    have n2 := far_cell ga p g 2 hgn
    go_wp2_with fail
    go_region_held3 (fun w' => w'.cell? ⟨g, 0, none⟩ = some (.slice (some ⟨ga, 0, none⟩) P.length P.length) ∧ w'.cell? ⟨g, 1, none⟩ = some (.int .i64 a) ∧ w'.cell? ⟨g, 2, none⟩ = some (.int .i64 (q.length : Nat))) (go_keep)
      (first | (go_at_call 36; refine (place_any g P.length P.length a q.length p _ _ (by assumption) (by assumption) (by omega) (by omega) (by omega) (by omega) Hpm.out).mono ?_; rintro e w' ⟨rfl, k, rfl⟩))
    go_wp2_with fail
    go_ret
    refine ⟨rfl, _, _, _, Hput.out _ (Hr2.out.same (Same.of_drewN _ _)), ?_, .inl rfl⟩
    have h1 : Chg (fun k => k = g ∨ blkOf (some ⟨ga, 0, none⟩) = some k) w w2 := (Same.trans Hs1.out Hs2.out).to
    exact ((h1.drewN _).setCell (p := ⟨ga, p, none⟩) (.inl (.inr rfl)) _).setCell (p := ⟨g, 2, none⟩) (.inl (.inl rfl)) _
end Go.Proofs.Ytkakhpbeglkbnaa
