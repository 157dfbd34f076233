/-
  Operations: linear.must, linear.can, history.ended, begun, Before; a slice of operations. No conditions.
-/
import Derived.Test.YtenkdjfikppkdaaGreatLnP
import Derived.Test.YtenkdjfikppkdaaGreatQyF
import Derived.Test.YtenkdjfikppkdaaGreatQs
namespace Go.Proofs.YtenkdjfikppkdaaGreat
open Go.RowKit Go.Al
set_option linter.unusedVariables false

/-- a slice of operations -/
structure Dds (w : World) (A : Option Addr) (l : List Dd) : Prop where
  row : l ≠ [] → ∃ b off, A = some ⟨b, off, none⟩ ∧ b < w.heap.size ∧ ∀ i (h : i < l.length), w.rangeAt b (off + i * 29) (ddL l[i])
  rep : ∀ d ∈ l, RpAt w d.t
theorem Dds.same {w w' : World} {A : Option Addr} {l : List Dd} (h : Dds w A l) (hs : Same w w') : Dds w' A l :=
  ⟨fun hn => by
    obtain ⟨b, off, e, hb, hc⟩ := h.row hn
    exact ⟨b, off, e, Nat.lt_of_lt_of_le hb hs.size, fun i hi => rangeAt_same (hc i hi) hs⟩, fun d hd => (h.rep d hd).same hs⟩
theorem Dds.at_ {w : World} {A : Option Addr} {l : List Dd} (h : Dds w A l) {i : Nat} (hi : i < l.length) :
    ∃ b off, A = some ⟨b, off, none⟩ ∧ b < w.heap.size ∧ w.rangeAt b (off + i * 29) (ddL l[i]) ∧ RpAt w l[i].t := by
  obtain ⟨b, off, e, hb, hc⟩ := h.row (fun e => by rw [e] at hi; simp at hi)
  exact ⟨b, off, e, hb, hc i hi, h.rep _ (List.getElem_mem hi)⟩
theorem infoDeed : (Tryz.prog.info? 45).map (·.size) = some 29 := by kernel_rfl
theorem infoReq : (Tryz.prog.info? 37).map (·.size) = some 18 := by kernel_rfl
theorem infoRep : (Tryz.prog.info? 43).map (·.size) = some 5 := by kernel_rfl
theorem one_ddL (d : Dd) : ∀ u ∈ ddL d, u.oneCell' = true := by
  intro u hu
  simp only [ddL, rqL, cgL, qL, rpL, List.cons_append, List.nil_append, List.mem_cons, List.not_mem_nil, or_false] at hu
  rcases hu with h | h | h | h | h | h | h | h | h | h | h | h | h | h | h | h | h | h | h | h | h | h | h | h | h | h | h | h | h <;> (subst h; rfl)
theorem blk_deed (w : World) (t : TypeId) (d : Dd) : (w.alloc (.cells (ddL d).toArray t)).rangeAt w.heap.size 0 (ddL d) := fun j v hv => by
  rw [Nat.zero_add, (Blk.new w t (ddL d).toArray).cell]
  simpa using hv

set_option maxHeartbeats 1000000 in
theorem must_any (d : Dd) (w : World) :
    Calls Tryz.prog 29 #[ddV d] w fun e w' => e = .returned (.bool (mustD d)) ∧ Same w w' := by
  have h2 : (ddL d)[2]? = some (.int .i64 d.rp) := rfl
  have Hs := hide ((Chg.refl (fun _ => False) w).alloc (.cells (ddL d).toArray 45))
  unfold ddV mustD
  obtain ⟨x, hx⟩ : ∃ x, d.rp = x := ⟨_, rfl⟩
  rw [hx] at h2 ⊢
  clear hx
  generalize ddL d = L at *
  go_enter Tryz.func29, Tryz.ntmps29
  go_wp2_with fail
  go_ret
  exact ⟨rfl, Hs.out⟩
theorem must_is (d : Dd) (w : World) (v : Bool) (h : mustD d = v) :
    Calls Tryz.prog 29 #[ddV d] w fun e w' => e = .returned (.bool v) ∧ Same w w' := h ▸ must_any d w

def maxI (a b : Int) : Int := if a < b then b else a
theorem endD_eq (d : Dd) : endD d = maxI d.rp d.rf := rfl
theorem beginD_eq (d : Dd) : beginD d = maxI d.iv d.rf := rfl
set_option maxHeartbeats 1000000 in
theorem ended_any (d : Dd) (w : World) :
    Calls Tryz.prog 51 #[ddV d] w fun e w' => e = .returned (.int .i64 (endD d)) ∧ Same w w' := by
  have h2 : (ddL d)[2]? = some (.int .i64 d.rp) := rfl
  have h4 : (ddL d)[4]? = some (.int .i64 d.rf) := rfl
  have Hs := hide ((Chg.refl (fun _ => False) w).alloc (.cells (ddL d).toArray 45))
  rw [endD_eq]
  unfold ddV
  obtain ⟨x, hx⟩ : ∃ x, d.rp = x := ⟨_, rfl⟩
  obtain ⟨y, hy⟩ : ∃ y, d.rf = y := ⟨_, rfl⟩
  rw [hx] at h2 ⊢
  rw [hy] at h4 ⊢
  clear hx hy
  generalize ddL d = L at *
  by_cases hxy : x < y
  all_goals
    go_enter Tryz.func51, Tryz.ntmps51
    go_wp2_with fail
    go_ret
    refine ⟨?_, Hs.out⟩
    unfold maxI
    first | (simp [hxy]; done) | (simp; omega)
set_option maxHeartbeats 1000000 in
theorem begun_any (d : Dd) (w : World) :
    Calls Tryz.prog 52 #[ddV d] w fun e w' => e = .returned (.int .i64 (beginD d)) ∧ Same w w' := by
  have h2 : (ddL d)[0]? = some (.int .i64 d.iv) := rfl
  have h4 : (ddL d)[4]? = some (.int .i64 d.rf) := rfl
  have Hs := hide ((Chg.refl (fun _ => False) w).alloc (.cells (ddL d).toArray 45))
  rw [beginD_eq]
  unfold ddV
  obtain ⟨x, hx⟩ : ∃ x, d.iv = x := ⟨_, rfl⟩
  obtain ⟨y, hy⟩ : ∃ y, d.rf = y := ⟨_, rfl⟩
  rw [hx] at h2 ⊢
  rw [hy] at h4 ⊢
  clear hx hy
  generalize ddL d = L at *
  by_cases hxy : x < y
  all_goals
    go_enter Tryz.func52, Tryz.ntmps52
    go_wp2_with fail
    go_ret
    refine ⟨?_, Hs.out⟩
    unfold maxI
    first | (simp [hxy]; done) | (simp; omega)

set_option maxHeartbeats 2000000 in
theorem before_any (a b : Dd) (w : World) :
    Calls Tryz.prog 37 #[ddV a, ddV b] w fun e w' => e = .returned (.bool (beforeD a b)) ∧ Same w w' := by
  have HE := hide (ended_any a)
  have HB := hide (begun_any b)
  have hra := rangeAt_same (blk_deed w 45 a) ((Chg.refl (fun _ => False) _).alloc (.cells (ddL b).toArray 45))
  have hrb := blk_deed (w.alloc (.cells (ddL a).toArray 45)) 45 b
  simp only [World.size_alloc] at hrb
  have Hs := hide (((Chg.refl (fun _ => False) w).alloc (.cells (ddL a).toArray 45)).alloc (.cells (ddL b).toArray 45))
  have Hra := hide hra
  have Hrb := hide hrb
  clear hra hrb
  have la := ddL_length a
  have lb := ddL_length b
  obtain ⟨x, hx⟩ : ∃ x, endD a = x := ⟨_, rfl⟩
  obtain ⟨y, hy⟩ : ∃ y, beginD b = y := ⟨_, rfl⟩
  unfold beforeD
  rw [hx] at HE ⊢
  rw [hy] at HB ⊢
  clear hx hy
  unfold ddV at HE HB ⊢
  have La := hide la
  have Lb := hide lb
  clear la lb
  generalize ddL a = L at *
  generalize ddL b = M at *
  obtain ⟨v, hv⟩ : ∃ v, (decide (0 ≤ x) && (decide (0 ≤ y) && decide (x < y))) = v := ⟨_, rfl⟩
  rw [hv]
  have HV := hide hv
  clear hv
  by_cases hx0 : 0 ≤ x
  · by_cases hy0 : 0 ≤ y
    · go_enter Tryz.func37, Tryz.ntmps37
      go_wp2_with fail
      generalize (w.alloc (.cells L.toArray 45)).alloc (.cells M.toArray 45) = W at *
      refine wp_region_quiet_same (by kernel_rfl) (by kernel_rfl) ?_
      repeat (first
        | refine wpQuiet_ld (by rfl) 45 _ rfl w.heap.size 0 rfl L _ (fun w' hw' => by obtain ⟨p, rfl⟩ := hw'; exact rangeAt_same Hra.out p.h) Tryz.underlying45 rfl (by rw [La.out]; exact infoDeed) ?_
        | refine wpQuiet_ld (by rfl) 45 _ rfl (w.heap.size + 1) 0 rfl M _ (fun w' hw' => by obtain ⟨p, rfl⟩ := hw'; exact rangeAt_same Hrb.out p.h) Tryz.underlying45 rfl (by rw [Lb.out]; exact infoDeed) ?_
        | quiet_step (first | (go_at_call 51; exact quiet_sameW (HE.out _)) | (go_at_call 52; exact quiet_sameW (HB.out _))))
      refine wpQuiet_nil ?_
      rintro _ ⟨pq, rfl⟩
      go_wp2_with fail
      go_ret
      exact ⟨by rw [← HV.out]; simp [hx0, hy0], Hs.out.same pq.h⟩
    · have dy : decide (0 ≤ y) = false := decide_eq_false hy0
      go_enter Tryz.func37, Tryz.ntmps37
      go_wp2_with fail
      generalize (w.alloc (.cells L.toArray 45)).alloc (.cells M.toArray 45) = W at *
      refine wp_region_quiet_same (by kernel_rfl) (by kernel_rfl) ?_
      repeat (first
        | refine wpQuiet_ld (by rfl) 45 _ rfl w.heap.size 0 rfl L _ (fun w' hw' => by obtain ⟨p, rfl⟩ := hw'; exact rangeAt_same Hra.out p.h) Tryz.underlying45 rfl (by rw [La.out]; exact infoDeed) ?_
        | refine wpQuiet_ld (by rfl) 45 _ rfl (w.heap.size + 1) 0 rfl M _ (fun w' hw' => by obtain ⟨p, rfl⟩ := hw'; exact rangeAt_same Hrb.out p.h) Tryz.underlying45 rfl (by rw [Lb.out]; exact infoDeed) ?_
        | quiet_step (first | (go_at_call 51; exact quiet_sameW (HE.out _)) | (go_at_call 52; exact quiet_sameW (HB.out _))))
      refine wpQuiet_nil ?_
      rintro _ ⟨pq, rfl⟩
      go_wp2_with fail
      go_ret
      exact ⟨by rw [← HV.out]; simp; omega, Hs.out.same pq.h⟩
  · have dx : decide (0 ≤ x) = false := decide_eq_false hx0
    go_enter Tryz.func37, Tryz.ntmps37
    go_wp2_with fail
    generalize (w.alloc (.cells L.toArray 45)).alloc (.cells M.toArray 45) = W at *
    refine wp_region_quiet_same (by kernel_rfl) (by kernel_rfl) ?_
    repeat (first
      | refine wpQuiet_ld (by rfl) 45 _ rfl w.heap.size 0 rfl L _ (fun w' hw' => by obtain ⟨p, rfl⟩ := hw'; exact rangeAt_same Hra.out p.h) Tryz.underlying45 rfl (by rw [La.out]; exact infoDeed) ?_
      | refine wpQuiet_ld (by rfl) 45 _ rfl (w.heap.size + 1) 0 rfl M _ (fun w' hw' => by obtain ⟨p, rfl⟩ := hw'; exact rangeAt_same Hrb.out p.h) Tryz.underlying45 rfl (by rw [Lb.out]; exact infoDeed) ?_
      | quiet_step (first | (go_at_call 51; exact quiet_sameW (HE.out _)) | (go_at_call 52; exact quiet_sameW (HB.out _))))
    refine wpQuiet_nil ?_
    rintro _ ⟨pq, rfl⟩
    go_wp2_with fail
    go_ret
    exact ⟨by rw [← HV.out]; simp; omega, Hs.out.same pq.h⟩
end Go.Proofs.YtenkdjfikppkdaaGreat
