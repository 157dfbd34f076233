/-
  The document's own words: is a number in a list; operations: Can, Before. No conditions but on lists' lengths.
-/
import Derived.Test.YtenkdjfikppkdaaGreatRfA
namespace Go.Proofs.YtenkdjfikppkdaaGreat
open Go.RowKit Go.Al
set_option linter.unusedVariables false

/-- an operation whose guard is false is passed over -/
theorem wpQuiet_skip {P : Program} {ops : Array Oper} {C : World → Prop} {Q : Act → Prop} {rest : List Oper} {o : Oper} {a : Act} (h : Region.wanted o (yielded ops a.tmps) = false) (hr : wpQuiet P ops C Q rest (a.put o.dst undef)) : wpQuiet P ops C Q (o :: rest) a :=
  wpQuiet_step fun K hK => by
    rw [if_neg (by rw [h]; decide)]
    exact hK _ hr
theorem hasI_take {l : List Int} {v : Int} {n : Nat} (hn : l.length = n) (h : ∀ j x, j < n → l[j]? = some x → ¬ x = v) : hasI l v = false := by
  cases hh : hasI l v with
  | false => rfl
  | true =>
    rw [hasI_iff] at hh
    obtain ⟨j, hj, he⟩ := List.mem_iff_getElem.1 hh
    exact absurd he (h j _ (by omega) (List.getElem?_eq_getElem hj))
set_option maxRecDepth 100000 in
set_option maxHeartbeats 4000000 in
theorem inRf_any {A : Option Addr} {c : Nat} (xs : List Int) (v : Int) (w : World) (h : Rd w A (is xs)) (hl : xs.length ≤ maxLen) :
    Calls Tryz.prog 30 #[.slice A xs.length c, .int .i64 v] w fun e w' => e = .returned (.bool (hasI xs v)) ∧ Same w w' := by
  unfold maxLen at hl
  have HX := hide h
  obtain ⟨n, hn⟩ : ∃ n, xs.length = n := ⟨_, rfl⟩
  rw [hn] at hl ⊢
  have Hn := hide hn
  clear h hn
  go_enter Tryz.func30, Tryz.ntmps30
  go_wp2_with fail
  go_loopg [5] n (fun k vi wr => ∃ i : Nat, i ≤ n ∧ k = n - i ∧ vi = .int .i64 i ∧ (∀ j x, j < i → xs[j]? = some x → ¬ x = v) ∧ w = wr)
  case atStart => exact ⟨0, Nat.zero_le _, rfl, rfl, fun j x h => by omega, rfl⟩
  case round =>
    obtain ⟨i, hi, hk, rfl, hall, rfl⟩ := hrel
    have Hk := hide hk
    have Hall := hide hall
    clear hk hall
    by_cases hlt : i < n
    · obtain ⟨b, off, rfl, hcx⟩ := HX.out.at_ (i := i) (by rw [is_length, Hn.out]; exact hlt)
      have hix : i < xs.length := by rw [Hn.out]; exact hlt
      have Hgx := hide (List.getElem?_eq_getElem hix)
      have Hmem := hide (List.getElem_mem hix)
      simp only [is, List.getElem_map] at hcx
      generalize xs[i] = x at *
      by_cases hxy : x = v
      · have Hy := hide (show hasI xs v = true from hasI_iff.2 (by rw [← hxy]; exact Hmem.out))
        subst hxy
        go_wp2_with fail
        go_ret
        exact ⟨by rw [Hy.out]; rfl, Chg.refl _ w⟩
      · have hb : (x == v) = false := by simp [hxy]
        have Hn2 : Hid (∀ j y, j < i + 1 → xs[j]? = some y → ¬ y = v) := hide fun j y hj hy => by
          rcases Nat.lt_or_ge j i with h | h
          · exact Hall.out j y h hy
          · obtain rfl : j = i := by omega
            have e := Hgx.out.symm.trans hy
            rw [← Option.some.inj e]
            exact hxy
        clear hxy
        go_wp2_with fail
        go_roundg (n - (i + 1))
        case measure => have := Hk.out; omega
        case rel => exact ⟨i + 1, by omega, rfl, by go_num, Hn2.out, rfl⟩
    · have he : n = i := by omega
      subst he
      go_wp2_with fail
      go_ret
      exact ⟨by rw [hasI_take Hn.out Hall.out]; rfl, Chg.refl _ w⟩
set_option maxRecDepth 100000 in
set_option maxHeartbeats 8000000 in
theorem beforeRf_any (a b : Dd) (w : World) :
    Calls Tryz.prog 32 #[ddV a, ddV b] w fun e w' => e = .returned (.bool (beforeD a b)) ∧ Same w w' := by
  have h2 : (ddL a)[2]? = some (.int .i64 a.rp) := rfl
  have h4 : (ddL a)[4]? = some (.int .i64 a.rf) := rfl
  have h0 : (ddL b)[0]? = some (.int .i64 b.iv) := rfl
  have h5 : (ddL b)[4]? = some (.int .i64 b.rf) := rfl
  have Hs := hide (((Chg.refl (fun _ => False) w).alloc (.cells (ddL a).toArray 45)).alloc (.cells (ddL b).toArray 45))
  obtain ⟨v, hv⟩ : ∃ v, beforeD a b = v := ⟨_, rfl⟩
  rw [hv]
  unfold beforeD endD beginD at hv
  unfold ddV
  obtain ⟨x, hx⟩ : ∃ x, a.rp = x := ⟨_, rfl⟩
  obtain ⟨y, hy⟩ : ∃ y, a.rf = y := ⟨_, rfl⟩
  obtain ⟨z, hz⟩ : ∃ z, b.iv = z := ⟨_, rfl⟩
  obtain ⟨u, hu⟩ : ∃ u, b.rf = u := ⟨_, rfl⟩
  rw [hx] at h2 hv
  rw [hy] at h4 hv
  rw [hz] at h0 hv
  rw [hu] at h5 hv
  have HV := hide hv
  clear hx hy hz hu hv
  generalize ddL a = L at *
  generalize ddL b = M at *
  by_cases c1 : x < y
  · by_cases c2 : z < u
    · by_cases c3 : 0 ≤ y
      · by_cases c4 : 0 ≤ u
        · go_enter Tryz.func32, Tryz.ntmps32
          go_wp2_with fail
          go_quiet (fail)
          go_wp2_with fail
          go_ret
          exact ⟨by rw [← HV.out]; first | rw [if_pos (show x < y by omega)] | rw [if_neg (show ¬ x < y by omega)]
                    first | rw [if_pos (show z < u by omega)] | rw [if_neg (show ¬ z < u by omega)]
                    exact ret_bool (by rw [Bool.eq_iff_iff]; simp; omega), Hs.out.drewN _⟩
        · go_enter Tryz.func32, Tryz.ntmps32
          go_wp2_with fail
          go_quiet (fail)
          go_wp2_with fail
          go_ret
          exact ⟨by rw [← HV.out]; first | rw [if_pos (show x < y by omega)] | rw [if_neg (show ¬ x < y by omega)]
                    first | rw [if_pos (show z < u by omega)] | rw [if_neg (show ¬ z < u by omega)]
                    exact ret_bool (by rw [Bool.eq_iff_iff]; simp; omega), Hs.out.drewN _⟩
      · go_enter Tryz.func32, Tryz.ntmps32
        go_wp2_with fail
        go_quiet (fail)
        go_wp2_with fail
        go_ret
        exact ⟨by rw [← HV.out]; first | rw [if_pos (show x < y by omega)] | rw [if_neg (show ¬ x < y by omega)]
                  first | rw [if_pos (show z < u by omega)] | rw [if_neg (show ¬ z < u by omega)]
                  exact ret_bool (by rw [Bool.eq_iff_iff]; simp; omega), Hs.out.drewN _⟩
    · by_cases c3 : 0 ≤ y
      · by_cases c4 : 0 ≤ z
        · go_enter Tryz.func32, Tryz.ntmps32
          go_wp2_with fail
          go_quiet (fail)
          go_wp2_with fail
          go_ret
          exact ⟨by rw [← HV.out]; first | rw [if_pos (show x < y by omega)] | rw [if_neg (show ¬ x < y by omega)]
                    first | rw [if_pos (show z < u by omega)] | rw [if_neg (show ¬ z < u by omega)]
                    exact ret_bool (by rw [Bool.eq_iff_iff]; simp; omega), Hs.out.drewN _⟩
        · go_enter Tryz.func32, Tryz.ntmps32
          go_wp2_with fail
          go_quiet (fail)
          go_wp2_with fail
          go_ret
          exact ⟨by rw [← HV.out]; first | rw [if_pos (show x < y by omega)] | rw [if_neg (show ¬ x < y by omega)]
                    first | rw [if_pos (show z < u by omega)] | rw [if_neg (show ¬ z < u by omega)]
                    exact ret_bool (by rw [Bool.eq_iff_iff]; simp; omega), Hs.out.drewN _⟩
      · go_enter Tryz.func32, Tryz.ntmps32
        go_wp2_with fail
        go_quiet (fail)
        go_wp2_with fail
        go_ret
        exact ⟨by rw [← HV.out]; first | rw [if_pos (show x < y by omega)] | rw [if_neg (show ¬ x < y by omega)]
                  first | rw [if_pos (show z < u by omega)] | rw [if_neg (show ¬ z < u by omega)]
                  exact ret_bool (by rw [Bool.eq_iff_iff]; simp; omega), Hs.out.drewN _⟩
  · by_cases c2 : z < u
    · by_cases c3 : 0 ≤ x
      · by_cases c4 : 0 ≤ u
        · go_enter Tryz.func32, Tryz.ntmps32
          go_wp2_with fail
          go_quiet (fail)
          go_wp2_with fail
          go_ret
          exact ⟨by rw [← HV.out]; first | rw [if_pos (show x < y by omega)] | rw [if_neg (show ¬ x < y by omega)]
                    first | rw [if_pos (show z < u by omega)] | rw [if_neg (show ¬ z < u by omega)]
                    exact ret_bool (by rw [Bool.eq_iff_iff]; simp; omega), Hs.out.drewN _⟩
        · go_enter Tryz.func32, Tryz.ntmps32
          go_wp2_with fail
          go_quiet (fail)
          go_wp2_with fail
          go_ret
          exact ⟨by rw [← HV.out]; first | rw [if_pos (show x < y by omega)] | rw [if_neg (show ¬ x < y by omega)]
                    first | rw [if_pos (show z < u by omega)] | rw [if_neg (show ¬ z < u by omega)]
                    exact ret_bool (by rw [Bool.eq_iff_iff]; simp; omega), Hs.out.drewN _⟩
      · go_enter Tryz.func32, Tryz.ntmps32
        go_wp2_with fail
        go_quiet (fail)
        go_wp2_with fail
        go_ret
        exact ⟨by rw [← HV.out]; first | rw [if_pos (show x < y by omega)] | rw [if_neg (show ¬ x < y by omega)]
                  first | rw [if_pos (show z < u by omega)] | rw [if_neg (show ¬ z < u by omega)]
                  exact ret_bool (by rw [Bool.eq_iff_iff]; simp; omega), Hs.out.drewN _⟩
    · by_cases c3 : 0 ≤ x
      · by_cases c4 : 0 ≤ z
        · go_enter Tryz.func32, Tryz.ntmps32
          go_wp2_with fail
          go_quiet (fail)
          go_wp2_with fail
          go_ret
          exact ⟨by rw [← HV.out]; first | rw [if_pos (show x < y by omega)] | rw [if_neg (show ¬ x < y by omega)]
                    first | rw [if_pos (show z < u by omega)] | rw [if_neg (show ¬ z < u by omega)]
                    exact ret_bool (by rw [Bool.eq_iff_iff]; simp; omega), Hs.out.drewN _⟩
        · go_enter Tryz.func32, Tryz.ntmps32
          go_wp2_with fail
          go_quiet (fail)
          go_wp2_with fail
          go_ret
          exact ⟨by rw [← HV.out]; first | rw [if_pos (show x < y by omega)] | rw [if_neg (show ¬ x < y by omega)]
                    first | rw [if_pos (show z < u by omega)] | rw [if_neg (show ¬ z < u by omega)]
                    exact ret_bool (by rw [Bool.eq_iff_iff]; simp; omega), Hs.out.drewN _⟩
      · go_enter Tryz.func32, Tryz.ntmps32
        go_wp2_with fail
        go_quiet (fail)
        go_wp2_with fail
        go_ret
        exact ⟨by rw [← HV.out]; first | rw [if_pos (show x < y by omega)] | rw [if_neg (show ¬ x < y by omega)]
                  first | rw [if_pos (show z < u by omega)] | rw [if_neg (show ¬ z < u by omega)]
                  exact ret_bool (by rw [Bool.eq_iff_iff]; simp; omega), Hs.out.drewN _⟩
set_option maxRecDepth 100000 in
set_option maxHeartbeats 8000000 in
theorem canRf_any (d : Dd) (w : World) :
    Calls Tryz.prog 31 #[ddV d] w fun e w' => e = .returned (.bool (canD d)) ∧ Same w w' := by
  have h0 : (ddL d)[0]? = some (.int .i64 d.iv) := rfl
  have h2 : (ddL d)[2]? = some (.int .i64 d.rp) := rfl
  have h4 : (ddL d)[4]? = some (.int .i64 d.rf) := rfl
  have h6 : (ddL d)[6]? = some (.int .i64 d.r.k) := rfl
  have HG := hide (goodRf_any d.r)
  have Hs := hide ((Chg.refl (fun _ => False) w).alloc (.cells (ddL d).toArray 45))
  have hr := rangeAt_blk ((ddL d).take 6) (rqL d.r) ((ddL d).drop 24) (show Blk (w.alloc (.cells (ddL d).toArray 45)) w.heap.size 45 _ from Blk.new w 45 (ddL d).toArray)
  rw [show ((ddL d).take 6).length = 6 from rfl] at hr
  have Hr := hide hr
  have Hlr := hide (rqL_length d.r)
  clear hr
  obtain ⟨v, hv⟩ : ∃ v, canD d = v := ⟨_, rfl⟩
  rw [hv]
  unfold canD mustD at hv
  unfold ddV
  unfold rqV at HG
  obtain ⟨x, hx⟩ : ∃ x, d.rp = x := ⟨_, rfl⟩
  obtain ⟨y, hy⟩ : ∃ y, d.rf = y := ⟨_, rfl⟩
  obtain ⟨z, hz⟩ : ∃ z, d.iv = z := ⟨_, rfl⟩
  obtain ⟨k, hk⟩ : ∃ k, d.r.k = k := ⟨_, rfl⟩
  obtain ⟨g, hg⟩ : ∃ g, goodR d.r = g := ⟨_, rfl⟩
  rw [hx] at h2 hv
  rw [hy] at h4 hv
  rw [hz] at h0 hv
  rw [hk] at h6 hv
  rw [hg] at HG hv
  have HV := hide hv
  clear hx hy hz hk hg hv
  generalize ddL d = L at *
  generalize rqL d.r = R at *
  by_cases c1 : 0 ≤ x
  · go_enter Tryz.func31, Tryz.ntmps31
    go_wp2_with (first
      | (refine wpList_ld (by rfl) 37 _ rfl w.heap.size 6 rfl R _ Hr.out Tryz.underlying37 rfl (by rw [Hlr.out]; exact infoReq) ?_)
      | (go_at_call 33; have hF := HG.out; refine (hF _).mono ?_; rintro e w2 ⟨rfl, hs⟩; have Hs2 := hide hs; clear hs hF))
    go_ret
    exact ⟨by rw [← HV.out]; exact ret_bool (by (first | rw [decide_eq_true (show 0 ≤ x by omega)] | rw [decide_eq_false (show ¬ 0 ≤ x by omega)]); (try first | rw [decide_eq_true (show 0 ≤ z by omega)] | rw [decide_eq_false (show ¬ 0 ≤ z by omega)]); (try first | rw [decide_eq_true (show y < 0 by omega)] | rw [decide_eq_false (show ¬ y < 0 by omega)]); simp [*]), by first | exact Hs.out | exact Hs.out.same Hs2.out⟩
  · by_cases c2 : 0 ≤ z
    · by_cases c3 : y < 0
      · by_cases c4 : k = 1
        · subst c4
          go_enter Tryz.func31, Tryz.ntmps31
          go_wp2_with (first
            | (refine wpList_ld (by rfl) 37 _ rfl w.heap.size 6 rfl R _ Hr.out Tryz.underlying37 rfl (by rw [Hlr.out]; exact infoReq) ?_)
            | (go_at_call 33; have hF := HG.out; refine (hF _).mono ?_; rintro e w2 ⟨rfl, hs⟩; have Hs2 := hide hs; clear hs hF))
          go_ret
          exact ⟨by rw [← HV.out]; exact ret_bool (by (first | rw [decide_eq_true (show 0 ≤ x by omega)] | rw [decide_eq_false (show ¬ 0 ≤ x by omega)]); (try first | rw [decide_eq_true (show 0 ≤ z by omega)] | rw [decide_eq_false (show ¬ 0 ≤ z by omega)]); (try first | rw [decide_eq_true (show y < 0 by omega)] | rw [decide_eq_false (show ¬ y < 0 by omega)]); simp [*]), by first | exact Hs.out | exact Hs.out.same Hs2.out⟩
        · go_enter Tryz.func31, Tryz.ntmps31
          go_wp2_with (first
            | (refine wpList_ld (by rfl) 37 _ rfl w.heap.size 6 rfl R _ Hr.out Tryz.underlying37 rfl (by rw [Hlr.out]; exact infoReq) ?_)
            | (go_at_call 33; have hF := HG.out; refine (hF _).mono ?_; rintro e w2 ⟨rfl, hs⟩; have Hs2 := hide hs; clear hs hF))
          go_ret
          exact ⟨by rw [← HV.out]; exact ret_bool (by (first | rw [decide_eq_true (show 0 ≤ x by omega)] | rw [decide_eq_false (show ¬ 0 ≤ x by omega)]); (try first | rw [decide_eq_true (show 0 ≤ z by omega)] | rw [decide_eq_false (show ¬ 0 ≤ z by omega)]); (try first | rw [decide_eq_true (show y < 0 by omega)] | rw [decide_eq_false (show ¬ y < 0 by omega)]); simp [*]), by first | exact Hs.out | exact Hs.out.same Hs2.out⟩
      · go_enter Tryz.func31, Tryz.ntmps31
        go_wp2_with (first
          | (refine wpList_ld (by rfl) 37 _ rfl w.heap.size 6 rfl R _ Hr.out Tryz.underlying37 rfl (by rw [Hlr.out]; exact infoReq) ?_)
          | (go_at_call 33; have hF := HG.out; refine (hF _).mono ?_; rintro e w2 ⟨rfl, hs⟩; have Hs2 := hide hs; clear hs hF))
        go_ret
        exact ⟨by rw [← HV.out]; exact ret_bool (by (first | rw [decide_eq_true (show 0 ≤ x by omega)] | rw [decide_eq_false (show ¬ 0 ≤ x by omega)]); (try first | rw [decide_eq_true (show 0 ≤ z by omega)] | rw [decide_eq_false (show ¬ 0 ≤ z by omega)]); (try first | rw [decide_eq_true (show y < 0 by omega)] | rw [decide_eq_false (show ¬ y < 0 by omega)]); simp [*]), by first | exact Hs.out | exact Hs.out.same Hs2.out⟩
    · go_enter Tryz.func31, Tryz.ntmps31
      go_wp2_with (first
        | (refine wpList_ld (by rfl) 37 _ rfl w.heap.size 6 rfl R _ Hr.out Tryz.underlying37 rfl (by rw [Hlr.out]; exact infoReq) ?_)
        | (go_at_call 33; have hF := HG.out; refine (hF _).mono ?_; rintro e w2 ⟨rfl, hs⟩; have Hs2 := hide hs; clear hs hF))
      go_ret
      exact ⟨by rw [← HV.out]; exact ret_bool (by (first | rw [decide_eq_true (show 0 ≤ x by omega)] | rw [decide_eq_false (show ¬ 0 ≤ x by omega)]); (try first | rw [decide_eq_true (show 0 ≤ z by omega)] | rw [decide_eq_false (show ¬ 0 ≤ z by omega)]); (try first | rw [decide_eq_true (show y < 0 by omega)] | rw [decide_eq_false (show ¬ y < 0 by omega)]); simp [*]), by first | exact Hs.out | exact Hs.out.same Hs2.out⟩
end Go.Proofs.YtenkdjfikppkdaaGreat
