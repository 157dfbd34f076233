/-
  The law's own calls as the evaluator takes them: both Queries, both Kinds, lives. No conditions but those that are named.
-/
import Derived.Test.YthjnecicagmdeaaGreatAqKa
import Derived.Test.YthjnecicagmdeaaGreatAqKr
import Derived.Test.YthjnecicagmdeaaGreatLiv42
namespace Go.Proofs.YthjnecicagmdeaaGreat.V.AqL
open Go.Proofs.YthjnecicagmdeaaGreat Go.Proofs.YthjnecicagmdeaaGreat.V Go.RowKit Go.E2
open Go.Al hiding P3
set_option linter.unusedVariables false
set_option linter.unusedSectionVars false

def qE [Facts] : List SV → St → Option (SR × St)
  | [.root i, .root j], st => match rowJ st i, rowJ st j with
    | some (e, sz, true, c, t), some (e2, sz2, true, c2, t2) => cond (!Nat.beq i j && (Nat.beq e 40 && (Nat.beq sz 3 && (leB (.app 12 [t]) (.lit 20) && (Nat.beq e2 42 && (Nat.beq sz2 3 && leB (.app 12 [t2]) (.lit 20))))))) (some (.ret (.root st.nx), ⟨ins (killL [i, j] st.H) st.nx (.blob 107 (.app 28 [t, t2])), st.nx + 1, [i, j] ++ st.wr⟩)) none
    | _, _ => none
  | _, _ => none
theorem qE_ok {F : Facts} : Entry Tryz.prog 5 qE := by
  intro args st r st' h A I w hok ha
  unfold qE at h
  split at h
  case h_2 => cases h
  rename_i i j
  split at h
  case h_2 => cases h
  rename_i e sz c t e2 sz2 c2 t2 hi hj
  rw [Bool.cond_eq_ite] at h
  split at h
  case isFalse => cases h
  rename_i hb
  simp only [Bool.and_eq_true, Nat.beq_eq] at hb
  obtain ⟨hne, rfl, rfl, b1, rfl, rfl, b2⟩ := hb
  cases h
  obtain ⟨hl, _, _, _, hrow⟩ := rowJ_spec hok hi
  obtain ⟨hl2, _, _, _, hrow2⟩ := rowJ_spec hok hj
  have m1 : (((Tm.den I.val.r t).toR).length : Int) ≤ 20 := leB_den hok.val b1
  have m2 : (((Tm.den I.val.r t2).toR).length : Int) ≤ 20 := leB_den hok.val b2
  have hd : ∀ b, (I.esl i).fp b → ¬ (I.esl j).fp b := fun b g1 g2 => by
    have := hok.inj i j (by rw [hl]; simp) (by rw [hl2]; simp) b g1 g2
    rw [this, Nat.beq_refl] at hne
    cases hne
  exact turn_entry hok (ks := [i, j]) (c := 107) (t := .app 28 [t, t2]) (fun k hk => by
    simp only [List.mem_cons, List.not_mem_nil, or_false] at hk
    rcases hk with rfl | rfl
    · rw [hl]; simp
    · rw [hl2]; simp) ((AqQ.queries_any (P := (Tm.den I.val.r t).toR) (S := (Tm.den I.val.r t2).toR) hrow hrow2 hd (by omega) (by omega)).mono fun e w' ht => ht.mono (fun r fp w' h => ⟨h.one, h⟩) (fun b hb => hb.elim (fun hb => ⟨i, by simp, hb⟩) fun hb => ⟨j, by simp, hb⟩))
def rqE [Facts] : List SV → St → Option (SR × St)
  | [.root i, .root j], st => match rowJ st i, rowJ st j with
    | some (e, sz, own, c, t), some (e2, sz2, own2, c2, t2) => cond (!Nat.beq i j && (Nat.beq e 40 && (Nat.beq sz 3 && (leB (.app 12 [t]) (.lit 20) && (Nat.beq e2 42 && (Nat.beq sz2 3 && leB (.app 12 [t2]) (.lit 20))))))) (some (.ret (.root st.nx), ⟨ins (killL [] st.H) st.nx (.blob 106 (.app 28 [t, t2])), st.nx + 1, [] ++ st.wr⟩)) none
    | _, _ => none
  | _, _ => none
theorem rqE_ok {F : Facts} : Entry Tryz.prog 6 rqE := by
  intro args st r st' h A I w hok ha
  unfold rqE at h
  split at h
  case h_2 => cases h
  rename_i i j
  split at h
  case h_2 => cases h
  rename_i e sz own c t e2 sz2 own2 c2 t2 hi hj
  rw [Bool.cond_eq_ite] at h
  split at h
  case isFalse => cases h
  rename_i hb
  simp only [Bool.and_eq_true, Nat.beq_eq] at hb
  obtain ⟨hne, rfl, rfl, b1, rfl, rfl, b2⟩ := hb
  cases h
  obtain ⟨hl, _, _, _, hrow⟩ := rowJ_spec hok hi
  obtain ⟨hl2, _, _, _, hrow2⟩ := rowJ_spec hok hj
  have m1 : (((Tm.den I.val.r t).toR).length : Int) ≤ 20 := leB_den hok.val b1
  have m2 : (((Tm.den I.val.r t2).toR).length : Int) ≤ 20 := leB_den hok.val b2
  have hd : ∀ b, (I.esl i).fp b → ¬ (I.esl j).fp b := fun b g1 g2 => by
    have := hok.inj i j (by rw [hl]; simp) (by rw [hl2]; simp) b g1 g2
    rw [this, Nat.beq_refl] at hne
    cases hne
  exact turn_entry hok (ks := []) (c := 106) (t := .app 28 [t, t2]) (fun k hk => by cases hk) ((AqR.refq_any (P := (Tm.den I.val.r t).toR) (S := (Tm.den I.val.r t2).toR) hrow hrow2 hd (by omega) (by omega)).mono fun e w' ht => ht.mono (fun r fp w' h => ⟨h.one, h⟩) (fun b hb => hb.elim))
def livE : List SV → St → Option (SR × St)
  | [], st => some (.ret (.bool true), st)
  | _, _ => none
theorem livE_ok {F : Facts} : Entry Tryz.prog 9 livE := by
  intro args st r st' h A I w hok ha
  unfold livE at h
  split at h
  case h_2 => cases h
  cases h
  exact read_entry hok trivial (lives42 w)
/-- lists of which all kinds are kinds -/
def kOk (L : List (List Int)) : Prop := L.length ≤ 1000 ∧ ∀ x ∈ L, ∃ k : Nat, 1 ≤ k ∧ k ≤ 7 ∧ x.getD 0 0 = (k : Int)
theorem kOk_sug {P S : List (List Int)} (hP : P.length ≤ 20) (hS : S.length ≤ 20) : kOk (sugQ P S) := by
  have h1 := AqQ.sugP_length P
  have h2 := AqQ.sugS_length S
  refine ⟨?_, fun x hx => ?_⟩
  · refine Nat.le_trans (List.length_filter_le _ _) ?_
    unfold allQ
    rw [List.length_append, List.length_append]
    split <;> simp only [List.length_nil, List.length_singleton] <;> omega
  · have hx := (List.mem_filter.1 hx).1
    unfold allQ at hx
    rcases List.mem_append.1 hx with hx | hx
    · obtain ⟨p, _, hp⟩ := List.mem_flatMap.1 hx
      simp only [sugP, List.mem_cons, List.not_mem_nil, or_false] at hp
      rcases hp with rfl | rfl | rfl | rfl
      · exact ⟨1, by decide, by decide, rfl⟩
      · exact ⟨2, by decide, by decide, rfl⟩
      · exact ⟨3, by decide, by decide, rfl⟩
      · exact ⟨4, by decide, by decide, rfl⟩
    · rcases List.mem_append.1 hx with hx | hx
      · obtain ⟨p, _, hp⟩ := List.mem_flatMap.1 hx
        simp only [sugS, List.mem_cons, List.not_mem_nil, or_false] at hp
        rcases hp with rfl | rfl | rfl | rfl
        · exact ⟨5, by decide, by decide, rfl⟩
        · exact ⟨5, by decide, by decide, rfl⟩
        · exact ⟨6, by decide, by decide, rfl⟩
        · exact ⟨7, by decide, by decide, rfl⟩
      · split at hx
        · cases hx
        · rw [List.mem_singleton.1 hx]
          exact ⟨2, by decide, by decide, rfl⟩
end Go.Proofs.YthjnecicagmdeaaGreat.V.AqL
