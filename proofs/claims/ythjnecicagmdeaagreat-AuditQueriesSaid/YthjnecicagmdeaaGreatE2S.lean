/-
  The evaluator: calls whose outcome at one memory is known. No program is named here. No conditions.
-/
import Derived.Test.YthjnecicagmdeaaGreatEc
namespace Go.E2
open Go.RowKit Go.Al
set_option linter.unusedVariables false
set_option linter.unusedSectionVars false

def eqO : Option Nat → Option Nat → Bool
  | none, none => true
  | some a, some b => Nat.beq a b
  | _, _ => false
theorem eqO_eq {a b : Option Nat} (h : eqO a b = true) : a = b := by
  cases a <;> cases b <;> simp only [eqO, Nat.beq_eq, Bool.false_eq_true] at h
  · rfl
  · rw [h]
def eqB : List UInt8 → List UInt8 → Bool
  | [], [] => true
  | x :: l, y :: m => Nat.beq x.toNat y.toNat && eqB l m
  | _, _ => false
theorem eqB_eq : ∀ {l m : List UInt8}, eqB l m = true → l = m
  | [], [], _ => rfl
  | x :: l, y :: m, h => by
    simp only [eqB, Bool.and_eq_true, Nat.beq_eq] at h
    rw [UInt8.toNat_inj.1 h.1, eqB_eq h.2]
  | [], _ :: _, h => by cases h
  | _ :: _, [], h => by cases h
mutual
/-- the very same value -/
def SV.same : SV → SV → Bool
  | .bool a, .bool b => a == b
  | .int k n, .int l m => decide (k = l) && eqZ n m
  | .str s, .str t => eqB s t
  | .ptr p, .ptr q => eqP p q
  | .slice p n (.lit c), .slice q m (.lit d) => eqP p q && Nat.beq n m && Nat.beq c d
  | .slice p n (.sym j k), .slice q m (.sym i l) => eqP p q && Nat.beq n m && Nat.beq j i && Nat.beq k l
  | .esl j, .esl k => Nat.beq j k
  | .map r, .map s => eqO r s
  | .func (.func f) l m, .func (.func g) l' m' => Nat.beq f g && sameL l l' && sameL m m'
  | .nilFunc, .nilFunc => true
  | .iface t v, .iface u w => Nat.beq t u && SV.same v w
  | .nilIface, .nilIface => true
  | .agg l, .agg m => sameL l m
  | .tup l, .tup m => sameL l m
  | .atom n, .atom m => Nat.beq n m
  | .ix t, .ix u => t.eqb u
  | .bx t p, .bx u q => t.eqb u && (p == q)
  | .root j, .root k => Nat.beq j k
  | _, _ => false
def sameL : List SV → List SV → Bool
  | [], [] => true
  | x :: l, y :: m => SV.same x y && sameL l m
  | _, _ => false
end
mutual
theorem SV.same_eq : ∀ (x y : SV), x.same y = true → x = y
  | .bool a, y, h => by
    cases y <;> simp only [SV.same, Bool.false_eq_true, beq_iff_eq] at h
    rw [h]
  | .int k n, y, h => by
    cases y <;> simp only [SV.same, Bool.false_eq_true, Bool.and_eq_true, decide_eq_true_eq] at h
    rw [h.1, eqZ_eq h.2]
  | .str s, y, h => by
    cases y <;> simp only [SV.same, Bool.false_eq_true] at h
    rw [eqB_eq h]
  | .ptr p, y, h => by
    cases y <;> simp only [SV.same, Bool.false_eq_true] at h
    rw [eqP_eq h]
  | .slice p n (.lit c), y, h => by
    cases y <;> (try (rename_i c2; cases c2)) <;> simp only [SV.same, Bool.false_eq_true, Bool.and_eq_true, Nat.beq_eq] at h
    rw [eqP_eq h.1.1, h.1.2, h.2]
  | .slice p n (.sym j k), y, h => by
    cases y <;> (try (rename_i c2; cases c2)) <;> simp only [SV.same, Bool.false_eq_true, Bool.and_eq_true, Nat.beq_eq] at h
    rw [eqP_eq h.1.1.1, h.1.1.2, h.1.2, h.2]
  | .esl j, y, h => by
    cases y <;> simp only [SV.same, Bool.false_eq_true, Nat.beq_eq] at h
    rw [h]
  | .map r, y, h => by
    cases y <;> simp only [SV.same, Bool.false_eq_true] at h
    rw [eqO_eq h]
  | .func f l m, y, h => by
    cases f <;> cases y <;> (try (rename_i f2 _ _; cases f2)) <;> simp only [SV.same, Bool.false_eq_true, Bool.and_eq_true, Nat.beq_eq] at h
    rw [h.1.1, sameL_eq _ _ h.1.2, sameL_eq _ _ h.2]
  | .nilFunc, y, h => by cases y <;> simp only [SV.same, Bool.false_eq_true] at h; rfl
  | .iface t v, y, h => by
    cases y <;> simp only [SV.same, Bool.false_eq_true, Bool.and_eq_true, Nat.beq_eq] at h
    rw [h.1, SV.same_eq _ _ h.2]
  | .nilIface, y, h => by cases y <;> simp only [SV.same, Bool.false_eq_true] at h; rfl
  | .agg l, y, h => by
    cases y <;> simp only [SV.same, Bool.false_eq_true] at h
    rw [sameL_eq _ _ h]
  | .tup l, y, h => by
    cases y <;> simp only [SV.same, Bool.false_eq_true] at h
    rw [sameL_eq _ _ h]
  | .atom n, y, h => by
    cases y <;> simp only [SV.same, Bool.false_eq_true, Nat.beq_eq] at h
    rw [h]
  | .yld n, y, h => by cases y <;> simp [SV.same] at h
  | .any n, y, h => by cases y <;> simp [SV.same] at h
  | .ix t, y, h => by
    cases y <;> simp only [SV.same, Bool.false_eq_true] at h
    rw [eqb_eq _ _ h]
  | .bx t p, y, h => by
    cases y <;> simp only [SV.same, Bool.false_eq_true, Bool.and_eq_true, beq_iff_eq] at h
    rw [eqb_eq _ _ h.1, h.2]
  | .vw _ _ _ _, y, h => by cases y <;> simp [SV.same] at h
  | .pel _ _ _ _, y, h => by cases y <;> simp [SV.same] at h
  | .root j, y, h => by
    cases y <;> simp only [SV.same, Bool.false_eq_true, Nat.beq_eq] at h
    rw [h]
theorem sameL_eq : ∀ (l m : List SV), sameL l m = true → l = m
  | [], [], _ => rfl
  | x :: l, y :: m, h => by
    simp only [sameL, Bool.and_eq_true] at h
    rw [SV.same_eq x y h.1, sameL_eq l m h.2]
  | [], _ :: _, h => by simp [sameL] at h
  | _ :: _, [], h => by simp [sameL] at h
end
def sameM : List (SV × SV × Nat) → List (SV × SV × Nat) → Bool
  | [], [] => true
  | x :: l, y :: m => x.1.same y.1 && x.2.1.same y.2.1 && Nat.beq x.2.2 y.2.2 && sameM l m
  | _, _ => false
theorem sameM_eq : ∀ {l m : List (SV × SV × Nat)}, sameM l m = true → l = m
  | [], [], _ => rfl
  | x :: l, y :: m, h => by
    simp only [sameM, Bool.and_eq_true, Nat.beq_eq] at h
    obtain ⟨⟨⟨h1, h2⟩, h3⟩, h4⟩ := h
    rw [sameM_eq h4, Prod.ext (SV.same_eq _ _ h1) (Prod.ext (SV.same_eq _ _ h2) h3)]
  | [], _ :: _, h => by cases h
  | _ :: _, [], h => by cases h
def sameN : List Nat → List Nat → Bool
  | [], [] => true
  | x :: l, y :: m => Nat.beq x y && sameN l m
  | _, _ => false
theorem sameN_eq : ∀ {l m : List Nat}, sameN l m = true → l = m
  | [], [], _ => rfl
  | x :: l, y :: m, h => by
    simp only [sameN, Bool.and_eq_true, Nat.beq_eq] at h
    rw [h.1, sameN_eq h.2]
  | [], _ :: _, h => by cases h
  | _ :: _, [], h => by cases h
def SO.same : SO → SO → Bool
  | .cells e cs x, .cells e' cs' x' => Nat.beq e e' && sameL cs cs' && eqO x x'
  | .map es c, .map es' c' => sameM es es' && Nat.beq c c'
  | .iter m a b c, .iter m' a' b' c' => eqO m m' && Nat.beq a a' && sameN b b' && Nat.beq c c'
  | .blob c t, .blob c' t' => Nat.beq c c' && t.eqb t'
  | _, _ => false
theorem SO.same_eq {x y : SO} (h : x.same y = true) : x = y := by
  unfold SO.same at h
  split at h
  · simp only [Bool.and_eq_true, Nat.beq_eq] at h
    rw [h.1.1, sameL_eq _ _ h.1.2, eqO_eq h.2]
  · simp only [Bool.and_eq_true, Nat.beq_eq] at h
    rw [sameM_eq h.1, h.2]
  · simp only [Bool.and_eq_true, Nat.beq_eq] at h
    rw [eqO_eq h.1.1.1, h.1.1.2, sameN_eq h.1.2, h.2]
  · simp only [Bool.and_eq_true, Nat.beq_eq] at h
    rw [h.1, eqb_eq _ _ h.2]
  · cases h
def sameH : List (Nat × SO) → List (Nat × SO) → Bool
  | [], [] => true
  | x :: l, y :: m => Nat.beq x.1 y.1 && x.2.same y.2 && sameH l m
  | _, _ => false
theorem sameH_eq : ∀ {l m : List (Nat × SO)}, sameH l m = true → l = m
  | [], [], _ => rfl
  | x :: l, y :: m, h => by
    simp only [sameH, Bool.and_eq_true, Nat.beq_eq] at h
    rw [sameH_eq h.2, Prod.ext h.1.1 (SO.same_eq h.1.2)]
  | [], _ :: _, h => by cases h
  | _ :: _, [], h => by cases h
def sameSt (s t : St) : Bool := sameH s.H t.H && Nat.beq s.nx t.nx && sameN s.wr t.wr
theorem sameSt_eq {s t : St} (h : sameSt s t = true) : s = t := by
  obtain ⟨a, b, c⟩ := s
  obtain ⟨a', b', c'⟩ := t
  simp only [sameSt, Bool.and_eq_true, Nat.beq_eq] at h
  rw [sameH_eq h.1.1, h.1.2, sameN_eq h.2]
variable [Th] [Facts]
theorem look_append : ∀ (l m : List (Nat × SO)) (k : Nat), look (l ++ m) k = (look l k).or (look m k)
  | [], m, k => by simp [look]
  | (i, o) :: l, m, k => by
    rw [List.cons_append, look_cons, look_cons, look_append l m k]
    split <;> simp
section
variable {P : Program} {A : Nat → Prop} {I I' : In} {st S : St} {w w' : World} {H0 : List (Nat × SO)}
/-- a part of a memory -/
theorem Ok.part (hok : Ok P A I st w) (hsub : ∀ id o, look H0 id = some o → look st.H id = some o) : Ok P A I ⟨H0, st.nx, []⟩ w := by
  have live : ∀ id, look H0 id ≠ none → look st.H id ≠ none := fun id h => by
    obtain ⟨o, ho⟩ := Option.ne_none_iff_exists'.1 h
    rw [hsub id o ho]
    simp
  exact ⟨hok.lt, fun id o ho => hok.key id o (hsub id o ho), fun id o ho => hok.real id o (hsub id o ho), fun id id' h1 h2 => hok.inj id id' (live id h1) (live id' h2), hok.val⟩
/-- what goes on in a part of a memory leaves the rest as it was -/
theorem Mv.frame (hok : Ok P A I st w) (hsub : ∀ id o, look H0 id = some o → look st.H id = some o) (hm : Mv P A I ⟨H0, st.nx, []⟩ w I' S w') {H' : List (Nat × SO)} (hH : ∀ id, look H' id = if look H0 id ≠ none ∨ st.nx ≤ id then look S.H id else look st.H id) :
    Mv P A I st w I' ⟨H', S.nx, S.wr ++ st.wr⟩ w' := by
  have hok0 := hok.part hsub
  have hagr := hm.agr hok0
  have live : ∀ id, look H0 id ≠ none → look st.H id ≠ none := fun id h => by
    obtain ⟨o, ho⟩ := Option.ne_none_iff_exists'.1 h
    rw [hsub id o ho]
    simp
  have same : ∀ id o, look H0 id = some o → look st.H id = look H0 id := fun id o ho => by rw [hsub id o ho, ho]
  -- the rest
  have rest : ∀ id o, ¬ (look H0 id ≠ none ∨ st.nx ≤ id) → look st.H id = some o → I'.esl id = I.esl id ∧ RealW P I' id o w' := fun id o hn ho => by
    simp only [not_or, ne_eq, Decidable.not_not] at hn
    have hr := hok.real id o ho
    have hk := hok.key id o ho
    refine ⟨(hagr.at_ id hk.1).2.2, RealW.agr hagr hk.1 hk.2 (hr.frame fun b hb => hm.chg.block _ (hr.lt b hb) ?_)⟩
    rintro ⟨j, h1, h2⟩
    have := hok.inj j id (live j h1) (by rw [ho]; simp) b h2 hb
    subst this
    exact h1 hn.1
  have mix : ∀ id id', (look H0 id ≠ none ∨ st.nx ≤ id) → ¬ (look H0 id' ≠ none ∨ st.nx ≤ id') → look S.H id ≠ none → look st.H id' ≠ none → ∀ b, (I'.esl id).fp b → (I'.esl id').fp b → False := fun id id' h1 h2 l1 l2 b b1 b2 => by
    obtain ⟨o', ho'⟩ := Option.ne_none_iff_exists'.1 l2
    have r := rest id' o' h2 ho'
    rw [r.1] at b2
    simp only [not_or, ne_eq, Decidable.not_not] at h2
    rcases Nat.lt_or_ge id st.nx with hlt | hge
    · have h0 : look H0 id ≠ none := h1.resolve_right (by omega)
      rw [(hm.ext id (.inl hlt)).2.2] at b1
      have := hok.inj id id' (live id h0) l2 b b1 b2
      subst this
      exact h0 h2.1
    · rcases hm.new id hge l1 b b1 with hb | ⟨k, k1, _, k3⟩
      · have := hok.fp_lt l2 b2
        omega
      · have := hok.inj k id' (live k k1) l2 b k3 b2
        subst this
        exact k1 h2.1
  refine ⟨hm.nx, hm.ext, hm.val, hm.chg.mono fun b _ ⟨id, h1, h2⟩ => ⟨id, live id h1, h2⟩, fun id hid hw => ?_, fun id hid => List.mem_append_right _ hid, fun id hid hl b hb => ?_, fun id hid h0 => ?_, ⟨hm.ok.lt, fun id o ho => ?_, fun id o ho => ?_, fun id id' h1 h2 b hb hb' => ?_, hm.ok.val⟩, fun b hb hn => hm.own b hb fun id h1 h2 h3 => hn id (List.mem_append_left _ h1) (live id h2) h3⟩
  · show look H' id = look st.H id
    rw [hH]
    split
    · rename_i h
      have h0 := h.resolve_right (by omega)
      obtain ⟨o, ho⟩ := Option.ne_none_iff_exists'.1 h0
      rw [same id o ho]
      exact hm.log id hid fun h => hw (List.mem_append_left _ h)
    · rfl
  · have hl : look H' id ≠ none := hl
    rw [hH, if_pos (.inr hid)] at hl
    rcases hm.new id hid hl b hb with h1 | ⟨k, k1, k2, k3⟩
    · exact .inl h1
    · refine .inr ⟨k, live k k1, ?_, k3⟩
      show look H' k = none
      rw [hH, if_pos (.inl k1)]
      exact k2
  · show look H' id = none
    rw [hH, if_neg, h0]
    rintro (h | h)
    · exact live id h h0
    · omega
  · have ho : look H' id = some o := ho
    rw [hH] at ho
    split at ho
    · exact hm.ok.key id o ho
    · have hk := hok.key id o ho
      exact ⟨.inl hk.1, SO.ok_mono (fun i hi => .inl hi) (SO.ok_agr hagr hk.2)⟩
  · have ho : look H' id = some o := ho
    rw [hH] at ho
    split at ho
    · exact hm.ok.real id o ho
    · rename_i hn
      exact (rest id o hn ho).2
  · have h1 : look H' id ≠ none := h1
    have h2 : look H' id' ≠ none := h2
    rw [hH] at h1 h2
    by_cases c1 : look H0 id ≠ none ∨ st.nx ≤ id <;> by_cases c2 : look H0 id' ≠ none ∨ st.nx ≤ id'
    · rw [if_pos c1] at h1
      rw [if_pos c2] at h2
      exact hm.ok.inj id id' h1 h2 b hb hb'
    · rw [if_pos c1] at h1
      rw [if_neg c2] at h2
      exact (mix id id' c1 c2 h1 h2 b hb hb').elim
    · rw [if_neg c1] at h1
      rw [if_pos c2] at h2
      exact (mix id' id c2 c1 h2 h1 b hb' hb).elim
    · rw [if_neg c1] at h1
      rw [if_neg c2] at h2
      obtain ⟨o, ho⟩ := Option.ne_none_iff_exists'.1 h1
      obtain ⟨o', ho'⟩ := Option.ne_none_iff_exists'.1 h2
      rw [(rest id o c1 ho).1] at hb
      rw [(rest id' o' c2 ho').1] at hb'
      exact hok.inj id id' h1 h2 b hb hb'
/-- blocks that nobody asks for any more -/
theorem Mv.kills (hok : Ok P A I st w) : ∀ (ks : List Nat), Mv P A I st w I ⟨killL ks st.H, st.nx, ks ++ st.wr⟩ w := fun ks => by
  have hsome : ∀ k o, look (killL ks st.H) k = some o → look st.H k = some o := fun k o h => by
    rw [look_killL] at h
    split at h
    · cases h
    · exact h
  have hlive : ∀ k, look (killL ks st.H) k ≠ none → look st.H k ≠ none := fun k h => by
    obtain ⟨o, ho⟩ := Option.ne_none_iff_exists'.1 h
    rw [hsome k o ho]
    simp
  refine ⟨Nat.le_refl _, fun _ _ => ⟨rfl, rfl, rfl⟩, rfl, Chg.refl _ w, fun k hk hw => ?_, fun k hk => List.mem_append_right _ hk, fun k hk h _ _ => absurd (hok.live_lt (hlive k h)) (by omega), fun k hk h0 => ?_, ⟨fun i hi => hi.elim (hok.lt i) fun h => h.2, fun k o ho => ?_, fun k o ho => hok.real k o (hsome k o ho), fun k k' h1 h2 => hok.inj _ _ (hlive _ h1) (hlive _ h2), hok.val⟩, fun _ _ _ => rfl⟩
  · show look (killL ks st.H) k = _
    rw [look_killL, if_neg (fun e => hw (List.mem_append_left _ e))]
  · show look (killL ks st.H) k = _
    rw [look_killL, h0]
    simp
  · have := hok.key k o (hsome k o ho)
    exact ⟨.inl this.1, SO.ok_mono (fun i hi => .inl hi) this.2⟩
end
/-- a call whose outcome at a part of a memory is known -/
def partB (H0 : List (Nat × SO)) (H : List (Nat × SO)) : Bool := H0.all fun x => match look H x.1 with
  | some o => x.2.same o
  | none => false
theorem look_fst : ∀ {H0 : List (Nat × SO)} {id : Nat}, id ∈ H0.map Prod.fst ↔ look H0 id ≠ none
  | [], id => by simp [look]
  | (i, o) :: l, id => by
    rw [List.map_cons, List.mem_cons, look_cons, look_fst (H0 := l)]
    by_cases h : i = id
    · simp [h]
    · simp [h, Ne.symm h]
/-- what is kept of a memory behind a call -/
theorem Mv.keep {P : Program} {A : Nat → Prop} {I I' : In} {st S : St} {w w' : World} (hm : Mv P A I st w I' S w') {K : List (Nat × SO)} (hK : ∀ id o, look K id = some o → look S.H id = some o) {wr : List Nat} (hwr : ∀ id, id ∈ st.wr → id ∈ wr) (hlog : ∀ id, look st.H id ≠ none → id ∈ wr) :
    Mv P A I st w I' ⟨K, S.nx, wr⟩ w' := by
  have live : ∀ id, look K id ≠ none → look S.H id ≠ none := fun id h => by
    obtain ⟨o, ho⟩ := Option.ne_none_iff_exists'.1 h
    rw [hK id o ho]
    simp
  have gone : ∀ id, look S.H id = none → look K id = none := fun id h => by
    cases hk : look K id with
    | none => rfl
    | some o => rw [hK id o hk] at h; cases h
  refine ⟨hm.nx, hm.ext, hm.val, hm.chg, fun id hid hw => ?_, hwr, fun id hid hl b hb => ?_, fun id hid h0 => gone id (hm.dead id hid h0), ⟨hm.ok.lt, fun id o ho => hm.ok.key id o (hK id o ho), fun id o ho => hm.ok.real id o (hK id o ho), fun id id' h1 h2 => hm.ok.inj id id' (live id h1) (live id' h2), hm.ok.val⟩, fun b hb hn => hm.own b hb fun id h1 h2 h3 => hn id (hlog id h2) h2 h3⟩
  · have h0 : look st.H id = none := by
      cases h : look st.H id with
      | none => rfl
      | some o => exact absurd (hlog id (by rw [h]; simp)) hw
    show look K id = look st.H id
    rw [h0]
    exact gone id (hm.dead id hid h0)
  · rcases hm.new id hid (live id hl) b hb with h1 | ⟨k, k1, k2, k3⟩
    · exact .inl h1
    · exact .inr ⟨k, k1, gone k k2, k3⟩
theorem look_mem : ∀ {H0 : List (Nat × SO)} {id : Nat} {o : SO}, look H0 id = some o → (id, o) ∈ H0
  | [], id, o, h => by cases h
  | (i, p) :: l, id, o, h => by
    rw [look_cons] at h
    split at h
    · rename_i e; subst e; cases h; exact List.mem_cons_self ..
    · exact List.mem_cons_of_mem _ (look_mem h)
theorem partB_spec {H0 H : List (Nat × SO)} (h : partB H0 H = true) : ∀ id o, look H0 id = some o → look H id = some o := fun id o ho => by
  have := List.all_eq_true.1 h _ (look_mem ho)
  simp only at this
  split at this
  · rename_i o' ho'
    rw [ho', SO.same_eq this]
  · cases this
/-- is this what comes of a call at a part of a memory? -/
def keepB (P : Program) (X : Extra) (fuel depth : Nat) (f : FuncId) (args0 : List SV) (H0 : List (Nat × SO)) (n0 : Nat) (v : SV) (K : List (Nat × SO)) (n1 : Nat) : Bool :=
  match evN P X fuel depth (.inl f) args0 ⟨H0, n0, []⟩ with
  | some (.ret u, S) => v.same u && Nat.beq S.nx n1 && partB K S.H
  | _ => false
def keepE (args0 : List SV) (H0 : List (Nat × SO)) (n0 : Nat) (v : SV) (K : List (Nat × SO)) (n1 : Nat) : List SV → St → Option (SR × St) := fun args st =>
  cond (sameL args0 args && Nat.beq st.nx n0 && partB H0 st.H) (some (.ret v, ⟨K ++ killL (H0.map Prod.fst) st.H, n1, H0.map Prod.fst ++ st.wr⟩)) none
theorem keepE_ok {P : Program} (hm : P.follows .mixedOrders = true) (hn : NameOk P) {X : Extra} (hX : ExtraOk P X) {fuel depth : Nat} {f : FuncId} {args0 : List SV} {H0 : List (Nat × SO)} {n0 : Nat} {v : SV} {K : List (Nat × SO)} {n1 : Nat}
    (h0 : keepB P X fuel depth f args0 H0 n0 v K n1 = true) : Entry P f (keepE args0 H0 n0 v K n1) := by
  intro args st r st' h A I w hok ha
  unfold keepE at h
  cases hb : (sameL args0 args && Nat.beq st.nx n0 && partB H0 st.H)
  · rw [hb] at h; cases h
  rw [hb] at h
  cases h
  simp only [Bool.and_eq_true, Nat.beq_eq] at hb
  obtain ⟨⟨h1, rfl⟩, h3⟩ := hb
  obtain rfl := sameL_eq _ _ h1
  have hsub := partB_spec h3
  unfold keepB at h0
  split at h0
  case h_2 => cases h0
  rename_i u S he
  simp only [Bool.and_eq_true, Nat.beq_eq] at h0
  obtain ⟨⟨h4, rfl⟩, h5⟩ := h0
  obtain rfl := SV.same_eq _ _ h4
  refine Calls.mono ((evN_run hm hn hX fuel depth).1 f _ _ _ _ he A I w (hok.part hsub) ha) fun e w' ⟨I', hmv, hr⟩ => ⟨I', ?_, hr⟩
  have hk := hmv.keep (partB_spec h5) (wr := H0.map Prod.fst) (fun id h => by cases h) fun id h => look_fst.2 h
  refine Mv.frame hok hsub hk fun id => ?_
  have e2 : look (killL (H0.map Prod.fst) st.H) id = if id ∈ H0.map Prod.fst then none else look st.H id := by rw [look_killL]
  rw [look_append, e2]
  by_cases c1 : look H0 id ≠ none
  · rw [if_pos (look_fst.2 c1), if_pos (Or.inl c1)]
    simp
  · rw [if_neg (fun h => c1 (look_fst.1 h))]
    simp only [ne_eq, Decidable.not_not] at c1
    by_cases c2 : st.nx ≤ id
    · rw [if_pos (Or.inr c2)]
      have : look st.H id = none := by
        cases hl : look st.H id with
        | none => rfl
        | some o => exact absurd (hok.live_lt (by rw [hl]; simp)) (by omega)
      rw [this]
      simp
    · rw [if_neg (by simp only [not_or, ne_eq, Decidable.not_not]; exact ⟨c1, c2⟩)]
      have : look K id = none := hk.dead id (by show id < st.nx; omega) c1
      rw [this]
      simp
end Go.E2
