/-
  A region that draws its order, several of whose operations write memory, one behind the other: as My's law, but what is known of an operation's value is kept only while nobody who waits for it has run; whoever is the first to wait for it may use it. No program is named here. No conditions.
-/
import Derived.Test.YtopkdiiigidfdaaGreatMx
namespace Go.Al.Mz
open Go.RowKit Go.Al
set_option linter.unusedVariables false

section
variable {P : Program} {ops : Array Oper} {n : Nat} {md : Region.Mode} {R : Nat → World → World → Prop} {Rk : Nat → World → World → Prop} {w0 : World}

/-- whoever waits for j is i, or waits for i -/
def freshB (md : Region.Mode) (ops : Array Oper) (n i j : Nat) : Bool := (List.range n).all fun m => !anc md ops ops.size m j || (m == i || anc md ops ops.size m i)
/-- nobody of the first n waits for j -/
def lastB (md : Region.Mode) (ops : Array Oper) (n j : Nat) : Bool := (List.range n).all fun m => !anc md ops ops.size m j
theorem freshB_spec {md : Region.Mode} {ops : Array Oper} {n i j : Nat} (h : freshB md ops n i j = true) {m : Nat} (hm : m < n) (ha : anc md ops ops.size m j = true) : m = i ∨ anc md ops ops.size m i = true := by
  have := List.all_eq_true.1 h m (List.mem_range.2 hm)
  rw [ha] at this
  simpa using this
theorem lastB_spec {md : Region.Mode} {ops : Array Oper} {n j : Nat} (h : lastB md ops n j = true) {m : Nat} (hm : m < n) : anc md ops ops.size m j = false := by
  have := List.all_eq_true.1 h m (List.mem_range.2 hm)
  simpa using this
/-- the walk in the order of the text -/
def wpMix (P : Program) (md : Region.Mode) (ops : Array Oper) (n : Nat) (R : Nat → World → World → Prop) (Rk : Nat → World → World → Prop) (w0 : World) (Fin : Act → World → Prop) : List Oper → Nat → (Env → Act) → (Env → Nat → World → Prop) → Prop
  | [], k, A, F => ∀ e w, R k w0 w → (∀ j, j < k → lastB md ops n j = true → F e j w) → Fin (A e) w
  | o :: rest, k, A, F => ∃ (val : Env → Value → Value) (G : Env → Value → World → Prop),
      Loc (anc md ops ops.size k) val ∧ Loc (anc md ops ops.size k) G ∧ (∀ i, i ≠ k → anc md ops ops.size k i = false → anc md ops ops.size i k = false → ∀ e u w w', Rk i w w' → G e u w → G e u w') ∧
      (∀ e w, R k w0 w → (∀ j, anc md ops ops.size k j = true → freshB md ops n k j = true → F e j w) →
        (Region.wanted o (yielded ops (A e).tmps) = true → o.wp P (A e) w (fun a' w' => ∃ u, a' = (A e).put o.dst (val e u) ∧ G e u w' ∧ Rk k w w') (fun _ _ _ => False)) ∧
        (Region.wanted o (yielded ops (A e).tmps) = false → (A e).put o.dst (val e undef) = (A e).put o.dst undef ∧ G e undef w)) ∧
      wpMix P md ops n R Rk w0 Fin rest (k + 1) (fun e => (A e).put o.dst (val e (e k))) (fun e j w => if j = k then G e (e k) w else F e j w)

/-- what the walk shows of operation i -/
structure Obl (P : Program) (md : Region.Mode) (ops : Array Oper) (n : Nat) (R : Nat → World → World → Prop) (Rk : Nat → World → World → Prop) (w0 : World) (o : Oper) (i : Nat) (val : Env → Value → Value) (G : Env → Value → World → Prop) (A : Env → Act) (F : Env → Nat → World → Prop) : Prop where
  lv : Loc (anc md ops ops.size i) val
  lg : Loc (anc md ops ops.size i) G
  st : ∀ j, j ≠ i → anc md ops ops.size i j = false → anc md ops ops.size j i = false → ∀ e u w w', Rk j w w' → G e u w → G e u w'
  go : ∀ e w, R i w0 w → (∀ j, anc md ops ops.size i j = true → freshB md ops n i j = true → F e j w) →
        (Region.wanted o (yielded ops (A e).tmps) = true → o.wp P (A e) w (fun a' w' => ∃ u, a' = (A e).put o.dst (val e u) ∧ G e u w' ∧ Rk i w w') (fun _ _ _ => False)) ∧
        (Region.wanted o (yielded ops (A e).tmps) = false → (A e).put o.dst (val e undef) = (A e).put o.dst undef ∧ G e undef w)

theorem fam_of_mix {Fin : Act → World → Prop} : ∀ (l : List Oper) (k : Nat) (A : Env → Act) (F : Env → Nat → World → Prop), (∀ j, j < l.length → l[j]? = ops[k + j]?) → wpMix P md ops n R Rk w0 Fin l k A F →
    ∃ (val : Nat → Env → Value → Value) (G : Nat → Env → Value → World → Prop), (∀ m (o : Oper), l[m]? = some o → Obl P md ops n R Rk w0 o (k + m) (val (k + m)) (G (k + m)) (actUp ops val A k m) (factUp G F k m)) ∧
      ∀ e w, R (k + l.length) w0 w → (∀ j, j < k + l.length → lastB md ops n j = true → factUp G F k l.length e j w) → Fin (actUp ops val A k l.length e) w
  | [], k, A, F, _, h => ⟨fun _ _ v => v, fun _ _ _ _ => True, fun m o hm => by simp at hm, fun e w hR hF => h e w hR hF⟩
  | o :: l, k, A, F, hl, h => by
    obtain ⟨v0, G0, h1, h2, h3, h4, h5⟩ := h
    have hd : o.dst = dstAt ops k := by
      have := hl 0 (by simp)
      simp at this
      simp [dstAt, ← this]
    rw [hd] at h5
    obtain ⟨val, G, hf, hfin⟩ := fam_of_mix l (k + 1) _ _ (fun j hj => by have := hl (j + 1) (by simp; omega); simpa [Nat.add_assoc, Nat.add_comm 1 j] using this) h5
    have ev : ∀ i, k + 1 ≤ i → val i = (fun i => if i = k then v0 else val i) i := fun i hi => by simp [show i ≠ k by omega]
    have eg : ∀ i, k + 1 ≤ i → G i = (fun i => if i = k then G0 else G i) i := fun i hi => by simp [show i ≠ k by omega]
    have ek : (fun i => if i = k then v0 else val i) k = v0 := by simp
    have gk : (fun i => if i = k then G0 else G i) k = G0 := by simp
    have ea : ∀ (m : Nat), actUp ops val (fun e => (A e).put (dstAt ops k) (v0 e (e k))) (k + 1) m = actUp ops (fun i => if i = k then v0 else val i) A k (m + 1) := fun m => by
      funext e
      rw [← actUp_shift]
      simp only [if_true]
      exact actUp_congr m e fun i h1 _ => ev i h1
    have ef : ∀ (m : Nat), factUp G (fun e j w => if j = k then G0 e (e k) w else F e j w) (k + 1) m = factUp (fun i => if i = k then G0 else G i) F k (m + 1) := fun m => by
      funext e j w
      rw [← factUp_shift]
      simp only [if_true]
      exact factUp_congr m e j w fun i h1 _ => eg i h1
    refine ⟨fun i => if i = k then v0 else val i, fun i => if i = k then G0 else G i, fun m o' hm => ?_, fun e w hR hF => ?_⟩
    · cases m with
      | zero =>
        obtain rfl : o = o' := by simpa using hm
        simp only [Nat.add_zero, if_true]
        exact ⟨h1, h2, h3, h4⟩
      | succ m =>
        have := hf m o' (by simpa using hm)
        rw [ea, ef, ev (k + 1 + m) (by omega), eg (k + 1 + m) (by omega), show k + 1 + m = k + (m + 1) by omega] at this
        exact this
    · have := hfin e w (by rw [show k + 1 + l.length = k + (l.length + 1) by omega]; exact hR) (fun j hj hlb => by rw [ef]; exact hF j (by simp only [List.length_cons]; omega) hlb)
      rw [ea] at this
      exact this

theorem run_mix {g : Nat} {a0 : Act} {val : Nat → Env → Value → Value} {G : Nat → Env → Value → World → Prop} {Q : Exit → Act → World → Prop} (hT : ∀ k a b c, R k a b → R k b c → R k a c) (hsub : ∀ k i w w', i ≠ k → (k < n → anc md ops ops.size i k = false) → Rk i w w' → R k w w') (hr : ∀ k w, Rk k w w)
    (chk : mixB md ops n = true) (hsel : ∀ (j : Nat) (o : Oper) cs b, ops[j]? = some o → o.op ≠ .select cs b) (hn : n ≤ ops.size)
    (tailW : ∀ listed, HeadInv md ops n listed → (∃ i, i < n ∧ listed.getD i true = false) → ∀ t ∈ Region.ready md ops listed, t < n)
    (fam : ∀ i o, i < n → ops[i]? = some o → Obl P md ops n R Rk w0 o i (val i) (G i) (actUp ops val (fun _ => a0) 0 i) (factUp G (fun _ _ _ => True) 0 i))
    (fin : ∀ e w, R n w0 w → (∀ j, j < n → lastB md ops n j = true → G j e (e j) w) → wpAny P md ops Q g (heads ops n) (actUp ops val (fun _ => a0) 0 n e) w) :
    ∀ (m : Nat) (listed : Array Bool) (e : Env) (w : World), cntU listed n = m → HeadInv md ops n listed → (∀ k, (k < n → listed.getD k false = false) → R k w0 w) → (∀ j, j < n → listed.getD j false = true → (∀ m, m < n → anc md ops ops.size m j = true → listed.getD m false = false) → G j e (e j) w) →
      wpAny P md ops Q (m + g) listed (actP ops a0 (fun j => val j e (e j)) (fun j => listed.getD j false) (List.range n)) w := by
  intro m
  induction m with
  | zero =>
    intro listed e w hc inv hw hG
    have hall : ∀ j, j < n → listed.getD j false = true := fun j hj => by
      have := List.countP_eq_zero.1 hc j (List.mem_range.2 hj)
      simpa using this
    have hl : listed = heads ops n := by
      apply Array.ext
      · rw [inv.size]; simp [heads]
      · intro j h1 h2
        simp only [heads, Array.getElem_ofFn]
        by_cases hjn : j < n
        · have := hall j hjn
          simp [h1] at this
          rw [this]
          simp [hjn]
        · have := inv.tail j (by omega) (by rw [← inv.size]; exact h1)
          simp [h1] at this
          rw [this]
          simp [hjn]
    rw [Nat.zero_add]
    have := fin e w (hw n fun h => absurd h (Nat.lt_irrefl _)) fun j hj hlb => hG j hj (hall j hj) fun m hm ha => by rw [lastB_spec hlb hm] at ha; cases ha
    rw [actUp_actP, ← hl] at this
    rw [actP_congr (val' := fun j => val j e (e j)) (q := fun _ => true) (List.range n) a0 fun j hj => ⟨hall j (List.mem_range.1 hj), fun _ => rfl⟩]
    exact this
  | succ m ih =>
    intro listed e w hc inv hw hG
    have hex : ∃ j, j < n ∧ listed.getD j false = false := by
      have : 0 < (List.range n).countP fun j => !listed.getD j false := by unfold cntU at hc; omega
      obtain ⟨j, hj, hp⟩ := List.countP_pos_iff.1 this
      exact ⟨j, List.mem_range.1 hj, by simpa using hp⟩
    rw [show m + 1 + g = (m + g) + 1 by omega]
    have hin : ∀ {j}, j < n → listed.getD j false = false → listed.getD j true = false := fun hj h => getD_in (by rw [inv.size]; omega) h
    refine ⟨fun h0 => ?_, fun i hi => ?_⟩
    · obtain ⟨i, h1, h2, h3⟩ := least_not n hex
      obtain ⟨oi, hoi, hd, _⟩ := mix_spec chk h1
      have : i ∈ Region.ready md ops listed := mem_ready.2 ⟨hin h1 h2, oi, hoi, fun e he hb => h3 _ (hd e he hb)⟩
      rw [h0] at this
      cases this
    · have hin' : i < n := tailW listed inv (by obtain ⟨j, hj, hu⟩ := hex; exact ⟨j, hj, hin hj hu⟩) i hi
      obtain ⟨hun, o, ho, hdeps⟩ := mem_ready.1 hi
      have hun' := getD_both hun
      obtain ⟨oi, hoi, hd, hap⟩ := mix_spec chk hin'
      obtain rfl : o = oi := Option.some.inj (ho.symm.trans hoi)
      have hob := fam i o hin' ho
      have hdst : o.dst = dstAt ops i := by simp [dstAt, ho]
      -- what i waits for is listed; whoever waits for i is not
      have hanc : ∀ j, anc md ops ops.size i j = true → listed.getD j false = true := fun j h => anc_listed inv _ i j o ho hdeps h
      have hancl : ∀ k, k < n → listed.getD k false = true → ∀ j, anc md ops ops.size k j = true → j ≠ i := fun k hk hl j h => by
        rintro rfl
        obtain ⟨ok, hok, _⟩ := mix_spec chk hk
        have := anc_listed inv _ k j ok hok (inv.closed k ok hok hl) h
        rw [hun'] at this
        cases this
      have hafter : ∀ j, i < j → j < n → listed.getD j false = true → ∃ oj, ops[j]? = some oj ∧ o.apart ops oj = true := fun j hij hj hl => by
        obtain ⟨oj, hoj, _⟩ := mix_spec chk hj
        refine ⟨oj, hoj, hap j oj hoj hij fun e he hb hon => ?_⟩
        have := inv.closed j oj hoj hl e he hb
        rw [hon, hun'] at this
        cases this
      have hagr : Agr (o.looksAt ops) (actP ops a0 (fun j => val j e (e j)) (fun j => listed.getD j false) (List.range n)) (actUp ops val (fun _ => a0) 0 i e) := by
        rw [actUp_actP, ← actP_lt (n := n) (by omega)]
        refine agr_actP _ _ _ (fun j hj hne t ht => ?_) ⟨rfl, fun _ _ => rfl⟩
        have hjn : j < n := List.mem_range.1 hj
        have hji : j ≠ i := by rintro rfl; rw [hun'] at hne; simp at hne
        by_cases hlt : j < i
        · have hul : listed.getD j false = false := by
            cases hl : listed.getD j false with
            | false => rfl
            | true => rw [hl] at hne; simp [hlt] at hne
          obtain ⟨oj, hoj, _, hapj⟩ := mix_spec chk hjn
          have := hapj i o ho hlt fun e he hb hon => by
            have := hdeps e he hb
            rw [hon, hul] at this
            cases this
          exact (Oper.apart_spec this).1 t (by simpa [dstAt, hoj] using ht)
        · have hl : listed.getD j false = true := by
            cases hl : listed.getD j false with
            | true => rfl
            | false => rw [hl] at hne; simp [hlt] at hne
          obtain ⟨oj, hoj, h⟩ := hafter j (by omega) hjn hl
          exact (Oper.apart_spec h).2.2 t (by simpa [dstAt, hoj] using ht)
      -- behind it
      have next : ∀ u w', G i e u w' → Rk i w w' → wpAny P md ops Q (m + g) (listed.setIfInBounds i true) ((actP ops a0 (fun j => val j e (e j)) (fun j => listed.getD j false) (List.range n)).put (dstAt ops i) (val i e u)) w' := fun u w' hg hww => by
        obtain ⟨e', he'⟩ : ∃ e' : Env, e' = fun j => if j = i then u else e j := ⟨_, rfl⟩
        have ei : e' i = u := by rw [he']; simp
        have ej : ∀ j, j ≠ i → e' j = e j := fun j hj => by rw [he']; simp [hj]
        have vi : val i e' = val i e := hob.lv e' e fun j h => ej j fun hji => by subst hji; have := hanc j h; rw [hun'] at this; cases this
        have gi : G i e' = G i e := hob.lg e' e fun j h => ej j fun hji => by subst hji; have := hanc j h; rw [hun'] at this; cases this
        have vj : ∀ k, k < n → listed.getD k false = true → val k e' = val k e := fun k hk hl => by
          obtain ⟨ok, hok, _⟩ := mix_spec chk hk
          exact (fam k ok hk hok).lv e' e fun j h => ej j (hancl k hk hl j h)
        have gj : ∀ k, k < n → listed.getD k false = true → G k e' = G k e := fun k hk hl => by
          obtain ⟨ok, hok, _⟩ := mix_spec chk hk
          exact (fam k ok hk hok).lg e' e fun j h => ej j (hancl k hk hl j h)
        have hki : ∀ k, listed.getD k false = true → k ≠ i := fun k hl hki => by subst hki; rw [hun'] at hl; cases hl
        have hset : ∀ k, k ≠ i → (listed.setIfInBounds i true).getD k false = listed.getD k false := fun k hk => getD_set_ne false (Ne.symm hk)
        have hseti : (listed.setIfInBounds i true).getD i false = true := by simp [inv.size, show i < ops.size by omega]
        have hact : (actP ops a0 (fun j => val j e (e j)) (fun j => listed.getD j false) (List.range n)).put (dstAt ops i) (val i e u) = actP ops a0 (fun j => val j e' (e' j)) (fun j => (listed.setIfInBounds i true).getD j false) (List.range n) := by
          have cong : ∀ (l : List Nat) (b : Act), (∀ j ∈ l, j ≠ i ∧ j < n) → actP ops b (fun j => val j e' (e' j)) (fun j => (listed.setIfInBounds i true).getD j false) l = actP ops b (fun j => val j e (e j)) (fun j => listed.getD j false) l := fun l b hl =>
            actP_congr l b fun j hj => ⟨hset j (hl j hj).1, fun h => by
              have h' : listed.getD j false = true := by exact (hset j (hl j hj).1).symm.trans h
              show val j e' (e' j) = val j e (e j)
              rw [vj j (hl j hj).2 h', ej j (hl j hj).1]⟩
          rw [range_at hin', actP_append, actP_append]
          have c1 : ∀ (b : Act) (r : List Nat), actP ops b (fun j => val j e (e j)) (fun j => listed.getD j false) (i :: r) = actP ops b (fun j => val j e (e j)) (fun j => listed.getD j false) r := fun b r => by
            unfold actP
            rw [List.foldl_cons, if_neg (show ¬ ((fun j => listed.getD j false) i = true) by show ¬ (listed.getD i false = true); rw [hun']; decide)]
          have c2 : ∀ (b : Act) (r : List Nat), actP ops b (fun j => val j e' (e' j)) (fun j => (listed.setIfInBounds i true).getD j false) (i :: r) = actP ops (b.put (dstAt ops i) (val i e u)) (fun j => val j e' (e' j)) (fun j => (listed.setIfInBounds i true).getD j false) r := fun b r => by
            unfold actP
            rw [List.foldl_cons, if_pos (show (fun j => (listed.setIfInBounds i true).getD j false) i = true from hseti)]
            show List.foldl _ (b.put (dstAt ops i) (val i e' (e' i))) r = _
            rw [vi, ei]
          rw [c1, c2, cong (List.range i) _ fun j hj => by simp at hj; omega, cong (List.range' (i + 1) (n - (i + 1))) _ fun j hj => by simp at hj; omega]
          refine (actP_put _ _ fun j hj hl t ht => ?_).symm
          have hj2 : i < j ∧ j < n := by simp at hj; omega
          obtain ⟨oj, hoj, h⟩ := hafter j hj2.1 hj2.2 hl
          have := (Oper.apart_spec h).2.1 t (by rw [hdst]; exact ht)
          simpa [dstAt, hoj] using this
        rw [hact]
        have hw' : ∀ k, (k < n → (listed.setIfInBounds i true).getD k false = false) → R k w0 w' := fun k hk => by
          have hik : i ≠ k := fun e => by subst e; have := hk hin'; rw [hseti] at this; cases this
          exact hT k _ _ _ (hw k fun h => by have := hk h; rwa [hset k (Ne.symm hik)] at this) (hsub k i _ _ hik (fun hkn => (by
            cases h : anc md ops ops.size i k with
            | false => rfl
            | true =>
              have h1 := hk hkn
              rw [hset k (Ne.symm hik), hanc k h] at h1
              cases h1)) hww)
        refine ih _ e' w' ?_ (inv.set hi hin') hw' fun j hj hl hds => ?_
        · have := cntU_set hin' (by rw [inv.size]; omega) hun'
          omega
        · by_cases hji : j = i
          · subst hji
            rw [ei, gi]
            exact hg
          · rw [hset j hji] at hl
            rw [ej j hji, gj j hj hl]
            obtain ⟨ok, hok, _⟩ := mix_spec chk hj
            have hdj : anc md ops ops.size i j = false := by
              cases h : anc md ops ops.size i j with
              | false => rfl
              | true => have := hds i hin' h; rw [hseti] at this; cases this
            exact (fam j ok hj hok).st i (Ne.symm hji) (by cases h : anc md ops ops.size j i with | false => rfl | true => exact absurd rfl (hancl j hj hl i h)) hdj e (e j) w w' hww (hG j hj hl fun m hm ha => by
              have h1 := hds m hm ha
              have hmi : m ≠ i := by rintro rfl; rw [hseti] at h1; cases h1
              rwa [hset m hmi] at h1)
      have hgo := hob.go e w (hw i fun _ => hun') fun j hj hfr => fact_of_up i fun hji => hG j (by omega) (hanc j hj) fun m hm ha => by
        rcases freshB_spec hfr hm ha with rfl | h
        · exact hun'
        · cases hl : listed.getD m false with
          | false => rfl
          | true => exact absurd rfl (hancl m hm hl i h)
      unfold wpOp
      rw [ho]
      simp only
      rw [agr_wanted hagr]
      split
      · rename_i hwt
        refine .inl (wp_agr (fun cs b => hsel i o cs b ho) hagr (hgo.1 hwt) fun u w' hg hww => ?_)
        rw [hdst]
        exact next u w' hg hww
      · rename_i hwt
        obtain ⟨h1, h2⟩ := hgo.2 (by simpa using hwt)
        rw [hdst]
        have := next undef w h2 (hr i w)
        rw [hdst] at h1
        rw [put_eq hagr.size h1] at this
        exact this

/-- **the law**: the first n operations in whatever order, each with its own fact; the others in turn behind them -/
theorem wp_region_mix {id : Nat} {Q : Exit → Act → World → Prop} {a : Act} {w : World} {l : List Oper} (R : Nat → World → World → Prop) (Rk : Nat → World → World → Prop) (n : Nat) (hsub : ∀ k i w w', i ≠ k → (k < n → anc .any l.toArray l.toArray.size i k = false) → Rk i w w' → R k w w') (hr : ∀ k w, Rk k w w) (hT : ∀ k a b c, R k a b → R k b c → R k a c) (hd : ∀ k, R k w w.drew)
    (hm : P.follows .mixedOrders = true) (hB : mixTailB .any l.toArray n = true)
    (h : wpMix P .any l.toArray n R Rk w (fun a' w' => wpList P l.toArray Q (l.drop n) a' w') (l.take n) 0 (fun _ => a) (fun _ _ _ => True)) : (Code.region id l.toArray true).wp P Q a w := by
  simp only [mixTailB, Bool.and_eq_true, Bool.or_eq_true, decide_eq_true_eq] at hB
  obtain ⟨⟨⟨⟨hsel, hn⟩, hmix⟩, htail⟩, hseq⟩ := hB
  have hn' : n ≤ l.length := by simpa using hn
  have htl : (l.take n).length = n := by simp; omega
  have hdl : (l.drop n).length = l.toArray.size - n := by simp
  obtain ⟨val, G, fam, fin⟩ := fam_of_mix (l.take n) 0 _ _ (fun j hj => by
    have hj' : j < n := by rw [htl] at hj; exact hj
    simp [hj']) h
  have inv0 : HeadInv .any l.toArray n (Array.replicate l.toArray.size false) :=
    ⟨by simp, fun j oj _ hl => (by rw [getD_replicate_false] at hl; cases hl), fun t _ ht => getD_in (by simpa using ht) (getD_replicate_false _ _)⟩
  have hcnt : cntU (Array.replicate l.toArray.size false) n = n := by
    unfold cntU
    rw [List.countP_eq_length.2 fun j _ => by rw [getD_replicate_false]; rfl]
    simp
  have H := run_mix (md := .any) (P := P) (ops := l.toArray) (R := R) (Rk := Rk) (w0 := w) (n := n) (g := l.toArray.size - n) (a0 := a) (val := val) (G := G) (Q := Q) hT hsub hr hmix (Region.noSelect_spec hsel) hn
    (fun listed inv ⟨i, hi, hu⟩ t ht => by
      rcases htail with h1 | h1
      · obtain ⟨_, ot, hot, _⟩ := mem_ready.1 ht
        have := (Array.getElem?_eq_some_iff.1 hot).1
        omega
      · rcases Nat.lt_or_ge n l.toArray.size with h2 | h2
        · exact Nat.lt_of_not_le fun h => tail_waits h1.1 h1.2 h2 inv _ i rfl hi hu t h ht
        · obtain ⟨_, ot, hot, _⟩ := mem_ready.1 ht
          have := (Array.getElem?_eq_some_iff.1 hot).1
          omega)
    (fun i o hi ho => by
      have := fam i o (by
        have h1 : l[i]? = some o := by simpa using ho
        rw [List.getElem?_take, if_pos hi, h1])
      rw [Nat.zero_add] at this
      exact this)
    (fun e w' hw hG => by
      have := fin e w' (by rw [htl, Nat.zero_add]; exact hw) fun j hj hlb => fact_of_up _ fun hj' => hG j (by rw [htl] at hj'; exact hj') hlb
      rw [htl] at this
      have h2 := wpAny_of_seq (md := .any) (Q' := Q) (l.drop n) n (heads l.toArray n) _ w' (fun j => by simp [List.getElem?_drop]) (by rw [hdl]; exact hseq) this
      rwa [hdl] at h2)
    n (Array.replicate l.toArray.size false) (fun _ => undef) w.drew hcnt inv0 (fun k _ => hd k) (fun j _ hl _ => (by rw [getD_replicate_false] at hl; cases hl))
  refine wp_region_any hm ?_
  rw [show n + (l.toArray.size - n) = l.toArray.size by omega] at H
  have ea : ∀ (val : Nat → Value) (r : List Nat) (a : Act), actP l.toArray a val (fun j => (Array.replicate l.toArray.size false).getD j false) r = a := by
    intro val r
    induction r with
    | nil => intro a; rfl
    | cons j r ih =>
      intro a
      unfold actP at ih ⊢
      rw [List.foldl_cons, if_neg (show ¬ ((fun j => (Array.replicate l.toArray.size false).getD j false) j = true) by show ¬ ((Array.replicate l.toArray.size false).getD j false = true); rw [getD_replicate_false]; decide)]
      exact ih a
  rw [ea] at H
  exact H

section
variable {Fin : Act → World → Prop} {o : Oper} {rest : List Oper} {k : Nat} {A : Env → Act} {F : Env → Nat → World → Prop}
/-- one value, whatever the world; A': the frame behind it -/
theorem mix_lit (v : Env → Value) (A' : Env → Act) (hr : ∀ w, Rk k w w)
    (hv : ∀ e w, R k w0 w → (∀ j, anc md ops ops.size k j = true → freshB md ops n k j = true → F e j w) → ∀ K : Act → World → Prop, (∀ a' w', Rk k w w' → a' = A' e → K a' w') →
      if Region.wanted o (yielded ops (A e).tmps) = true then o.wp P (A e) w K (fun _ _ _ => False) else K ((A e).put o.dst undef) w)
    (hA : ∀ e, (A e).put o.dst (v e) = A' e) (hl : Loc (anc md ops ops.size k) v)
    (h : wpMix P md ops n R Rk w0 Fin rest (k + 1) A' (fun e j w => if j = k then True else F e j w)) : wpMix P md ops n R Rk w0 Fin (o :: rest) k A F := by
  obtain rfl : A' = fun e => (A e).put o.dst (v e) := funext fun e => (hA e).symm
  refine ⟨fun e _ => v e, fun _ _ _ => True, fun e e' he => (by show (fun _ => v e) = fun _ => v e'; rw [hl e e' he]), Loc.const _ _, fun _ _ _ _ _ _ _ _ _ _ => trivial, fun e w hR hF => ⟨fun hw => ?_, fun hw => ?_⟩, h⟩
  · have := hv e w hR hF (fun a' w' => ∃ u, a' = (A e).put o.dst (v e) ∧ True ∧ Rk k w w') fun a' w' hw' ha => ⟨undef, ha, trivial, hw'⟩
    rw [if_pos hw] at this
    exact this
  · have := hv e w hR hF (fun a' w' => a' = (A e).put o.dst (v e)) fun a' w' hw' ha => ha
    rw [if_neg (by rw [hw]; decide)] at this
    exact ⟨this.symm, trivial⟩
/-- what is known of it, under a letter -/
theorem mix_let (G : Env → Value → World → Prop) (A' : Env → Act) (hg : Loc (anc md ops ops.size k) G) (st : ∀ i, i ≠ k → anc md ops ops.size k i = false → anc md ops ops.size i k = false → ∀ e u w w', Rk i w w' → G e u w → G e u w') (hw : ∀ e, Region.wanted o (yielded ops (A e).tmps) = true)
    (hv : ∀ e w, R k w0 w → (∀ j, anc md ops ops.size k j = true → freshB md ops n k j = true → F e j w) → ∀ K : Act → World → Prop, (∀ a' u w', Rk k w w' → G e u w' → a' = (A e).put o.dst u → K a' w') →
      if Region.wanted o (yielded ops (A e).tmps) = true then o.wp P (A e) w K (fun _ _ _ => False) else K ((A e).put o.dst undef) w)
    (hA : ∀ e, (A e).put o.dst (e k) = A' e)
    (h : wpMix P md ops n R Rk w0 Fin rest (k + 1) A' (fun e j w => if j = k then G e (e k) w else F e j w)) : wpMix P md ops n R Rk w0 Fin (o :: rest) k A F := by
  obtain rfl : A' = fun e => (A e).put o.dst (e k) := funext fun e => (hA e).symm
  refine ⟨fun _ u => u, G, Loc.const _ _, hg, st, fun e w hR hF => ⟨fun _ => ?_, fun hn => by rw [hw e] at hn; cases hn⟩, h⟩
  have := hv e w hR hF (fun a' w' => ∃ u, a' = (A e).put o.dst u ∧ G e u w' ∧ Rk k w w') fun a' u w' hw' hg ha => ⟨u, ha, hg, hw'⟩
  rw [if_pos (hw e)] at this
  exact this
/-- a load of several cells -/
theorem mix_ld (cs : List Value) (A' : Env → Act) (hr : ∀ w, Rk k w w) (hgd : ∀ e, Region.wanted o (yielded ops (A e).tmps) = true) (ty : TypeId) (x : Operand) (ho : o.op = .load ty x) (b ofs : Nat) (hx : ∀ e, (A e).eval x = .pointer (some ⟨b, ofs, none⟩)) (d : TypeDesc)
    (hc : ∀ w, R k w0 w → w.rangeAt b ofs cs) (hu : P.underlying ty = some d) (hd : d.isRow = true) (hi : (P.info? ty).map (·.size) = some cs.length) (hA : ∀ e, (A e).put o.dst (.agg cs.toArray) = A' e)
    (h : wpMix P md ops n R Rk w0 Fin rest (k + 1) A' (fun e j w => if j = k then True else F e j w)) : wpMix P md ops n R Rk w0 Fin (o :: rest) k A F :=
  mix_lit (fun _ => .agg cs.toArray) A' hr (fun e w hR _ K hK => by
    rw [if_pos (hgd e)]
    exact wp_load_mid ty x ho b ofs (hx e) cs d (hc w hR) hu hd hi (hK _ _ (hr w) (hA e))) hA (Loc.const _ _) h
theorem mix_nil (h : ∀ e w, R k w0 w → (∀ j, j < k → lastB md ops n j = true → F e j w) → Fin (A e) w) : wpMix P md ops n R Rk w0 Fin [] k A F := h
/-- what comes behind stands under a letter -/
theorem wp_region_mixF {id : Nat} {Q : Exit → Act → World → Prop} {a : Act} {w : World} {l : List Oper} (R : Nat → World → World → Prop) (Rk : Nat → World → World → Prop) (n : Nat) (hsub : ∀ k i w w', i ≠ k → Rk i w w' → R k w w') (hr : ∀ k w, Rk k w w) (hT : ∀ k a b c, R k a b → R k b c → R k a c) (hd : ∀ k, R k w w.drew) (hm : P.follows .mixedOrders = true) (hB : mixTailB .any l.toArray n = true)
    (h : ∀ Fin : Act → World → Prop, (∀ a' w', wpList P l.toArray Q (l.drop n) a' w' → Fin a' w') → wpMix P .any l.toArray n R Rk w Fin (l.take n) 0 (fun _ => a) (fun _ _ _ => True)) : (Code.region id l.toArray true).wp P Q a w :=
  wp_region_mix R Rk n (fun k i w w' h _ => hsub k i w w' h) hr hT hd hm hB (h _ fun _ _ h => h)
/-- each operation knows, too, that those that wait for it have not run -/
theorem wp_region_mixG {id : Nat} {Q : Exit → Act → World → Prop} {a : Act} {w : World} {l : List Oper} (R : Nat → World → World → Prop) (Rk : Nat → World → World → Prop) (n : Nat) (hsub : ∀ k i w w', i ≠ k → (k < n → anc .any l.toArray l.toArray.size i k = false) → Rk i w w' → R k w w') (hr : ∀ k w, Rk k w w) (hT : ∀ k a b c, R k a b → R k b c → R k a c) (hd : ∀ k, R k w w.drew) (hm : P.follows .mixedOrders = true) (hB : mixTailB .any l.toArray n = true)
    (h : ∀ Fin : Act → World → Prop, (∀ a' w', wpList P l.toArray Q (l.drop n) a' w' → Fin a' w') → wpMix P .any l.toArray n R Rk w Fin (l.take n) 0 (fun _ => a) (fun _ _ _ => True)) : (Code.region id l.toArray true).wp P Q a w :=
  wp_region_mix R Rk n hsub hr hT hd hm hB (h _ fun _ _ h => h)
end
end
end Go.Al.Mz
