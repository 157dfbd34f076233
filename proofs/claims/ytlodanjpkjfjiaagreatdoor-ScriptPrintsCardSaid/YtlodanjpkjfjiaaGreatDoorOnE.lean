/-
  A region that draws its order, where several operations lay new blocks of one type: as Mx's law, and the values of those that lay new blocks differ from each other. No program is named here. No conditions.
  script.Same at good acts. Condition: bytes as they lie.
-/
import Derived.Test.YtlodanjpkjfjiaaGreatDoorCdD
import Derived.Test.YtlodanjpkjfjiaaGreatDoorOnD
import Derived.Test.YtlodanjpkjfjiaaGreatDoorSaE
/-! Mn -/
namespace Go.Al.Mn
open Go.RowKit Go.Al
set_option linter.unusedVariables false

/-- the value is a pointer into a block that is there -/
def Old (w : World) (u : Value) : Prop := ∃ p : Addr, u = .pointer (some p) ∧ p.block < w.heap.size
/-- the value points into a block that was not there -/
def Born (w w' : World) (u : Value) : Prop := ¬ Old w u ∧ Old w' u
theorem Old.same {w w' : World} {u : Value} (h : Old w u) (hs : Same w w') : Old w' u := by
  obtain ⟨p, h1, h2⟩ := h
  exact ⟨p, h1, Nat.lt_of_lt_of_le h2 hs.size⟩
theorem born_new (w w' : World) (o : Nat) (h : w.heap.size < w'.heap.size) : Born w w' (.pointer (some ⟨w.heap.size, o, none⟩)) :=
  ⟨fun ⟨p, h1, h2⟩ => by cases h1; exact absurd h2 (Nat.lt_irrefl _), ⟨_, rfl, h⟩⟩

section
variable {P : Program} {ops : Array Oper} {md : Region.Mode} {B : Nat → Bool} {w0 : World}

/-- the walk in the order of the text -/
def wpMix (P : Program) (md : Region.Mode) (ops : Array Oper) (B : Nat → Bool) (w0 : World) (Fin : Act → World → Prop) : List Oper → Nat → (Env → Act) → (Env → Nat → World → Prop) → Prop
  | [], k, A, F => ∀ e w, Same w0 w → (∀ j, j < k → F e j w) → (∀ i j, B i = true → B j = true → i < k → j < k → i ≠ j → e i ≠ e j) → Fin (A e) w
  | o :: rest, k, A, F => ∃ (val : Env → Value → Value) (G : Env → Value → World → Prop),
      Loc (anc md ops ops.size k) val ∧ Loc (anc md ops ops.size k) G ∧ (∀ e u w w', Same w w' → G e u w → G e u w') ∧
      (∀ e w, Same w0 w → (∀ j, anc md ops ops.size k j = true → F e j w) →
        (Region.wanted o (yielded ops (A e).tmps) = true → o.wp P (A e) w (fun a' w' => ∃ u, a' = (A e).put o.dst (val e u) ∧ (G e u w' ∧ (B k = true → Born w w' u)) ∧ Same w w') (fun _ _ _ => False)) ∧
        (Region.wanted o (yielded ops (A e).tmps) = false → (A e).put o.dst (val e undef) = (A e).put o.dst undef ∧ G e undef w ∧ B k = false)) ∧
      wpMix P md ops B w0 Fin rest (k + 1) (fun e => (A e).put o.dst (val e (e k))) (fun e j w => if j = k then G e (e k) w else F e j w)

/-- what the walk shows of operation i -/
structure Obl (P : Program) (md : Region.Mode) (ops : Array Oper) (B : Nat → Bool) (w0 : World) (o : Oper) (i : Nat) (val : Env → Value → Value) (G : Env → Value → World → Prop) (A : Env → Act) (F : Env → Nat → World → Prop) : Prop where
  lv : Loc (anc md ops ops.size i) val
  lg : Loc (anc md ops ops.size i) G
  st : ∀ e u w w', Same w w' → G e u w → G e u w'
  go : ∀ e w, Same w0 w → (∀ j, anc md ops ops.size i j = true → F e j w) →
        (Region.wanted o (yielded ops (A e).tmps) = true → o.wp P (A e) w (fun a' w' => ∃ u, a' = (A e).put o.dst (val e u) ∧ (G e u w' ∧ (B i = true → Born w w' u)) ∧ Same w w') (fun _ _ _ => False)) ∧
        (Region.wanted o (yielded ops (A e).tmps) = false → (A e).put o.dst (val e undef) = (A e).put o.dst undef ∧ G e undef w ∧ B i = false)

theorem fam_of_mix {Fin : Act → World → Prop} : ∀ (l : List Oper) (k : Nat) (A : Env → Act) (F : Env → Nat → World → Prop), (∀ j, j < l.length → l[j]? = ops[k + j]?) → wpMix P md ops B w0 Fin l k A F →
    ∃ (val : Nat → Env → Value → Value) (G : Nat → Env → Value → World → Prop), (∀ m (o : Oper), l[m]? = some o → Obl P md ops B w0 o (k + m) (val (k + m)) (G (k + m)) (actUp ops val A k m) (factUp G F k m)) ∧
      ∀ e w, Same w0 w → (∀ j, j < k + l.length → factUp G F k l.length e j w) → (∀ i j, B i = true → B j = true → i < k + l.length → j < k + l.length → i ≠ j → e i ≠ e j) → Fin (actUp ops val A k l.length e) w
  | [], k, A, F, _, h => ⟨fun _ _ v => v, fun _ _ _ _ => True, fun m o hm => by simp at hm, fun e w hR hF hD => h e w hR hF hD⟩
  | o :: l, k, A, F, hl, h => by
    obtain ⟨v0, G0, h1, h2, h3, h4, h5⟩ := h
    have hd : o.dst = dstAt ops k := by
      have := hl 0 (by simp)
      simp at this
      simp [dstAt, ← this]
    rw [hd] at h5
    obtain ⟨val, G, hf, hfin⟩ := fam_of_mix l (k + 1) _ _ (fun j hj => by have := hl (j + 1) (by simp; omega); simpa [Nat.add_assoc, Nat.add_comm 1 j] using this) h5
    have ev : ∀ i, k + 1 ≤ i → val i = (fun i => if i = k then v0 else val i) i := fun i hi => by simp [show i ≠ k by omega]
    have eg : ∀ i, k + 1 ≤ i → G i = (fun i => if i = k then G0 else G i) i := fun i hi => by simp [show i ≠ k by omega]
    have ek : (fun i => if i = k then v0 else val i) k = v0 := by simp
    have gk : (fun i => if i = k then G0 else G i) k = G0 := by simp
    have ea : ∀ (m : Nat), actUp ops val (fun e => (A e).put (dstAt ops k) (v0 e (e k))) (k + 1) m = actUp ops (fun i => if i = k then v0 else val i) A k (m + 1) := fun m => by
      funext e
      rw [← actUp_shift]
      simp only [if_true]
      exact actUp_congr m e fun i h1 _ => ev i h1
    have ef : ∀ (m : Nat), factUp G (fun e j w => if j = k then G0 e (e k) w else F e j w) (k + 1) m = factUp (fun i => if i = k then G0 else G i) F k (m + 1) := fun m => by
      funext e j w
      rw [← factUp_shift]
      simp only [if_true]
      exact factUp_congr m e j w fun i h1 _ => eg i h1
    refine ⟨fun i => if i = k then v0 else val i, fun i => if i = k then G0 else G i, fun m o' hm => ?_, fun e w hR hF hD => ?_⟩
    · cases m with
      | zero =>
        obtain rfl : o = o' := by simpa using hm
        simp only [Nat.add_zero, if_true]
        exact ⟨h1, h2, h3, h4⟩
      | succ m =>
        have := hf m o' (by simpa using hm)
        rw [ea, ef, ev (k + 1 + m) (by omega), eg (k + 1 + m) (by omega), show k + 1 + m = k + (m + 1) by omega] at this
        exact this
    · have := hfin e w hR (fun j hj => by rw [ef]; exact hF j (by simp only [List.length_cons]; omega)) fun i j hi hj h1 h2 => hD i j hi hj (by simp only [List.length_cons]; omega) (by simp only [List.length_cons]; omega)
      rw [ea] at this
      exact this

theorem run_mix {n g : Nat} {a0 : Act} {val : Nat → Env → Value → Value} {G : Nat → Env → Value → World → Prop} {Q : Exit → Act → World → Prop}
    (chk : mixB md ops n = true) (hsel : ∀ (j : Nat) (o : Oper) cs b, ops[j]? = some o → o.op ≠ .select cs b) (hn : n ≤ ops.size)
    (tailW : ∀ listed, HeadInv md ops n listed → (∃ i, i < n ∧ listed.getD i true = false) → ∀ t ∈ Region.ready md ops listed, t < n)
    (fam : ∀ i o, i < n → ops[i]? = some o → Obl P md ops B w0 o i (val i) (G i) (actUp ops val (fun _ => a0) 0 i) (factUp G (fun _ _ _ => True) 0 i))
    (fin : ∀ e w, Same w0 w → (∀ j, j < n → G j e (e j) w) → (∀ i j, B i = true → B j = true → i < n → j < n → i ≠ j → e i ≠ e j) → wpAny P md ops Q g (heads ops n) (actUp ops val (fun _ => a0) 0 n e) w) :
    ∀ (m : Nat) (listed : Array Bool) (e : Env) (w : World), cntU listed n = m → HeadInv md ops n listed → Same w0 w → (∀ j, j < n → listed.getD j false = true → G j e (e j) w) → (∀ j, j < n → listed.getD j false = true → B j = true → Old w (e j)) → (∀ i j, B i = true → B j = true → i < n → j < n → listed.getD i false = true → listed.getD j false = true → i ≠ j → e i ≠ e j) →
      wpAny P md ops Q (m + g) listed (actP ops a0 (fun j => val j e (e j)) (fun j => listed.getD j false) (List.range n)) w := by
  intro m
  induction m with
  | zero =>
    intro listed e w hc inv hw hG hO hD
    have hall : ∀ j, j < n → listed.getD j false = true := fun j hj => by
      have := List.countP_eq_zero.1 hc j (List.mem_range.2 hj)
      simpa using this
    have hl : listed = heads ops n := by
      apply Array.ext
      · rw [inv.size]; simp [heads]
      · intro j h1 h2
        simp only [heads, Array.getElem_ofFn]
        by_cases hjn : j < n
        · have := hall j hjn
          simp [h1] at this
          rw [this]
          simp [hjn]
        · have := inv.tail j (by omega) (by rw [← inv.size]; exact h1)
          simp [h1] at this
          rw [this]
          simp [hjn]
    rw [Nat.zero_add]
    have := fin e w hw (fun j hj => hG j hj (hall j hj)) fun i j hi hj h1 h2 => hD i j hi hj h1 h2 (hall i h1) (hall j h2)
    rw [actUp_actP, ← hl] at this
    rw [actP_congr (val' := fun j => val j e (e j)) (q := fun _ => true) (List.range n) a0 fun j hj => ⟨hall j (List.mem_range.1 hj), fun _ => rfl⟩]
    exact this
  | succ m ih =>
    intro listed e w hc inv hw hG hO hD
    have hex : ∃ j, j < n ∧ listed.getD j false = false := by
      have : 0 < (List.range n).countP fun j => !listed.getD j false := by unfold cntU at hc; omega
      obtain ⟨j, hj, hp⟩ := List.countP_pos_iff.1 this
      exact ⟨j, List.mem_range.1 hj, by simpa using hp⟩
    rw [show m + 1 + g = (m + g) + 1 by omega]
    have hin : ∀ {j}, j < n → listed.getD j false = false → listed.getD j true = false := fun hj h => getD_in (by rw [inv.size]; omega) h
    refine ⟨fun h0 => ?_, fun i hi => ?_⟩
    · obtain ⟨i, h1, h2, h3⟩ := least_not n hex
      obtain ⟨oi, hoi, hd, _⟩ := mix_spec chk h1
      have : i ∈ Region.ready md ops listed := mem_ready.2 ⟨hin h1 h2, oi, hoi, fun e he hb => h3 _ (hd e he hb)⟩
      rw [h0] at this
      cases this
    · have hin' : i < n := tailW listed inv (by obtain ⟨j, hj, hu⟩ := hex; exact ⟨j, hj, hin hj hu⟩) i hi
      obtain ⟨hun, o, ho, hdeps⟩ := mem_ready.1 hi
      have hun' := getD_both hun
      obtain ⟨oi, hoi, hd, hap⟩ := mix_spec chk hin'
      obtain rfl : o = oi := Option.some.inj (ho.symm.trans hoi)
      have hob := fam i o hin' ho
      have hdst : o.dst = dstAt ops i := by simp [dstAt, ho]
      -- what i waits for is listed; whoever waits for i is not
      have hanc : ∀ j, anc md ops ops.size i j = true → listed.getD j false = true := fun j h => anc_listed inv _ i j o ho hdeps h
      have hancl : ∀ k, k < n → listed.getD k false = true → ∀ j, anc md ops ops.size k j = true → j ≠ i := fun k hk hl j h => by
        rintro rfl
        obtain ⟨ok, hok, _⟩ := mix_spec chk hk
        have := anc_listed inv _ k j ok hok (inv.closed k ok hok hl) h
        rw [hun'] at this
        cases this
      have hafter : ∀ j, i < j → j < n → listed.getD j false = true → ∃ oj, ops[j]? = some oj ∧ o.apart ops oj = true := fun j hij hj hl => by
        obtain ⟨oj, hoj, _⟩ := mix_spec chk hj
        refine ⟨oj, hoj, hap j oj hoj hij fun e he hb hon => ?_⟩
        have := inv.closed j oj hoj hl e he hb
        rw [hon, hun'] at this
        cases this
      have hagr : Agr (o.looksAt ops) (actP ops a0 (fun j => val j e (e j)) (fun j => listed.getD j false) (List.range n)) (actUp ops val (fun _ => a0) 0 i e) := by
        rw [actUp_actP, ← actP_lt (n := n) (by omega)]
        refine agr_actP _ _ _ (fun j hj hne t ht => ?_) ⟨rfl, fun _ _ => rfl⟩
        have hjn : j < n := List.mem_range.1 hj
        have hji : j ≠ i := by rintro rfl; rw [hun'] at hne; simp at hne
        by_cases hlt : j < i
        · have hul : listed.getD j false = false := by
            cases hl : listed.getD j false with
            | false => rfl
            | true => rw [hl] at hne; simp [hlt] at hne
          obtain ⟨oj, hoj, _, hapj⟩ := mix_spec chk hjn
          have := hapj i o ho hlt fun e he hb hon => by
            have := hdeps e he hb
            rw [hon, hul] at this
            cases this
          exact (Oper.apart_spec this).1 t (by simpa [dstAt, hoj] using ht)
        · have hl : listed.getD j false = true := by
            cases hl : listed.getD j false with
            | true => rfl
            | false => rw [hl] at hne; simp [hlt] at hne
          obtain ⟨oj, hoj, h⟩ := hafter j (by omega) hjn hl
          exact (Oper.apart_spec h).2.2 t (by simpa [dstAt, hoj] using ht)
      -- behind it
      have next : ∀ u w', (G i e u w' ∧ (B i = true → Born w w' u)) → Same w w' → wpAny P md ops Q (m + g) (listed.setIfInBounds i true) ((actP ops a0 (fun j => val j e (e j)) (fun j => listed.getD j false) (List.range n)).put (dstAt ops i) (val i e u)) w' := fun u w' ⟨hg, hbn⟩ hww => by
        obtain ⟨e', he'⟩ : ∃ e' : Env, e' = fun j => if j = i then u else e j := ⟨_, rfl⟩
        have ei : e' i = u := by rw [he']; simp
        have ej : ∀ j, j ≠ i → e' j = e j := fun j hj => by rw [he']; simp [hj]
        have vi : val i e' = val i e := hob.lv e' e fun j h => ej j fun hji => by subst hji; have := hanc j h; rw [hun'] at this; cases this
        have gi : G i e' = G i e := hob.lg e' e fun j h => ej j fun hji => by subst hji; have := hanc j h; rw [hun'] at this; cases this
        have vj : ∀ k, k < n → listed.getD k false = true → val k e' = val k e := fun k hk hl => by
          obtain ⟨ok, hok, _⟩ := mix_spec chk hk
          exact (fam k ok hk hok).lv e' e fun j h => ej j (hancl k hk hl j h)
        have gj : ∀ k, k < n → listed.getD k false = true → G k e' = G k e := fun k hk hl => by
          obtain ⟨ok, hok, _⟩ := mix_spec chk hk
          exact (fam k ok hk hok).lg e' e fun j h => ej j (hancl k hk hl j h)
        have hki : ∀ k, listed.getD k false = true → k ≠ i := fun k hl hki => by subst hki; rw [hun'] at hl; cases hl
        have hset : ∀ k, k ≠ i → (listed.setIfInBounds i true).getD k false = listed.getD k false := fun k hk => getD_set_ne false (Ne.symm hk)
        have hseti : (listed.setIfInBounds i true).getD i false = true := by simp [inv.size, show i < ops.size by omega]
        have hact : (actP ops a0 (fun j => val j e (e j)) (fun j => listed.getD j false) (List.range n)).put (dstAt ops i) (val i e u) = actP ops a0 (fun j => val j e' (e' j)) (fun j => (listed.setIfInBounds i true).getD j false) (List.range n) := by
          have cong : ∀ (l : List Nat) (b : Act), (∀ j ∈ l, j ≠ i ∧ j < n) → actP ops b (fun j => val j e' (e' j)) (fun j => (listed.setIfInBounds i true).getD j false) l = actP ops b (fun j => val j e (e j)) (fun j => listed.getD j false) l := fun l b hl =>
            actP_congr l b fun j hj => ⟨hset j (hl j hj).1, fun h => by
              have h' : listed.getD j false = true := by exact (hset j (hl j hj).1).symm.trans h
              show val j e' (e' j) = val j e (e j)
              rw [vj j (hl j hj).2 h', ej j (hl j hj).1]⟩
          rw [range_at hin', actP_append, actP_append]
          have c1 : ∀ (b : Act) (r : List Nat), actP ops b (fun j => val j e (e j)) (fun j => listed.getD j false) (i :: r) = actP ops b (fun j => val j e (e j)) (fun j => listed.getD j false) r := fun b r => by
            unfold actP
            rw [List.foldl_cons, if_neg (show ¬ ((fun j => listed.getD j false) i = true) by show ¬ (listed.getD i false = true); rw [hun']; decide)]
          have c2 : ∀ (b : Act) (r : List Nat), actP ops b (fun j => val j e' (e' j)) (fun j => (listed.setIfInBounds i true).getD j false) (i :: r) = actP ops (b.put (dstAt ops i) (val i e u)) (fun j => val j e' (e' j)) (fun j => (listed.setIfInBounds i true).getD j false) r := fun b r => by
            unfold actP
            rw [List.foldl_cons, if_pos (show (fun j => (listed.setIfInBounds i true).getD j false) i = true from hseti)]
            show List.foldl _ (b.put (dstAt ops i) (val i e' (e' i))) r = _
            rw [vi, ei]
          rw [c1, c2, cong (List.range i) _ fun j hj => by simp at hj; omega, cong (List.range' (i + 1) (n - (i + 1))) _ fun j hj => by simp at hj; omega]
          refine (actP_put _ _ fun j hj hl t ht => ?_).symm
          have hj2 : i < j ∧ j < n := by simp at hj; omega
          obtain ⟨oj, hoj, h⟩ := hafter j hj2.1 hj2.2 hl
          have := (Oper.apart_spec h).2.1 t (by rw [hdst]; exact ht)
          simpa [dstAt, hoj] using this
        rw [hact]
        refine ih _ e' w' ?_ (inv.set hi hin') (Same.trans hw hww) (fun j hj hl => ?_) (fun j hj hl hb => ?_) fun j1 j2 hb1 hb2 hj1 hj2 hl1 hl2 hne => ?_
        · have := cntU_set hin' (by rw [inv.size]; omega) hun'
          omega
        · by_cases hji : j = i
          · subst hji
            rw [ei, gi]
            exact hg
          · rw [hset j hji] at hl
            rw [ej j hji, gj j hj hl]
            obtain ⟨ok, hok, _⟩ := mix_spec chk hj
            exact (fam j ok hj hok).st e (e j) w w' hww (hG j hj hl)
        · by_cases hji : j = i
          · subst hji
            rw [ei]
            exact (hbn hb).2
          · rw [hset j hji] at hl
            rw [ej j hji]
            exact (hO j hj hl hb).same hww
        · by_cases h1 : j1 = i
          · subst h1
            have h2 : j2 ≠ j1 := Ne.symm hne
            rw [hset j2 h2] at hl2
            rw [ei, ej j2 h2]
            intro e9
            exact (hbn hb1).1 (e9 ▸ hO j2 hj2 hl2 hb2)
          · rw [hset j1 h1] at hl1
            by_cases h2 : j2 = i
            · subst h2
              rw [ei, ej j1 h1]
              intro e9
              exact (hbn hb2).1 (e9 ▸ hO j1 hj1 hl1 hb1)
            · rw [hset j2 h2] at hl2
              rw [ej j1 h1, ej j2 h2]
              exact hD j1 j2 hb1 hb2 hj1 hj2 hl1 hl2 hne
      have hgo := hob.go e w hw fun j hj => fact_of_up i fun hji => hG j (by omega) (hanc j hj)
      unfold wpOp
      rw [ho]
      simp only
      rw [agr_wanted hagr]
      split
      · rename_i hwt
        refine .inl (wp_agr (R := Same) (G := fun u w' => G i e u w' ∧ (B i = true → Born w w' u)) (fun cs b => hsel i o cs b ho) hagr (hgo.1 hwt) fun u w' hg hww => ?_)
        rw [hdst]
        exact next u w' hg hww
      · rename_i hwt
        obtain ⟨h1, h2, h3⟩ := hgo.2 (by simpa using hwt)
        rw [hdst]
        have := next undef w ⟨h2, fun hb => (by rw [h3] at hb; cases hb)⟩ (Chg.refl _ w)
        rw [hdst] at h1
        rw [put_eq hagr.size h1] at this
        exact this

/-- **the law**: the first n operations in whatever order, each with its own fact; the others in turn behind them -/
theorem wp_region_mix {id : Nat} {Q : Exit → Act → World → Prop} {a : Act} {w : World} {l : List Oper} (B : Nat → Bool) (n : Nat)
    (hm : P.follows .mixedOrders = true) (hB : mixTailB .any l.toArray n = true)
    (h : wpMix P .any l.toArray B w (fun a' w' => wpList P l.toArray Q (l.drop n) a' w') (l.take n) 0 (fun _ => a) (fun _ _ _ => True)) : (Code.region id l.toArray true).wp P Q a w := by
  simp only [mixTailB, Bool.and_eq_true, Bool.or_eq_true, decide_eq_true_eq] at hB
  obtain ⟨⟨⟨⟨hsel, hn⟩, hmix⟩, htail⟩, hseq⟩ := hB
  have hn' : n ≤ l.length := by simpa using hn
  have htl : (l.take n).length = n := by simp; omega
  have hdl : (l.drop n).length = l.toArray.size - n := by simp
  obtain ⟨val, G, fam, fin⟩ := fam_of_mix (l.take n) 0 _ _ (fun j hj => by
    have hj' : j < n := by rw [htl] at hj; exact hj
    simp [hj']) h
  have inv0 : HeadInv .any l.toArray n (Array.replicate l.toArray.size false) :=
    ⟨by simp, fun j oj _ hl => (by rw [getD_replicate_false] at hl; cases hl), fun t _ ht => getD_in (by simpa using ht) (getD_replicate_false _ _)⟩
  have hcnt : cntU (Array.replicate l.toArray.size false) n = n := by
    unfold cntU
    rw [List.countP_eq_length.2 fun j _ => by rw [getD_replicate_false]; rfl]
    simp
  have H := run_mix (md := .any) (P := P) (ops := l.toArray) (B := B) (w0 := w) (n := n) (g := l.toArray.size - n) (a0 := a) (val := val) (G := G) (Q := Q) hmix (Region.noSelect_spec hsel) hn
    (fun listed inv ⟨i, hi, hu⟩ t ht => by
      rcases htail with h1 | h1
      · obtain ⟨_, ot, hot, _⟩ := mem_ready.1 ht
        have := (Array.getElem?_eq_some_iff.1 hot).1
        omega
      · rcases Nat.lt_or_ge n l.toArray.size with h2 | h2
        · exact Nat.lt_of_not_le fun h => tail_waits h1.1 h1.2 h2 inv _ i rfl hi hu t h ht
        · obtain ⟨_, ot, hot, _⟩ := mem_ready.1 ht
          have := (Array.getElem?_eq_some_iff.1 hot).1
          omega)
    (fun i o hi ho => by
      have := fam i o (by
        have h1 : l[i]? = some o := by simpa using ho
        rw [List.getElem?_take, if_pos hi, h1])
      rw [Nat.zero_add] at this
      exact this)
    (fun e w' hw hG hD => by
      have := fin e w' hw (fun j hj => fact_of_up _ fun hj' => hG j (by rw [htl] at hj'; exact hj')) fun i j hi hj h1 h2 => hD i j hi hj (by rw [Nat.zero_add, htl] at h1; exact h1) (by rw [Nat.zero_add, htl] at h2; exact h2)
      rw [htl] at this
      have h2 := wpAny_of_seq (md := .any) (Q' := Q) (l.drop n) n (heads l.toArray n) _ w' (fun j => by simp [List.getElem?_drop]) (by rw [hdl]; exact hseq) this
      rwa [hdl] at h2)
    n (Array.replicate l.toArray.size false) (fun _ => undef) w.drew hcnt inv0 ((Chg.refl _ w).drew) (fun j _ hl => (by rw [getD_replicate_false] at hl; cases hl)) (fun j _ hl => (by rw [getD_replicate_false] at hl; cases hl)) (fun i j _ _ _ _ hl => (by rw [getD_replicate_false] at hl; cases hl))
  refine wp_region_any hm ?_
  rw [show n + (l.toArray.size - n) = l.toArray.size by omega] at H
  have ea : ∀ (val : Nat → Value) (r : List Nat) (a : Act), actP l.toArray a val (fun j => (Array.replicate l.toArray.size false).getD j false) r = a := by
    intro val r
    induction r with
    | nil => intro a; rfl
    | cons j r ih =>
      intro a
      unfold actP at ih ⊢
      rw [List.foldl_cons, if_neg (show ¬ ((fun j => (Array.replicate l.toArray.size false).getD j false) j = true) by show ¬ ((Array.replicate l.toArray.size false).getD j false = true); rw [getD_replicate_false]; decide)]
      exact ih a
  rw [ea] at H
  exact H

section
variable {Fin : Act → World → Prop} {o : Oper} {rest : List Oper} {k : Nat} {A : Env → Act} {F : Env → Nat → World → Prop}
/-- one value, whatever the world; A': the frame behind it -/
theorem mix_lit (hB : B k = false) (v : Env → Value) (A' : Env → Act)
    (hv : ∀ e w, Same w0 w → (∀ j, anc md ops ops.size k j = true → F e j w) → ∀ K : Act → World → Prop, (∀ a' w', Same w w' → a' = A' e → K a' w') →
      if Region.wanted o (yielded ops (A e).tmps) = true then o.wp P (A e) w K (fun _ _ _ => False) else K ((A e).put o.dst undef) w)
    (hA : ∀ e, (A e).put o.dst (v e) = A' e) (hl : Loc (anc md ops ops.size k) v)
    (h : wpMix P md ops B w0 Fin rest (k + 1) A' (fun e j w => if j = k then True else F e j w)) : wpMix P md ops B w0 Fin (o :: rest) k A F := by
  obtain rfl : A' = fun e => (A e).put o.dst (v e) := funext fun e => (hA e).symm
  refine ⟨fun e _ => v e, fun _ _ _ => True, fun e e' he => (by show (fun _ => v e) = fun _ => v e'; rw [hl e e' he]), Loc.const _ _, fun _ _ _ _ _ _ => trivial, fun e w hR hF => ⟨fun hw => ?_, fun hw => ?_⟩, h⟩
  · have := hv e w hR hF (fun a' w' => ∃ u, a' = (A e).put o.dst (v e) ∧ (True ∧ (B k = true → Born w w' u)) ∧ Same w w') fun a' w' hw' ha => ⟨undef, ha, ⟨trivial, fun hb => (by rw [hB] at hb; cases hb)⟩, hw'⟩
    rw [if_pos hw] at this
    exact this
  · have := hv e w hR hF (fun a' w' => a' = (A e).put o.dst (v e)) fun a' w' hw' ha => ha
    rw [if_neg (by rw [hw]; decide)] at this
    exact ⟨this.symm, trivial, hB⟩
/-- what is known of it, under a letter -/
theorem mix_let (hB : B k = false) (G : Env → Value → World → Prop) (A' : Env → Act) (hg : Loc (anc md ops ops.size k) G) (st : ∀ e u w w', Same w w' → G e u w → G e u w') (hw : ∀ e, Region.wanted o (yielded ops (A e).tmps) = true)
    (hv : ∀ e w, Same w0 w → (∀ j, anc md ops ops.size k j = true → F e j w) → ∀ K : Act → World → Prop, (∀ a' u w', Same w w' → G e u w' → a' = (A e).put o.dst u → K a' w') →
      if Region.wanted o (yielded ops (A e).tmps) = true then o.wp P (A e) w K (fun _ _ _ => False) else K ((A e).put o.dst undef) w)
    (hA : ∀ e, (A e).put o.dst (e k) = A' e)
    (h : wpMix P md ops B w0 Fin rest (k + 1) A' (fun e j w => if j = k then G e (e k) w else F e j w)) : wpMix P md ops B w0 Fin (o :: rest) k A F := by
  obtain rfl : A' = fun e => (A e).put o.dst (e k) := funext fun e => (hA e).symm
  refine ⟨fun _ u => u, G, Loc.const _ _, hg, st, fun e w hR hF => ⟨fun _ => ?_, fun hn => by rw [hw e] at hn; cases hn⟩, h⟩
  have := hv e w hR hF (fun a' w' => ∃ u, a' = (A e).put o.dst u ∧ (G e u w' ∧ (B k = true → Born w w' u)) ∧ Same w w') fun a' u w' hw' hg ha => ⟨u, ha, ⟨hg, fun hb => (by rw [hB] at hb; cases hb)⟩, hw'⟩
  rw [if_pos (hw e)] at this
  exact this
/-- a new block, under a letter: it differs from the others' -/
theorem mix_new (G : Env → Value → World → Prop) (A' : Env → Act) (hg : Loc (anc md ops ops.size k) G) (st : ∀ e u w w', Same w w' → G e u w → G e u w') (hw : ∀ e, Region.wanted o (yielded ops (A e).tmps) = true)
    (hv : ∀ e w, Same w0 w → (∀ j, anc md ops ops.size k j = true → F e j w) → ∀ K : Act → World → Prop, (∀ a' u w', Same w w' → G e u w' → Born w w' u → a' = (A e).put o.dst u → K a' w') →
      if Region.wanted o (yielded ops (A e).tmps) = true then o.wp P (A e) w K (fun _ _ _ => False) else K ((A e).put o.dst undef) w)
    (hA : ∀ e, (A e).put o.dst (e k) = A' e)
    (h : wpMix P md ops B w0 Fin rest (k + 1) A' (fun e j w => if j = k then G e (e k) w else F e j w)) : wpMix P md ops B w0 Fin (o :: rest) k A F := by
  obtain rfl : A' = fun e => (A e).put o.dst (e k) := funext fun e => (hA e).symm
  refine ⟨fun _ u => u, G, Loc.const _ _, hg, st, fun e w hR hF => ⟨fun _ => ?_, fun hn => by rw [hw e] at hn; cases hn⟩, h⟩
  have := hv e w hR hF (fun a' w' => ∃ u, a' = (A e).put o.dst u ∧ (G e u w' ∧ (B k = true → Born w w' u)) ∧ Same w w') fun a' u w' hw' hg hb ha => ⟨u, ha, ⟨hg, fun _ => hb⟩, hw'⟩
  rw [if_pos (hw e)] at this
  exact this
/-- a load of several cells -/
theorem mix_ld (hB : B k = false) (cs : List Value) (A' : Env → Act) (hgd : ∀ e, Region.wanted o (yielded ops (A e).tmps) = true) (ty : TypeId) (x : Operand) (ho : o.op = .load ty x) (b ofs : Nat) (hx : ∀ e, (A e).eval x = .pointer (some ⟨b, ofs, none⟩)) (d : TypeDesc)
    (hc : ∀ w, Same w0 w → w.rangeAt b ofs cs) (hu : P.underlying ty = some d) (hd : d.isRow = true) (hi : (P.info? ty).map (·.size) = some cs.length) (hA : ∀ e, (A e).put o.dst (.agg cs.toArray) = A' e)
    (h : wpMix P md ops B w0 Fin rest (k + 1) A' (fun e j w => if j = k then True else F e j w)) : wpMix P md ops B w0 Fin (o :: rest) k A F :=
  mix_lit hB (fun _ => .agg cs.toArray) A' (fun e w hR _ K hK => by
    rw [if_pos (hgd e)]
    exact wp_load_mid ty x ho b ofs (hx e) cs d (hc w hR) hu hd hi (hK _ _ (Chg.refl _ w) (hA e))) hA (Loc.const _ _) h
theorem mix_nil (h : ∀ e w, Same w0 w → (∀ j, j < k → F e j w) → (∀ i j, B i = true → B j = true → i < k → j < k → i ≠ j → e i ≠ e j) → Fin (A e) w) : wpMix P md ops B w0 Fin [] k A F := h
/-- what comes behind: under a letter -/
theorem wp_region_mixN {id : Nat} {Q : Exit → Act → World → Prop} {a : Act} {w : World} {l : List Oper} (B : Nat → Bool) (n : Nat) (hm : P.follows .mixedOrders = true) (hB : mixTailB .any l.toArray n = true)
    (h : ∀ Fin : Act → World → Prop, (∀ a' w', wpList P l.toArray Q (l.drop n) a' w' → Fin a' w') → wpMix P .any l.toArray B w Fin (l.take n) 0 (fun _ => a) (fun _ _ _ => True)) : (Code.region id l.toArray true).wp P Q a w :=
  wp_region_mix B n hm hB (h _ fun _ _ h => h)
end
end
end Go.Al.Mn
/-! OnE -/
namespace Go.Proofs.YtlodanjpkjfjiaaGreatDoor
open Go.RowKit Go.Al
set_option linter.unusedVariables false

/-- an act's cells, under a letter -/
structure ActC (L : List Value) (a : Ac) (A : Option Addr) (c : Nat) : Prop where
  eq : L = acL a A c
theorem ActC.c0 {L : List Value} {a : Ac} {A : Option Addr} {c : Nat} (h : ActC L a A c) : L[0]? = some (.int .i64 a.k) := by rw [h.eq]; rfl
theorem ActC.c1 {L : List Value} {a : Ac} {A : Option Addr} {c : Nat} (h : ActC L a A c) : L[1]? = some (.int .i64 a.id) := by rw [h.eq]; rfl
theorem ActC.c2 {L : List Value} {a : Ac} {A : Option Addr} {c : Nat} (h : ActC L a A c) : L[2]? = some (.int .i64 a.n) := by rw [h.eq]; rfl
theorem ActC.c21 {L : List Value} {a : Ac} {A : Option Addr} {c : Nat} (h : ActC L a A c) : L[21]? = some (.slice A a.b.length c) := by rw [h.eq]; rfl
theorem ActC.len {L : List Value} {a : Ac} {A : Option Addr} {c : Nat} (h : ActC L a A c) : L.length = 22 := by rw [h.eq]; rfl
theorem ActC.one {L : List Value} {a : Ac} {A : Option Addr} {c : Nat} (h : ActC L a A c) : ∀ u ∈ L, u.oneCell' = true := by rw [h.eq]; exact one_acL a A c
theorem ActC.rng {L : List Value} {a : Ac} {A : Option Addr} {c : Nat} (h : ActC L a A c) {w : World} {g : Nat} {t : TypeId} (hb : Blk w g t L.toArray) : w.rangeAt g 3 (rqL a.r) := by rw [h.eq] at hb; exact acW_range hb
/-- bytes lie apart from a block that holds none -/
theorem rdb_apart {w : World} {A : Option Addr} {l : List UInt8} {g : Nat} {t : TypeId} {cs : List Value} (h : Rd w A (bs l)) (hb : Blk w g t cs.toArray) (hn : ∀ u ∈ cs, ∀ x, u ≠ .int .u8 x) : l ≠ [] → blkOf A ≠ some g := fun hl hA => by
  obtain ⟨x, r, rfl⟩ := List.exists_cons_of_ne_nil hl
  obtain ⟨b, off, rfl, hc⟩ := h (by simp [bs])
  have hg : b = g := Option.some.inj hA
  subst hg
  have h0 := hc 0 (.int .u8 x.toNat) (by simp [bs])
  rw [hb.cell, List.getElem?_toArray] at h0
  exact hn _ (List.mem_of_getElem? h0) _ rfl
theorem rdb_chg {w w' : World} {A : Option Addr} {l : List UInt8} {g : Nat} (h : Rd w A (bs l)) (hn : l ≠ [] → blkOf A ≠ some g) (hc : Chg (· = g) w w') : Rd w' A (bs l) := by
  by_cases hl : l = []
  · subst hl; exact Rd.nil _ _
  · exact h.chg hc fun b hb _ e => hn hl (by rw [hb]; exact congrArg some e)
theorem z22_none : ∀ u ∈ [Value.int .i64 0, .int .i64 0, .int .i64 0, .int .i64 0, .int .i64 0, .int .i64 0, .int .i64 0, .int .i64 0, .int .i64 0, .int .i64 0, .int .i64 0, .int .i64 0, .int .i64 0, .int .i64 0, .int .i64 0, .int .i64 0, .int .i64 0, .int .i64 0, .int .i64 0, .int .i64 0, .int .i64 0, .slice none 0 0], ∀ x, u ≠ .int .u8 x := fun u hu x => by
  simp only [List.mem_cons, List.not_mem_nil, or_false] at hu
  rcases hu with rfl | rfl | rfl | rfl | rfl | rfl | rfl | rfl | rfl | rfl | rfl | rfl | rfl | rfl | rfl | rfl | rfl | rfl | rfl | rfl | rfl | rfl <;> (intro h; cases h)
set_option maxRecDepth 100000 in
set_option maxHeartbeats 16000000 in
theorem ssame_any (a b : Ac) {xa xb : Addr} {ca cb : Nat} (w : World) (ha : ActAt w a (some xa) ca) (hb : ActAt w b (some xb) cb) (hga : goodA a = true) (hgb : goodA b = true) (hla : a.b.length ≤ 1010) (hlb : b.b.length ≤ 1010) :
    Calls Tryz.prog 22 #[acV a (some xa) ca, acV b (some xb) cb] w fun e w' => e = .returned (.bool (eqA (onlyA a) (onlyA b))) ∧ Same w w'  := by
  have hb1 := (Blk.new w 38 (acL a (some xa) ca).toArray).alloc (.cells (acL b (some xb) cb).toArray 38)
  have hb2 := Blk.new (w.alloc (.cells (acL a (some xa) ca).toArray 38)) 38 (acL b (some xb) cb).toArray
  rw [World.size_alloc] at hb2
  have hs : Same w ((w.alloc (.cells (acL a (some xa) ca).toArray 38)).alloc (.cells (acL b (some xb) cb).toArray 38)) := ((Chg.refl _ w).alloc _).alloc _
  have HOa := hide (fun (w' : World) (hs' : Same ((w.alloc (.cells (acL a (some xa) ca).toArray 38)).alloc (.cells (acL b (some xb) cb).toArray 38)) w') => sonly_any (c := ca) a w' ⟨ha.1.same (Same.trans hs hs'), ha.2⟩ hga hla)
  have HOb := hide (fun (w' : World) (hs' : Same ((w.alloc (.cells (acL a (some xa) ca).toArray 38)).alloc (.cells (acL b (some xb) cb).toArray 38)) w') => sonly_any (c := cb) b w' ⟨hb.1.same (Same.trans hs hs'), hb.2⟩ hgb hlb)
  have Hra1 := hide (fun (w' : World) (hs' : Same ((w.alloc (.cells (acL a (some xa) ca).toArray 38)).alloc (.cells (acL b (some xb) cb).toArray 38)) w') => blk_range (hb1.same hs'))
  have Hra2 := hide (fun (w' : World) (hs' : Same ((w.alloc (.cells (acL a (some xa) ca).toArray 38)).alloc (.cells (acL b (some xb) cb).toArray 38)) w') => blk_range (hb2.same hs'))
  have Hll1 := hide (acL_len a (some xa) ca)
  have Hll2 := hide (acL_len b (some xb) cb)
  have Hs := hide hs
  have hz := hs.size
  clear hb1 hb2 hs ha hb hga hgb hla hlb
  unfold OnlyEnd at HOa HOb
  unfold acV at HOa HOb ⊢
  generalize acL a (some xa) ca = La at *
  generalize acL b (some xb) cb = Lb at *
  generalize onlyA a = x at *
  generalize onlyA b = y at *
  obtain ⟨v, hv⟩ : ∃ v, eqA x y = v := ⟨_, rfl⟩
  have heq := eql_req x.r y.r
  have Hlx := hide (rqL_len x.r)
  have Hly := hide (rqL_len y.r)
  rw [hv]
  unfold eqA at hv
  have HBE := hide (fun (w' : World) (A B : Option Addr) (c d : Nat) (h1 : Rd w' A (bs x.b)) (h2 : Rd w' B (bs y.b)) => bequal_any (c := c) (d := d) x.b y.b w' h1 h2)
  have HV := hide hv
  clear hv
  obtain ⟨k, hk⟩ : ∃ k, x.k = k := ⟨_, rfl⟩
  obtain ⟨id, hid⟩ : ∃ k, x.id = k := ⟨_, rfl⟩
  obtain ⟨n, hn⟩ : ∃ k, x.n = k := ⟨_, rfl⟩
  obtain ⟨k', hk'⟩ : ∃ k, y.k = k := ⟨_, rfl⟩
  obtain ⟨id', hid'⟩ : ∃ k, y.id = k := ⟨_, rfl⟩
  obtain ⟨n', hn'⟩ : ∃ k, y.n = k := ⟨_, rfl⟩
  rw [hk, hid, hn, hk', hid', hn'] at HV
  have Hk := hide hk
  have Hid := hide hid
  have Hn := hide hn
  have Hk' := hide hk'
  have Hid' := hide hid'
  have Hn' := hide hn'
  clear hk hid hn hk' hid' hn'
  generalize eqR x.r y.r = er at *

  generalize (x.b == y.b) = bb at *
  by_cases h1 : k = k'
  · subst h1
    by_cases h2 : id = id'
    · subst h2
      by_cases h3 : n = n'
      · subst h3
        rcases er with _ | _
        · go_enter Tryz.func22, Tryz.ntmps22
          go_wp2_with fail
          refine Mn.wp_region_mixN (fun k => k == 4 || k == 5) 6 (by kernel_rfl) (by kernel_rfl) fun Fin hFin => ?_
          simp only [List.take_succ_cons, List.take_zero]
          refine Mn.mix_ld (by rfl) La ?_ (fun _ => by rfl) 38 _ rfl w.heap.size 0 (fun _ => by rfl) _ (fun w1 hR => Hra1.out w1 hR) Tryz.underlying38 rfl (by rw [Hll1.out]; exact infoAct) ?_ ?_
          rotate_left
          · intro e; simp only [Act.put, List.setIfInBounds_toArray, List.set_cons_zero, List.set_cons_succ]; rfl
          refine Mn.mix_let (by rfl) (fun _ v w9 => ∃ A c, v = .agg (acL x A c).toArray ∧ ActAt w9 x A c) ?_ (by exact Loc.const _ _) ?_ ?_ ?_ ?_ ?_
          rotate_left
          · rintro e u w1 w2 hs ⟨A, c, h1, h2⟩; exact ⟨A, c, h1, h2.1.same hs, h2.2⟩
          · intro e; rfl
          · intro e w9 hR hF K hK; go_simp; go_at_call 35; (refine (HOa.out _ hR).mono ?_); rintro _ w8 ⟨⟨A, c, rfl, h1⟩, h2⟩; exact hK _ _ _ h2 ⟨A, c, rfl, h1⟩ (by simp only [Act.put, List.setIfInBounds_toArray, List.set_cons_zero, List.set_cons_succ])
          · intro e; simp only [Act.put, List.setIfInBounds_toArray, List.set_cons_zero, List.set_cons_succ]; rfl
          refine Mn.mix_ld (by rfl) Lb ?_ (fun _ => by rfl) 38 _ rfl (w.heap.size + 1) 0 (fun _ => by rfl) _ (fun w1 hR => Hra2.out w1 hR) Tryz.underlying38 rfl (by rw [Hll2.out]; exact infoAct) ?_ ?_
          rotate_left
          · intro e; simp only [Act.put, List.setIfInBounds_toArray, List.set_cons_zero, List.set_cons_succ]; rfl
          refine Mn.mix_let (by rfl) (fun _ v w9 => ∃ A c, v = .agg (acL y A c).toArray ∧ ActAt w9 y A c) ?_ (by exact Loc.const _ _) ?_ ?_ ?_ ?_ ?_
          rotate_left
          · rintro e u w1 w2 hs ⟨A, c, h1, h2⟩; exact ⟨A, c, h1, h2.1.same hs, h2.2⟩
          · intro e; rfl
          · intro e w9 hR hF K hK; go_simp; go_at_call 35; (refine (HOb.out _ hR).mono ?_); rintro _ w8 ⟨⟨A, c, rfl, h1⟩, h2⟩; exact hK _ _ _ h2 ⟨A, c, rfl, h1⟩ (by simp only [Act.put, List.setIfInBounds_toArray, List.set_cons_zero, List.set_cons_succ])
          · intro e; simp only [Act.put, List.setIfInBounds_toArray, List.set_cons_zero, List.set_cons_succ]; rfl
          refine Mn.mix_new (fun _ v w9 => ∃ b, v = .pointer (some ⟨b, 0, none⟩) ∧ Blk w9 b 38 #[Value.int .i64 0, .int .i64 0, .int .i64 0, .int .i64 0, .int .i64 0, .int .i64 0, .int .i64 0, .int .i64 0, .int .i64 0, .int .i64 0, .int .i64 0, .int .i64 0, .int .i64 0, .int .i64 0, .int .i64 0, .int .i64 0, .int .i64 0, .int .i64 0, .int .i64 0, .int .i64 0, .int .i64 0, .slice none 0 0] ∧ ((w.alloc (.cells La.toArray 38)).alloc (.cells Lb.toArray 38)).heap.size ≤ b) ?_ (by exact Loc.const _ _) ?_ ?_ ?_ ?_ ?_
          rotate_left
          · rintro e u w1 w2 hs ⟨b, h1, h2, h3⟩; exact ⟨b, h1, h2.same hs, h3⟩
          · intro e; rfl
          · intro e w9 hR hF K hK; go_simp; exact hK _ _ _ ((Chg.refl _ _).alloc _) ⟨_, rfl, Blk.new _ _ _, hR.size⟩ (Mn.born_new _ _ _ (by simp)) (by simp only [Act.put, List.setIfInBounds_toArray, List.set_cons_zero, List.set_cons_succ])
          · intro e; simp only [Act.put, List.setIfInBounds_toArray, List.set_cons_zero, List.set_cons_succ]; rfl
          refine Mn.mix_new (fun _ v w9 => ∃ b, v = .pointer (some ⟨b, 0, none⟩) ∧ Blk w9 b 38 #[Value.int .i64 0, .int .i64 0, .int .i64 0, .int .i64 0, .int .i64 0, .int .i64 0, .int .i64 0, .int .i64 0, .int .i64 0, .int .i64 0, .int .i64 0, .int .i64 0, .int .i64 0, .int .i64 0, .int .i64 0, .int .i64 0, .int .i64 0, .int .i64 0, .int .i64 0, .int .i64 0, .int .i64 0, .slice none 0 0] ∧ ((w.alloc (.cells La.toArray 38)).alloc (.cells Lb.toArray 38)).heap.size ≤ b) ?_ (by exact Loc.const _ _) ?_ ?_ ?_ ?_ ?_
          rotate_left
          · rintro e u w1 w2 hs ⟨b, h1, h2, h3⟩; exact ⟨b, h1, h2.same hs, h3⟩
          · intro e; rfl
          · intro e w9 hR hF K hK; go_simp; exact hK _ _ _ ((Chg.refl _ _).alloc _) ⟨_, rfl, Blk.new _ _ _, hR.size⟩ (Mn.born_new _ _ _ (by simp)) (by simp only [Act.put, List.setIfInBounds_toArray, List.set_cons_zero, List.set_cons_succ])
          · intro e; simp only [Act.put, List.setIfInBounds_toArray, List.set_cons_zero, List.set_cons_succ]; rfl
          refine Mn.mix_nil fun e wR hR hF hD => hFin _ _ ?_
          simp only [List.drop_succ_cons, List.drop_zero]
          obtain ⟨A1, c1, h1, hA1⟩ := (show ∃ A c, e 1 = .agg (acL x A c).toArray ∧ ActAt wR x A c from hF 1 (by decide))
          obtain ⟨A2, c2, h2, hA2⟩ := (show ∃ A c, e 3 = .agg (acL y A c).toArray ∧ ActAt wR y A c from hF 3 (by decide))
          obtain ⟨b1, h3, hB1, hz1⟩ := (show ∃ b, e 4 = .pointer (some ⟨b, 0, none⟩) ∧ Blk wR b 38 #[Value.int .i64 0, .int .i64 0, .int .i64 0, .int .i64 0, .int .i64 0, .int .i64 0, .int .i64 0, .int .i64 0, .int .i64 0, .int .i64 0, .int .i64 0, .int .i64 0, .int .i64 0, .int .i64 0, .int .i64 0, .int .i64 0, .int .i64 0, .int .i64 0, .int .i64 0, .int .i64 0, .int .i64 0, .slice none 0 0] ∧ ((w.alloc (.cells La.toArray 38)).alloc (.cells Lb.toArray 38)).heap.size ≤ b from hF 4 (by decide))
          obtain ⟨b2, h4, hB2, hz2⟩ := (show ∃ b, e 5 = .pointer (some ⟨b, 0, none⟩) ∧ Blk wR b 38 #[Value.int .i64 0, .int .i64 0, .int .i64 0, .int .i64 0, .int .i64 0, .int .i64 0, .int .i64 0, .int .i64 0, .int .i64 0, .int .i64 0, .int .i64 0, .int .i64 0, .int .i64 0, .int .i64 0, .int .i64 0, .int .i64 0, .int .i64 0, .int .i64 0, .int .i64 0, .int .i64 0, .int .i64 0, .slice none 0 0] ∧ ((w.alloc (.cells La.toArray 38)).alloc (.cells Lb.toArray 38)).heap.size ≤ b from hF 5 (by decide))
          have hne : b1 ≠ b2 := fun e9 => hD 4 5 rfl rfl (by decide) (by decide) (by decide) (by rw [h3, h4, e9])
          rw [h1, h2, h3, h4]
          have HS := hide (Same.trans Hs.out hR)
          have Hne := hide hne
          have HA1 := hide hA1
          have HA2 := hide hA2
          have HB1 := hide hB1
          have HB2 := hide hB2
          have HN1 := hide (show (x.b ≠ [] → blkOf A1 ≠ some b1) ∧ (x.b ≠ [] → blkOf A1 ≠ some b2) from ⟨rdb_apart hA1.1 hB1 z22_none, rdb_apart hA1.1 hB2 z22_none⟩)
          have HN2 := hide (show (y.b ≠ [] → blkOf A2 ≠ some b1) ∧ (y.b ≠ [] → blkOf A2 ≠ some b2) from ⟨rdb_apart hA2.1 hB1 z22_none, rdb_apart hA2.1 hB2 z22_none⟩)
          have Hz := hide (show w.heap.size ≤ b1 ∧ w.heap.size ≤ b2 from ⟨Nat.le_trans hz hz1, Nat.le_trans hz hz2⟩)
          have HBE2 := hide (fun w' => HBE.out w' A1 A2 c1 c2)
          clear hR hF hD hFin h1 h2 h3 h4 hA1 hA2 hB1 hB2 hz1 hz2 hne e
          obtain ⟨LX, hLX⟩ : ∃ L, L = acL x A1 c1 := ⟨_, rfl⟩
          obtain ⟨LY, hLY⟩ : ∃ L, L = acL y A2 c2 := ⟨_, rfl⟩
          rw [← hLX, ← hLY]
          have HX : ActC LX x A1 c1 := ⟨hLX⟩
          have HY : ActC LY y A2 c2 := ⟨hLY⟩
          clear hLX hLY
          go_wp2_with (first
            | ((with_reducible refine stRg 38 b1 22 LX 38 _ rowAct HX.len ?_ HB1.out HX.one ?_ ?_ ?_); rfl; rfl; rfl; intro w2 hc hz9 hb; have Hc2 := hide hc; have HX2 := hide hb; have HB22 := hide (HB2.out.chg hc (fun e => Hne.out e.symm)); clear hc hz9 hb)
            | ((with_reducible refine stRg 38 b2 22 LY 38 _ rowAct HY.len ?_ HB22.out HY.one ?_ ?_ ?_); rfl; rfl; rfl; intro w3 hc hz9 hb; have Hc3 := hide hc; have HY3 := hide hb; have HX3 := hide (HX2.out.chg hc Hne.out); have HRB := hide (show Rd w3 A1 (bs x.b) ∧ Rd w3 A2 (bs y.b) from ⟨rdb_chg (rdb_chg HA1.out.1 HN1.out.1 Hc2.out) HN1.out.2 hc, rdb_chg (rdb_chg HA2.out.1 HN2.out.1 Hc2.out) HN2.out.2 hc⟩); have HRX := hide (HX.rng HX3.out); have HRY := hide (HY.rng HY3.out); have hX0 := HX.c0; have hX1 := HX.c1; have hX2 := HX.c2; have hX21 := HX.c21; have hY0 := HY.c0; have hY1 := HY.c1; have hY2 := HY.c2; have hY21 := HY.c21; rw [Hk.out] at hX0; rw [Hid.out] at hX1; rw [Hn.out] at hX2; rw [Hk'.out] at hY0; rw [Hid'.out] at hY1; rw [Hn'.out] at hY2; have a0 := HX3.out.cell 0; have a1 := HX3.out.cell 1; have a2 := HX3.out.cell 2; have a21 := HX3.out.cell 21; have b0 := HY3.out.cell 0; have b1' := HY3.out.cell 1; have b2' := HY3.out.cell 2; have b21 := HY3.out.cell 21; simp only [List.getElem?_toArray, hX0, hX1, hX2, hX21, hY0, hY1, hY2, hY21] at a0 a1 a2 a21 b0 b1' b2' b21; clear hc hz9 hb)
            | ((with_reducible refine ldR 35 b1 3 18 (rqL x.r) rowReq Hlx.out HRX.out ?_ ?_ ?_); rfl; rfl)
            | ((with_reducible refine ldR 35 b2 3 18 (rqL y.r) rowReq Hly.out HRY.out ?_ ?_ ?_); rfl; rfl)
            | (go_at_call 36; ((with_reducible refine (HBE2.out _ (HRB.out.1) (HRB.out.2)).mono ?_); rintro e w4 ⟨rfl, rfl⟩))
            | fail)
          go_ret
          refine ⟨by rw [← HV.out]; first | rfl | (simp [*]; done), ?_⟩
          have h1 : Chg (fun k => w.heap.size ≤ k) w w2 := Chg.trans (Same.to HS.out) Hc2.out (fun k _ e => (by have e' : k = b1 := e; have := Hz.out.1; omega))
          exact Chg.fresh (S := fun k => w.heap.size ≤ k) (Chg.trans h1 Hc3.out (fun k _ e => (by have e' : k = b2 := e; have := Hz.out.2; omega))) (fun _ h => h)
        · go_enter Tryz.func22, Tryz.ntmps22
          go_wp2_with fail
          refine Mn.wp_region_mixN (fun k => k == 4 || k == 5) 6 (by kernel_rfl) (by kernel_rfl) fun Fin hFin => ?_
          simp only [List.take_succ_cons, List.take_zero]
          refine Mn.mix_ld (by rfl) La ?_ (fun _ => by rfl) 38 _ rfl w.heap.size 0 (fun _ => by rfl) _ (fun w1 hR => Hra1.out w1 hR) Tryz.underlying38 rfl (by rw [Hll1.out]; exact infoAct) ?_ ?_
          rotate_left
          · intro e; simp only [Act.put, List.setIfInBounds_toArray, List.set_cons_zero, List.set_cons_succ]; rfl
          refine Mn.mix_let (by rfl) (fun _ v w9 => ∃ A c, v = .agg (acL x A c).toArray ∧ ActAt w9 x A c) ?_ (by exact Loc.const _ _) ?_ ?_ ?_ ?_ ?_
          rotate_left
          · rintro e u w1 w2 hs ⟨A, c, h1, h2⟩; exact ⟨A, c, h1, h2.1.same hs, h2.2⟩
          · intro e; rfl
          · intro e w9 hR hF K hK; go_simp; go_at_call 35; (refine (HOa.out _ hR).mono ?_); rintro _ w8 ⟨⟨A, c, rfl, h1⟩, h2⟩; exact hK _ _ _ h2 ⟨A, c, rfl, h1⟩ (by simp only [Act.put, List.setIfInBounds_toArray, List.set_cons_zero, List.set_cons_succ])
          · intro e; simp only [Act.put, List.setIfInBounds_toArray, List.set_cons_zero, List.set_cons_succ]; rfl
          refine Mn.mix_ld (by rfl) Lb ?_ (fun _ => by rfl) 38 _ rfl (w.heap.size + 1) 0 (fun _ => by rfl) _ (fun w1 hR => Hra2.out w1 hR) Tryz.underlying38 rfl (by rw [Hll2.out]; exact infoAct) ?_ ?_
          rotate_left
          · intro e; simp only [Act.put, List.setIfInBounds_toArray, List.set_cons_zero, List.set_cons_succ]; rfl
          refine Mn.mix_let (by rfl) (fun _ v w9 => ∃ A c, v = .agg (acL y A c).toArray ∧ ActAt w9 y A c) ?_ (by exact Loc.const _ _) ?_ ?_ ?_ ?_ ?_
          rotate_left
          · rintro e u w1 w2 hs ⟨A, c, h1, h2⟩; exact ⟨A, c, h1, h2.1.same hs, h2.2⟩
          · intro e; rfl
          · intro e w9 hR hF K hK; go_simp; go_at_call 35; (refine (HOb.out _ hR).mono ?_); rintro _ w8 ⟨⟨A, c, rfl, h1⟩, h2⟩; exact hK _ _ _ h2 ⟨A, c, rfl, h1⟩ (by simp only [Act.put, List.setIfInBounds_toArray, List.set_cons_zero, List.set_cons_succ])
          · intro e; simp only [Act.put, List.setIfInBounds_toArray, List.set_cons_zero, List.set_cons_succ]; rfl
          refine Mn.mix_new (fun _ v w9 => ∃ b, v = .pointer (some ⟨b, 0, none⟩) ∧ Blk w9 b 38 #[Value.int .i64 0, .int .i64 0, .int .i64 0, .int .i64 0, .int .i64 0, .int .i64 0, .int .i64 0, .int .i64 0, .int .i64 0, .int .i64 0, .int .i64 0, .int .i64 0, .int .i64 0, .int .i64 0, .int .i64 0, .int .i64 0, .int .i64 0, .int .i64 0, .int .i64 0, .int .i64 0, .int .i64 0, .slice none 0 0] ∧ ((w.alloc (.cells La.toArray 38)).alloc (.cells Lb.toArray 38)).heap.size ≤ b) ?_ (by exact Loc.const _ _) ?_ ?_ ?_ ?_ ?_
          rotate_left
          · rintro e u w1 w2 hs ⟨b, h1, h2, h3⟩; exact ⟨b, h1, h2.same hs, h3⟩
          · intro e; rfl
          · intro e w9 hR hF K hK; go_simp; exact hK _ _ _ ((Chg.refl _ _).alloc _) ⟨_, rfl, Blk.new _ _ _, hR.size⟩ (Mn.born_new _ _ _ (by simp)) (by simp only [Act.put, List.setIfInBounds_toArray, List.set_cons_zero, List.set_cons_succ])
          · intro e; simp only [Act.put, List.setIfInBounds_toArray, List.set_cons_zero, List.set_cons_succ]; rfl
          refine Mn.mix_new (fun _ v w9 => ∃ b, v = .pointer (some ⟨b, 0, none⟩) ∧ Blk w9 b 38 #[Value.int .i64 0, .int .i64 0, .int .i64 0, .int .i64 0, .int .i64 0, .int .i64 0, .int .i64 0, .int .i64 0, .int .i64 0, .int .i64 0, .int .i64 0, .int .i64 0, .int .i64 0, .int .i64 0, .int .i64 0, .int .i64 0, .int .i64 0, .int .i64 0, .int .i64 0, .int .i64 0, .int .i64 0, .slice none 0 0] ∧ ((w.alloc (.cells La.toArray 38)).alloc (.cells Lb.toArray 38)).heap.size ≤ b) ?_ (by exact Loc.const _ _) ?_ ?_ ?_ ?_ ?_
          rotate_left
          · rintro e u w1 w2 hs ⟨b, h1, h2, h3⟩; exact ⟨b, h1, h2.same hs, h3⟩
          · intro e; rfl
          · intro e w9 hR hF K hK; go_simp; exact hK _ _ _ ((Chg.refl _ _).alloc _) ⟨_, rfl, Blk.new _ _ _, hR.size⟩ (Mn.born_new _ _ _ (by simp)) (by simp only [Act.put, List.setIfInBounds_toArray, List.set_cons_zero, List.set_cons_succ])
          · intro e; simp only [Act.put, List.setIfInBounds_toArray, List.set_cons_zero, List.set_cons_succ]; rfl
          refine Mn.mix_nil fun e wR hR hF hD => hFin _ _ ?_
          simp only [List.drop_succ_cons, List.drop_zero]
          obtain ⟨A1, c1, h1, hA1⟩ := (show ∃ A c, e 1 = .agg (acL x A c).toArray ∧ ActAt wR x A c from hF 1 (by decide))
          obtain ⟨A2, c2, h2, hA2⟩ := (show ∃ A c, e 3 = .agg (acL y A c).toArray ∧ ActAt wR y A c from hF 3 (by decide))
          obtain ⟨b1, h3, hB1, hz1⟩ := (show ∃ b, e 4 = .pointer (some ⟨b, 0, none⟩) ∧ Blk wR b 38 #[Value.int .i64 0, .int .i64 0, .int .i64 0, .int .i64 0, .int .i64 0, .int .i64 0, .int .i64 0, .int .i64 0, .int .i64 0, .int .i64 0, .int .i64 0, .int .i64 0, .int .i64 0, .int .i64 0, .int .i64 0, .int .i64 0, .int .i64 0, .int .i64 0, .int .i64 0, .int .i64 0, .int .i64 0, .slice none 0 0] ∧ ((w.alloc (.cells La.toArray 38)).alloc (.cells Lb.toArray 38)).heap.size ≤ b from hF 4 (by decide))
          obtain ⟨b2, h4, hB2, hz2⟩ := (show ∃ b, e 5 = .pointer (some ⟨b, 0, none⟩) ∧ Blk wR b 38 #[Value.int .i64 0, .int .i64 0, .int .i64 0, .int .i64 0, .int .i64 0, .int .i64 0, .int .i64 0, .int .i64 0, .int .i64 0, .int .i64 0, .int .i64 0, .int .i64 0, .int .i64 0, .int .i64 0, .int .i64 0, .int .i64 0, .int .i64 0, .int .i64 0, .int .i64 0, .int .i64 0, .int .i64 0, .slice none 0 0] ∧ ((w.alloc (.cells La.toArray 38)).alloc (.cells Lb.toArray 38)).heap.size ≤ b from hF 5 (by decide))
          have hne : b1 ≠ b2 := fun e9 => hD 4 5 rfl rfl (by decide) (by decide) (by decide) (by rw [h3, h4, e9])
          rw [h1, h2, h3, h4]
          have HS := hide (Same.trans Hs.out hR)
          have Hne := hide hne
          have HA1 := hide hA1
          have HA2 := hide hA2
          have HB1 := hide hB1
          have HB2 := hide hB2
          have HN1 := hide (show (x.b ≠ [] → blkOf A1 ≠ some b1) ∧ (x.b ≠ [] → blkOf A1 ≠ some b2) from ⟨rdb_apart hA1.1 hB1 z22_none, rdb_apart hA1.1 hB2 z22_none⟩)
          have HN2 := hide (show (y.b ≠ [] → blkOf A2 ≠ some b1) ∧ (y.b ≠ [] → blkOf A2 ≠ some b2) from ⟨rdb_apart hA2.1 hB1 z22_none, rdb_apart hA2.1 hB2 z22_none⟩)
          have Hz := hide (show w.heap.size ≤ b1 ∧ w.heap.size ≤ b2 from ⟨Nat.le_trans hz hz1, Nat.le_trans hz hz2⟩)
          have HBE2 := hide (fun w' => HBE.out w' A1 A2 c1 c2)
          clear hR hF hD hFin h1 h2 h3 h4 hA1 hA2 hB1 hB2 hz1 hz2 hne e
          obtain ⟨LX, hLX⟩ : ∃ L, L = acL x A1 c1 := ⟨_, rfl⟩
          obtain ⟨LY, hLY⟩ : ∃ L, L = acL y A2 c2 := ⟨_, rfl⟩
          rw [← hLX, ← hLY]
          have HX : ActC LX x A1 c1 := ⟨hLX⟩
          have HY : ActC LY y A2 c2 := ⟨hLY⟩
          clear hLX hLY
          go_wp2_with (first
            | ((with_reducible refine stRg 38 b1 22 LX 38 _ rowAct HX.len ?_ HB1.out HX.one ?_ ?_ ?_); rfl; rfl; rfl; intro w2 hc hz9 hb; have Hc2 := hide hc; have HX2 := hide hb; have HB22 := hide (HB2.out.chg hc (fun e => Hne.out e.symm)); clear hc hz9 hb)
            | ((with_reducible refine stRg 38 b2 22 LY 38 _ rowAct HY.len ?_ HB22.out HY.one ?_ ?_ ?_); rfl; rfl; rfl; intro w3 hc hz9 hb; have Hc3 := hide hc; have HY3 := hide hb; have HX3 := hide (HX2.out.chg hc Hne.out); have HRB := hide (show Rd w3 A1 (bs x.b) ∧ Rd w3 A2 (bs y.b) from ⟨rdb_chg (rdb_chg HA1.out.1 HN1.out.1 Hc2.out) HN1.out.2 hc, rdb_chg (rdb_chg HA2.out.1 HN2.out.1 Hc2.out) HN2.out.2 hc⟩); have HRX := hide (HX.rng HX3.out); have HRY := hide (HY.rng HY3.out); have hX0 := HX.c0; have hX1 := HX.c1; have hX2 := HX.c2; have hX21 := HX.c21; have hY0 := HY.c0; have hY1 := HY.c1; have hY2 := HY.c2; have hY21 := HY.c21; rw [Hk.out] at hX0; rw [Hid.out] at hX1; rw [Hn.out] at hX2; rw [Hk'.out] at hY0; rw [Hid'.out] at hY1; rw [Hn'.out] at hY2; have a0 := HX3.out.cell 0; have a1 := HX3.out.cell 1; have a2 := HX3.out.cell 2; have a21 := HX3.out.cell 21; have b0 := HY3.out.cell 0; have b1' := HY3.out.cell 1; have b2' := HY3.out.cell 2; have b21 := HY3.out.cell 21; simp only [List.getElem?_toArray, hX0, hX1, hX2, hX21, hY0, hY1, hY2, hY21] at a0 a1 a2 a21 b0 b1' b2' b21; clear hc hz9 hb)
            | ((with_reducible refine ldR 35 b1 3 18 (rqL x.r) rowReq Hlx.out HRX.out ?_ ?_ ?_); rfl; rfl)
            | ((with_reducible refine ldR 35 b2 3 18 (rqL y.r) rowReq Hly.out HRY.out ?_ ?_ ?_); rfl; rfl)
            | (go_at_call 36; ((with_reducible refine (HBE2.out _ (HRB.out.1) (HRB.out.2)).mono ?_); rintro e w4 ⟨rfl, rfl⟩))
            | fail)
          go_ret
          refine ⟨by rw [← HV.out]; first | rfl | (simp [*]; done), ?_⟩
          have h1 : Chg (fun k => w.heap.size ≤ k) w w2 := Chg.trans (Same.to HS.out) Hc2.out (fun k _ e => (by have e' : k = b1 := e; have := Hz.out.1; omega))
          exact Chg.fresh (S := fun k => w.heap.size ≤ k) (Chg.trans h1 Hc3.out (fun k _ e => (by have e' : k = b2 := e; have := Hz.out.2; omega))) (fun _ h => h)
      · have bh3 : (n == n') = false := by simpa using h3
        go_enter Tryz.func22, Tryz.ntmps22
        go_wp2_with fail
        refine Mn.wp_region_mixN (fun k => k == 4 || k == 5) 6 (by kernel_rfl) (by kernel_rfl) fun Fin hFin => ?_
        simp only [List.take_succ_cons, List.take_zero]
        refine Mn.mix_ld (by rfl) La ?_ (fun _ => by rfl) 38 _ rfl w.heap.size 0 (fun _ => by rfl) _ (fun w1 hR => Hra1.out w1 hR) Tryz.underlying38 rfl (by rw [Hll1.out]; exact infoAct) ?_ ?_
        rotate_left
        · intro e; simp only [Act.put, List.setIfInBounds_toArray, List.set_cons_zero, List.set_cons_succ]; rfl
        refine Mn.mix_let (by rfl) (fun _ v w9 => ∃ A c, v = .agg (acL x A c).toArray ∧ ActAt w9 x A c) ?_ (by exact Loc.const _ _) ?_ ?_ ?_ ?_ ?_
        rotate_left
        · rintro e u w1 w2 hs ⟨A, c, h1, h2⟩; exact ⟨A, c, h1, h2.1.same hs, h2.2⟩
        · intro e; rfl
        · intro e w9 hR hF K hK; go_simp; go_at_call 35; (refine (HOa.out _ hR).mono ?_); rintro _ w8 ⟨⟨A, c, rfl, h1⟩, h2⟩; exact hK _ _ _ h2 ⟨A, c, rfl, h1⟩ (by simp only [Act.put, List.setIfInBounds_toArray, List.set_cons_zero, List.set_cons_succ])
        · intro e; simp only [Act.put, List.setIfInBounds_toArray, List.set_cons_zero, List.set_cons_succ]; rfl
        refine Mn.mix_ld (by rfl) Lb ?_ (fun _ => by rfl) 38 _ rfl (w.heap.size + 1) 0 (fun _ => by rfl) _ (fun w1 hR => Hra2.out w1 hR) Tryz.underlying38 rfl (by rw [Hll2.out]; exact infoAct) ?_ ?_
        rotate_left
        · intro e; simp only [Act.put, List.setIfInBounds_toArray, List.set_cons_zero, List.set_cons_succ]; rfl
        refine Mn.mix_let (by rfl) (fun _ v w9 => ∃ A c, v = .agg (acL y A c).toArray ∧ ActAt w9 y A c) ?_ (by exact Loc.const _ _) ?_ ?_ ?_ ?_ ?_
        rotate_left
        · rintro e u w1 w2 hs ⟨A, c, h1, h2⟩; exact ⟨A, c, h1, h2.1.same hs, h2.2⟩
        · intro e; rfl
        · intro e w9 hR hF K hK; go_simp; go_at_call 35; (refine (HOb.out _ hR).mono ?_); rintro _ w8 ⟨⟨A, c, rfl, h1⟩, h2⟩; exact hK _ _ _ h2 ⟨A, c, rfl, h1⟩ (by simp only [Act.put, List.setIfInBounds_toArray, List.set_cons_zero, List.set_cons_succ])
        · intro e; simp only [Act.put, List.setIfInBounds_toArray, List.set_cons_zero, List.set_cons_succ]; rfl
        refine Mn.mix_new (fun _ v w9 => ∃ b, v = .pointer (some ⟨b, 0, none⟩) ∧ Blk w9 b 38 #[Value.int .i64 0, .int .i64 0, .int .i64 0, .int .i64 0, .int .i64 0, .int .i64 0, .int .i64 0, .int .i64 0, .int .i64 0, .int .i64 0, .int .i64 0, .int .i64 0, .int .i64 0, .int .i64 0, .int .i64 0, .int .i64 0, .int .i64 0, .int .i64 0, .int .i64 0, .int .i64 0, .int .i64 0, .slice none 0 0] ∧ ((w.alloc (.cells La.toArray 38)).alloc (.cells Lb.toArray 38)).heap.size ≤ b) ?_ (by exact Loc.const _ _) ?_ ?_ ?_ ?_ ?_
        rotate_left
        · rintro e u w1 w2 hs ⟨b, h1, h2, h3⟩; exact ⟨b, h1, h2.same hs, h3⟩
        · intro e; rfl
        · intro e w9 hR hF K hK; go_simp; exact hK _ _ _ ((Chg.refl _ _).alloc _) ⟨_, rfl, Blk.new _ _ _, hR.size⟩ (Mn.born_new _ _ _ (by simp)) (by simp only [Act.put, List.setIfInBounds_toArray, List.set_cons_zero, List.set_cons_succ])
        · intro e; simp only [Act.put, List.setIfInBounds_toArray, List.set_cons_zero, List.set_cons_succ]; rfl
        refine Mn.mix_new (fun _ v w9 => ∃ b, v = .pointer (some ⟨b, 0, none⟩) ∧ Blk w9 b 38 #[Value.int .i64 0, .int .i64 0, .int .i64 0, .int .i64 0, .int .i64 0, .int .i64 0, .int .i64 0, .int .i64 0, .int .i64 0, .int .i64 0, .int .i64 0, .int .i64 0, .int .i64 0, .int .i64 0, .int .i64 0, .int .i64 0, .int .i64 0, .int .i64 0, .int .i64 0, .int .i64 0, .int .i64 0, .slice none 0 0] ∧ ((w.alloc (.cells La.toArray 38)).alloc (.cells Lb.toArray 38)).heap.size ≤ b) ?_ (by exact Loc.const _ _) ?_ ?_ ?_ ?_ ?_
        rotate_left
        · rintro e u w1 w2 hs ⟨b, h1, h2, h3⟩; exact ⟨b, h1, h2.same hs, h3⟩
        · intro e; rfl
        · intro e w9 hR hF K hK; go_simp; exact hK _ _ _ ((Chg.refl _ _).alloc _) ⟨_, rfl, Blk.new _ _ _, hR.size⟩ (Mn.born_new _ _ _ (by simp)) (by simp only [Act.put, List.setIfInBounds_toArray, List.set_cons_zero, List.set_cons_succ])
        · intro e; simp only [Act.put, List.setIfInBounds_toArray, List.set_cons_zero, List.set_cons_succ]; rfl
        refine Mn.mix_nil fun e wR hR hF hD => hFin _ _ ?_
        simp only [List.drop_succ_cons, List.drop_zero]
        obtain ⟨A1, c1, h1, hA1⟩ := (show ∃ A c, e 1 = .agg (acL x A c).toArray ∧ ActAt wR x A c from hF 1 (by decide))
        obtain ⟨A2, c2, h2, hA2⟩ := (show ∃ A c, e 3 = .agg (acL y A c).toArray ∧ ActAt wR y A c from hF 3 (by decide))
        obtain ⟨b1, h3, hB1, hz1⟩ := (show ∃ b, e 4 = .pointer (some ⟨b, 0, none⟩) ∧ Blk wR b 38 #[Value.int .i64 0, .int .i64 0, .int .i64 0, .int .i64 0, .int .i64 0, .int .i64 0, .int .i64 0, .int .i64 0, .int .i64 0, .int .i64 0, .int .i64 0, .int .i64 0, .int .i64 0, .int .i64 0, .int .i64 0, .int .i64 0, .int .i64 0, .int .i64 0, .int .i64 0, .int .i64 0, .int .i64 0, .slice none 0 0] ∧ ((w.alloc (.cells La.toArray 38)).alloc (.cells Lb.toArray 38)).heap.size ≤ b from hF 4 (by decide))
        obtain ⟨b2, h4, hB2, hz2⟩ := (show ∃ b, e 5 = .pointer (some ⟨b, 0, none⟩) ∧ Blk wR b 38 #[Value.int .i64 0, .int .i64 0, .int .i64 0, .int .i64 0, .int .i64 0, .int .i64 0, .int .i64 0, .int .i64 0, .int .i64 0, .int .i64 0, .int .i64 0, .int .i64 0, .int .i64 0, .int .i64 0, .int .i64 0, .int .i64 0, .int .i64 0, .int .i64 0, .int .i64 0, .int .i64 0, .int .i64 0, .slice none 0 0] ∧ ((w.alloc (.cells La.toArray 38)).alloc (.cells Lb.toArray 38)).heap.size ≤ b from hF 5 (by decide))
        have hne : b1 ≠ b2 := fun e9 => hD 4 5 rfl rfl (by decide) (by decide) (by decide) (by rw [h3, h4, e9])
        rw [h1, h2, h3, h4]
        have HS := hide (Same.trans Hs.out hR)
        have Hne := hide hne
        have HA1 := hide hA1
        have HA2 := hide hA2
        have HB1 := hide hB1
        have HB2 := hide hB2
        have HN1 := hide (show (x.b ≠ [] → blkOf A1 ≠ some b1) ∧ (x.b ≠ [] → blkOf A1 ≠ some b2) from ⟨rdb_apart hA1.1 hB1 z22_none, rdb_apart hA1.1 hB2 z22_none⟩)
        have HN2 := hide (show (y.b ≠ [] → blkOf A2 ≠ some b1) ∧ (y.b ≠ [] → blkOf A2 ≠ some b2) from ⟨rdb_apart hA2.1 hB1 z22_none, rdb_apart hA2.1 hB2 z22_none⟩)
        have Hz := hide (show w.heap.size ≤ b1 ∧ w.heap.size ≤ b2 from ⟨Nat.le_trans hz hz1, Nat.le_trans hz hz2⟩)
        have HBE2 := hide (fun w' => HBE.out w' A1 A2 c1 c2)
        clear hR hF hD hFin h1 h2 h3 h4 hA1 hA2 hB1 hB2 hz1 hz2 hne e
        obtain ⟨LX, hLX⟩ : ∃ L, L = acL x A1 c1 := ⟨_, rfl⟩
        obtain ⟨LY, hLY⟩ : ∃ L, L = acL y A2 c2 := ⟨_, rfl⟩
        rw [← hLX, ← hLY]
        have HX : ActC LX x A1 c1 := ⟨hLX⟩
        have HY : ActC LY y A2 c2 := ⟨hLY⟩
        clear hLX hLY
        go_wp2_with (first
          | ((with_reducible refine stRg 38 b1 22 LX 38 _ rowAct HX.len ?_ HB1.out HX.one ?_ ?_ ?_); rfl; rfl; rfl; intro w2 hc hz9 hb; have Hc2 := hide hc; have HX2 := hide hb; have HB22 := hide (HB2.out.chg hc (fun e => Hne.out e.symm)); clear hc hz9 hb)
          | ((with_reducible refine stRg 38 b2 22 LY 38 _ rowAct HY.len ?_ HB22.out HY.one ?_ ?_ ?_); rfl; rfl; rfl; intro w3 hc hz9 hb; have Hc3 := hide hc; have HY3 := hide hb; have HX3 := hide (HX2.out.chg hc Hne.out); have HRB := hide (show Rd w3 A1 (bs x.b) ∧ Rd w3 A2 (bs y.b) from ⟨rdb_chg (rdb_chg HA1.out.1 HN1.out.1 Hc2.out) HN1.out.2 hc, rdb_chg (rdb_chg HA2.out.1 HN2.out.1 Hc2.out) HN2.out.2 hc⟩); have HRX := hide (HX.rng HX3.out); have HRY := hide (HY.rng HY3.out); have hX0 := HX.c0; have hX1 := HX.c1; have hX2 := HX.c2; have hX21 := HX.c21; have hY0 := HY.c0; have hY1 := HY.c1; have hY2 := HY.c2; have hY21 := HY.c21; rw [Hk.out] at hX0; rw [Hid.out] at hX1; rw [Hn.out] at hX2; rw [Hk'.out] at hY0; rw [Hid'.out] at hY1; rw [Hn'.out] at hY2; have a0 := HX3.out.cell 0; have a1 := HX3.out.cell 1; have a2 := HX3.out.cell 2; have a21 := HX3.out.cell 21; have b0 := HY3.out.cell 0; have b1' := HY3.out.cell 1; have b2' := HY3.out.cell 2; have b21 := HY3.out.cell 21; simp only [List.getElem?_toArray, hX0, hX1, hX2, hX21, hY0, hY1, hY2, hY21] at a0 a1 a2 a21 b0 b1' b2' b21; clear hc hz9 hb)
          | ((with_reducible refine ldR 35 b1 3 18 (rqL x.r) rowReq Hlx.out HRX.out ?_ ?_ ?_); rfl; rfl)
          | ((with_reducible refine ldR 35 b2 3 18 (rqL y.r) rowReq Hly.out HRY.out ?_ ?_ ?_); rfl; rfl)
          | (go_at_call 36; ((with_reducible refine (HBE2.out _ (HRB.out.1) (HRB.out.2)).mono ?_); rintro e w4 ⟨rfl, rfl⟩))
          | fail)
        go_ret
        refine ⟨by rw [← HV.out]; first | rfl | (simp [*]; done), ?_⟩
        have h1 : Chg (fun k => w.heap.size ≤ k) w w2 := Chg.trans (Same.to HS.out) Hc2.out (fun k _ e => (by have e' : k = b1 := e; have := Hz.out.1; omega))
        exact Chg.fresh (S := fun k => w.heap.size ≤ k) (Chg.trans h1 Hc3.out (fun k _ e => (by have e' : k = b2 := e; have := Hz.out.2; omega))) (fun _ h => h)
    · have bh2 : (id == id') = false := by simpa using h2
      go_enter Tryz.func22, Tryz.ntmps22
      go_wp2_with fail
      refine Mn.wp_region_mixN (fun k => k == 4 || k == 5) 6 (by kernel_rfl) (by kernel_rfl) fun Fin hFin => ?_
      simp only [List.take_succ_cons, List.take_zero]
      refine Mn.mix_ld (by rfl) La ?_ (fun _ => by rfl) 38 _ rfl w.heap.size 0 (fun _ => by rfl) _ (fun w1 hR => Hra1.out w1 hR) Tryz.underlying38 rfl (by rw [Hll1.out]; exact infoAct) ?_ ?_
      rotate_left
      · intro e; simp only [Act.put, List.setIfInBounds_toArray, List.set_cons_zero, List.set_cons_succ]; rfl
      refine Mn.mix_let (by rfl) (fun _ v w9 => ∃ A c, v = .agg (acL x A c).toArray ∧ ActAt w9 x A c) ?_ (by exact Loc.const _ _) ?_ ?_ ?_ ?_ ?_
      rotate_left
      · rintro e u w1 w2 hs ⟨A, c, h1, h2⟩; exact ⟨A, c, h1, h2.1.same hs, h2.2⟩
      · intro e; rfl
      · intro e w9 hR hF K hK; go_simp; go_at_call 35; (refine (HOa.out _ hR).mono ?_); rintro _ w8 ⟨⟨A, c, rfl, h1⟩, h2⟩; exact hK _ _ _ h2 ⟨A, c, rfl, h1⟩ (by simp only [Act.put, List.setIfInBounds_toArray, List.set_cons_zero, List.set_cons_succ])
      · intro e; simp only [Act.put, List.setIfInBounds_toArray, List.set_cons_zero, List.set_cons_succ]; rfl
      refine Mn.mix_ld (by rfl) Lb ?_ (fun _ => by rfl) 38 _ rfl (w.heap.size + 1) 0 (fun _ => by rfl) _ (fun w1 hR => Hra2.out w1 hR) Tryz.underlying38 rfl (by rw [Hll2.out]; exact infoAct) ?_ ?_
      rotate_left
      · intro e; simp only [Act.put, List.setIfInBounds_toArray, List.set_cons_zero, List.set_cons_succ]; rfl
      refine Mn.mix_let (by rfl) (fun _ v w9 => ∃ A c, v = .agg (acL y A c).toArray ∧ ActAt w9 y A c) ?_ (by exact Loc.const _ _) ?_ ?_ ?_ ?_ ?_
      rotate_left
      · rintro e u w1 w2 hs ⟨A, c, h1, h2⟩; exact ⟨A, c, h1, h2.1.same hs, h2.2⟩
      · intro e; rfl
      · intro e w9 hR hF K hK; go_simp; go_at_call 35; (refine (HOb.out _ hR).mono ?_); rintro _ w8 ⟨⟨A, c, rfl, h1⟩, h2⟩; exact hK _ _ _ h2 ⟨A, c, rfl, h1⟩ (by simp only [Act.put, List.setIfInBounds_toArray, List.set_cons_zero, List.set_cons_succ])
      · intro e; simp only [Act.put, List.setIfInBounds_toArray, List.set_cons_zero, List.set_cons_succ]; rfl
      refine Mn.mix_new (fun _ v w9 => ∃ b, v = .pointer (some ⟨b, 0, none⟩) ∧ Blk w9 b 38 #[Value.int .i64 0, .int .i64 0, .int .i64 0, .int .i64 0, .int .i64 0, .int .i64 0, .int .i64 0, .int .i64 0, .int .i64 0, .int .i64 0, .int .i64 0, .int .i64 0, .int .i64 0, .int .i64 0, .int .i64 0, .int .i64 0, .int .i64 0, .int .i64 0, .int .i64 0, .int .i64 0, .int .i64 0, .slice none 0 0] ∧ ((w.alloc (.cells La.toArray 38)).alloc (.cells Lb.toArray 38)).heap.size ≤ b) ?_ (by exact Loc.const _ _) ?_ ?_ ?_ ?_ ?_
      rotate_left
      · rintro e u w1 w2 hs ⟨b, h1, h2, h3⟩; exact ⟨b, h1, h2.same hs, h3⟩
      · intro e; rfl
      · intro e w9 hR hF K hK; go_simp; exact hK _ _ _ ((Chg.refl _ _).alloc _) ⟨_, rfl, Blk.new _ _ _, hR.size⟩ (Mn.born_new _ _ _ (by simp)) (by simp only [Act.put, List.setIfInBounds_toArray, List.set_cons_zero, List.set_cons_succ])
      · intro e; simp only [Act.put, List.setIfInBounds_toArray, List.set_cons_zero, List.set_cons_succ]; rfl
      refine Mn.mix_new (fun _ v w9 => ∃ b, v = .pointer (some ⟨b, 0, none⟩) ∧ Blk w9 b 38 #[Value.int .i64 0, .int .i64 0, .int .i64 0, .int .i64 0, .int .i64 0, .int .i64 0, .int .i64 0, .int .i64 0, .int .i64 0, .int .i64 0, .int .i64 0, .int .i64 0, .int .i64 0, .int .i64 0, .int .i64 0, .int .i64 0, .int .i64 0, .int .i64 0, .int .i64 0, .int .i64 0, .int .i64 0, .slice none 0 0] ∧ ((w.alloc (.cells La.toArray 38)).alloc (.cells Lb.toArray 38)).heap.size ≤ b) ?_ (by exact Loc.const _ _) ?_ ?_ ?_ ?_ ?_
      rotate_left
      · rintro e u w1 w2 hs ⟨b, h1, h2, h3⟩; exact ⟨b, h1, h2.same hs, h3⟩
      · intro e; rfl
      · intro e w9 hR hF K hK; go_simp; exact hK _ _ _ ((Chg.refl _ _).alloc _) ⟨_, rfl, Blk.new _ _ _, hR.size⟩ (Mn.born_new _ _ _ (by simp)) (by simp only [Act.put, List.setIfInBounds_toArray, List.set_cons_zero, List.set_cons_succ])
      · intro e; simp only [Act.put, List.setIfInBounds_toArray, List.set_cons_zero, List.set_cons_succ]; rfl
      refine Mn.mix_nil fun e wR hR hF hD => hFin _ _ ?_
      simp only [List.drop_succ_cons, List.drop_zero]
      obtain ⟨A1, c1, h1, hA1⟩ := (show ∃ A c, e 1 = .agg (acL x A c).toArray ∧ ActAt wR x A c from hF 1 (by decide))
      obtain ⟨A2, c2, h2, hA2⟩ := (show ∃ A c, e 3 = .agg (acL y A c).toArray ∧ ActAt wR y A c from hF 3 (by decide))
      obtain ⟨b1, h3, hB1, hz1⟩ := (show ∃ b, e 4 = .pointer (some ⟨b, 0, none⟩) ∧ Blk wR b 38 #[Value.int .i64 0, .int .i64 0, .int .i64 0, .int .i64 0, .int .i64 0, .int .i64 0, .int .i64 0, .int .i64 0, .int .i64 0, .int .i64 0, .int .i64 0, .int .i64 0, .int .i64 0, .int .i64 0, .int .i64 0, .int .i64 0, .int .i64 0, .int .i64 0, .int .i64 0, .int .i64 0, .int .i64 0, .slice none 0 0] ∧ ((w.alloc (.cells La.toArray 38)).alloc (.cells Lb.toArray 38)).heap.size ≤ b from hF 4 (by decide))
      obtain ⟨b2, h4, hB2, hz2⟩ := (show ∃ b, e 5 = .pointer (some ⟨b, 0, none⟩) ∧ Blk wR b 38 #[Value.int .i64 0, .int .i64 0, .int .i64 0, .int .i64 0, .int .i64 0, .int .i64 0, .int .i64 0, .int .i64 0, .int .i64 0, .int .i64 0, .int .i64 0, .int .i64 0, .int .i64 0, .int .i64 0, .int .i64 0, .int .i64 0, .int .i64 0, .int .i64 0, .int .i64 0, .int .i64 0, .int .i64 0, .slice none 0 0] ∧ ((w.alloc (.cells La.toArray 38)).alloc (.cells Lb.toArray 38)).heap.size ≤ b from hF 5 (by decide))
      have hne : b1 ≠ b2 := fun e9 => hD 4 5 rfl rfl (by decide) (by decide) (by decide) (by rw [h3, h4, e9])
      rw [h1, h2, h3, h4]
      have HS := hide (Same.trans Hs.out hR)
      have Hne := hide hne
      have HA1 := hide hA1
      have HA2 := hide hA2
      have HB1 := hide hB1
      have HB2 := hide hB2
      have HN1 := hide (show (x.b ≠ [] → blkOf A1 ≠ some b1) ∧ (x.b ≠ [] → blkOf A1 ≠ some b2) from ⟨rdb_apart hA1.1 hB1 z22_none, rdb_apart hA1.1 hB2 z22_none⟩)
      have HN2 := hide (show (y.b ≠ [] → blkOf A2 ≠ some b1) ∧ (y.b ≠ [] → blkOf A2 ≠ some b2) from ⟨rdb_apart hA2.1 hB1 z22_none, rdb_apart hA2.1 hB2 z22_none⟩)
      have Hz := hide (show w.heap.size ≤ b1 ∧ w.heap.size ≤ b2 from ⟨Nat.le_trans hz hz1, Nat.le_trans hz hz2⟩)
      have HBE2 := hide (fun w' => HBE.out w' A1 A2 c1 c2)
      clear hR hF hD hFin h1 h2 h3 h4 hA1 hA2 hB1 hB2 hz1 hz2 hne e
      obtain ⟨LX, hLX⟩ : ∃ L, L = acL x A1 c1 := ⟨_, rfl⟩
      obtain ⟨LY, hLY⟩ : ∃ L, L = acL y A2 c2 := ⟨_, rfl⟩
      rw [← hLX, ← hLY]
      have HX : ActC LX x A1 c1 := ⟨hLX⟩
      have HY : ActC LY y A2 c2 := ⟨hLY⟩
      clear hLX hLY
      go_wp2_with (first
        | ((with_reducible refine stRg 38 b1 22 LX 38 _ rowAct HX.len ?_ HB1.out HX.one ?_ ?_ ?_); rfl; rfl; rfl; intro w2 hc hz9 hb; have Hc2 := hide hc; have HX2 := hide hb; have HB22 := hide (HB2.out.chg hc (fun e => Hne.out e.symm)); clear hc hz9 hb)
        | ((with_reducible refine stRg 38 b2 22 LY 38 _ rowAct HY.len ?_ HB22.out HY.one ?_ ?_ ?_); rfl; rfl; rfl; intro w3 hc hz9 hb; have Hc3 := hide hc; have HY3 := hide hb; have HX3 := hide (HX2.out.chg hc Hne.out); have HRB := hide (show Rd w3 A1 (bs x.b) ∧ Rd w3 A2 (bs y.b) from ⟨rdb_chg (rdb_chg HA1.out.1 HN1.out.1 Hc2.out) HN1.out.2 hc, rdb_chg (rdb_chg HA2.out.1 HN2.out.1 Hc2.out) HN2.out.2 hc⟩); have HRX := hide (HX.rng HX3.out); have HRY := hide (HY.rng HY3.out); have hX0 := HX.c0; have hX1 := HX.c1; have hX2 := HX.c2; have hX21 := HX.c21; have hY0 := HY.c0; have hY1 := HY.c1; have hY2 := HY.c2; have hY21 := HY.c21; rw [Hk.out] at hX0; rw [Hid.out] at hX1; rw [Hn.out] at hX2; rw [Hk'.out] at hY0; rw [Hid'.out] at hY1; rw [Hn'.out] at hY2; have a0 := HX3.out.cell 0; have a1 := HX3.out.cell 1; have a2 := HX3.out.cell 2; have a21 := HX3.out.cell 21; have b0 := HY3.out.cell 0; have b1' := HY3.out.cell 1; have b2' := HY3.out.cell 2; have b21 := HY3.out.cell 21; simp only [List.getElem?_toArray, hX0, hX1, hX2, hX21, hY0, hY1, hY2, hY21] at a0 a1 a2 a21 b0 b1' b2' b21; clear hc hz9 hb)
        | ((with_reducible refine ldR 35 b1 3 18 (rqL x.r) rowReq Hlx.out HRX.out ?_ ?_ ?_); rfl; rfl)
        | ((with_reducible refine ldR 35 b2 3 18 (rqL y.r) rowReq Hly.out HRY.out ?_ ?_ ?_); rfl; rfl)
        | (go_at_call 36; ((with_reducible refine (HBE2.out _ (HRB.out.1) (HRB.out.2)).mono ?_); rintro e w4 ⟨rfl, rfl⟩))
        | fail)
      go_ret
      refine ⟨by rw [← HV.out]; first | rfl | (simp [*]; done), ?_⟩
      have h1 : Chg (fun k => w.heap.size ≤ k) w w2 := Chg.trans (Same.to HS.out) Hc2.out (fun k _ e => (by have e' : k = b1 := e; have := Hz.out.1; omega))
      exact Chg.fresh (S := fun k => w.heap.size ≤ k) (Chg.trans h1 Hc3.out (fun k _ e => (by have e' : k = b2 := e; have := Hz.out.2; omega))) (fun _ h => h)
  · have bh1 : (k == k') = false := by simpa using h1
    go_enter Tryz.func22, Tryz.ntmps22
    go_wp2_with fail
    refine Mn.wp_region_mixN (fun k => k == 4 || k == 5) 6 (by kernel_rfl) (by kernel_rfl) fun Fin hFin => ?_
    simp only [List.take_succ_cons, List.take_zero]
    refine Mn.mix_ld (by rfl) La ?_ (fun _ => by rfl) 38 _ rfl w.heap.size 0 (fun _ => by rfl) _ (fun w1 hR => Hra1.out w1 hR) Tryz.underlying38 rfl (by rw [Hll1.out]; exact infoAct) ?_ ?_
    rotate_left
    · intro e; simp only [Act.put, List.setIfInBounds_toArray, List.set_cons_zero, List.set_cons_succ]; rfl
    refine Mn.mix_let (by rfl) (fun _ v w9 => ∃ A c, v = .agg (acL x A c).toArray ∧ ActAt w9 x A c) ?_ (by exact Loc.const _ _) ?_ ?_ ?_ ?_ ?_
    rotate_left
    · rintro e u w1 w2 hs ⟨A, c, h1, h2⟩; exact ⟨A, c, h1, h2.1.same hs, h2.2⟩
    · intro e; rfl
    · intro e w9 hR hF K hK; go_simp; go_at_call 35; (refine (HOa.out _ hR).mono ?_); rintro _ w8 ⟨⟨A, c, rfl, h1⟩, h2⟩; exact hK _ _ _ h2 ⟨A, c, rfl, h1⟩ (by simp only [Act.put, List.setIfInBounds_toArray, List.set_cons_zero, List.set_cons_succ])
    · intro e; simp only [Act.put, List.setIfInBounds_toArray, List.set_cons_zero, List.set_cons_succ]; rfl
    refine Mn.mix_ld (by rfl) Lb ?_ (fun _ => by rfl) 38 _ rfl (w.heap.size + 1) 0 (fun _ => by rfl) _ (fun w1 hR => Hra2.out w1 hR) Tryz.underlying38 rfl (by rw [Hll2.out]; exact infoAct) ?_ ?_
    rotate_left
    · intro e; simp only [Act.put, List.setIfInBounds_toArray, List.set_cons_zero, List.set_cons_succ]; rfl
    refine Mn.mix_let (by rfl) (fun _ v w9 => ∃ A c, v = .agg (acL y A c).toArray ∧ ActAt w9 y A c) ?_ (by exact Loc.const _ _) ?_ ?_ ?_ ?_ ?_
    rotate_left
    · rintro e u w1 w2 hs ⟨A, c, h1, h2⟩; exact ⟨A, c, h1, h2.1.same hs, h2.2⟩
    · intro e; rfl
    · intro e w9 hR hF K hK; go_simp; go_at_call 35; (refine (HOb.out _ hR).mono ?_); rintro _ w8 ⟨⟨A, c, rfl, h1⟩, h2⟩; exact hK _ _ _ h2 ⟨A, c, rfl, h1⟩ (by simp only [Act.put, List.setIfInBounds_toArray, List.set_cons_zero, List.set_cons_succ])
    · intro e; simp only [Act.put, List.setIfInBounds_toArray, List.set_cons_zero, List.set_cons_succ]; rfl
    refine Mn.mix_new (fun _ v w9 => ∃ b, v = .pointer (some ⟨b, 0, none⟩) ∧ Blk w9 b 38 #[Value.int .i64 0, .int .i64 0, .int .i64 0, .int .i64 0, .int .i64 0, .int .i64 0, .int .i64 0, .int .i64 0, .int .i64 0, .int .i64 0, .int .i64 0, .int .i64 0, .int .i64 0, .int .i64 0, .int .i64 0, .int .i64 0, .int .i64 0, .int .i64 0, .int .i64 0, .int .i64 0, .int .i64 0, .slice none 0 0] ∧ ((w.alloc (.cells La.toArray 38)).alloc (.cells Lb.toArray 38)).heap.size ≤ b) ?_ (by exact Loc.const _ _) ?_ ?_ ?_ ?_ ?_
    rotate_left
    · rintro e u w1 w2 hs ⟨b, h1, h2, h3⟩; exact ⟨b, h1, h2.same hs, h3⟩
    · intro e; rfl
    · intro e w9 hR hF K hK; go_simp; exact hK _ _ _ ((Chg.refl _ _).alloc _) ⟨_, rfl, Blk.new _ _ _, hR.size⟩ (Mn.born_new _ _ _ (by simp)) (by simp only [Act.put, List.setIfInBounds_toArray, List.set_cons_zero, List.set_cons_succ])
    · intro e; simp only [Act.put, List.setIfInBounds_toArray, List.set_cons_zero, List.set_cons_succ]; rfl
    refine Mn.mix_new (fun _ v w9 => ∃ b, v = .pointer (some ⟨b, 0, none⟩) ∧ Blk w9 b 38 #[Value.int .i64 0, .int .i64 0, .int .i64 0, .int .i64 0, .int .i64 0, .int .i64 0, .int .i64 0, .int .i64 0, .int .i64 0, .int .i64 0, .int .i64 0, .int .i64 0, .int .i64 0, .int .i64 0, .int .i64 0, .int .i64 0, .int .i64 0, .int .i64 0, .int .i64 0, .int .i64 0, .int .i64 0, .slice none 0 0] ∧ ((w.alloc (.cells La.toArray 38)).alloc (.cells Lb.toArray 38)).heap.size ≤ b) ?_ (by exact Loc.const _ _) ?_ ?_ ?_ ?_ ?_
    rotate_left
    · rintro e u w1 w2 hs ⟨b, h1, h2, h3⟩; exact ⟨b, h1, h2.same hs, h3⟩
    · intro e; rfl
    · intro e w9 hR hF K hK; go_simp; exact hK _ _ _ ((Chg.refl _ _).alloc _) ⟨_, rfl, Blk.new _ _ _, hR.size⟩ (Mn.born_new _ _ _ (by simp)) (by simp only [Act.put, List.setIfInBounds_toArray, List.set_cons_zero, List.set_cons_succ])
    · intro e; simp only [Act.put, List.setIfInBounds_toArray, List.set_cons_zero, List.set_cons_succ]; rfl
    refine Mn.mix_nil fun e wR hR hF hD => hFin _ _ ?_
    simp only [List.drop_succ_cons, List.drop_zero]
    obtain ⟨A1, c1, h1, hA1⟩ := (show ∃ A c, e 1 = .agg (acL x A c).toArray ∧ ActAt wR x A c from hF 1 (by decide))
    obtain ⟨A2, c2, h2, hA2⟩ := (show ∃ A c, e 3 = .agg (acL y A c).toArray ∧ ActAt wR y A c from hF 3 (by decide))
    obtain ⟨b1, h3, hB1, hz1⟩ := (show ∃ b, e 4 = .pointer (some ⟨b, 0, none⟩) ∧ Blk wR b 38 #[Value.int .i64 0, .int .i64 0, .int .i64 0, .int .i64 0, .int .i64 0, .int .i64 0, .int .i64 0, .int .i64 0, .int .i64 0, .int .i64 0, .int .i64 0, .int .i64 0, .int .i64 0, .int .i64 0, .int .i64 0, .int .i64 0, .int .i64 0, .int .i64 0, .int .i64 0, .int .i64 0, .int .i64 0, .slice none 0 0] ∧ ((w.alloc (.cells La.toArray 38)).alloc (.cells Lb.toArray 38)).heap.size ≤ b from hF 4 (by decide))
    obtain ⟨b2, h4, hB2, hz2⟩ := (show ∃ b, e 5 = .pointer (some ⟨b, 0, none⟩) ∧ Blk wR b 38 #[Value.int .i64 0, .int .i64 0, .int .i64 0, .int .i64 0, .int .i64 0, .int .i64 0, .int .i64 0, .int .i64 0, .int .i64 0, .int .i64 0, .int .i64 0, .int .i64 0, .int .i64 0, .int .i64 0, .int .i64 0, .int .i64 0, .int .i64 0, .int .i64 0, .int .i64 0, .int .i64 0, .int .i64 0, .slice none 0 0] ∧ ((w.alloc (.cells La.toArray 38)).alloc (.cells Lb.toArray 38)).heap.size ≤ b from hF 5 (by decide))
    have hne : b1 ≠ b2 := fun e9 => hD 4 5 rfl rfl (by decide) (by decide) (by decide) (by rw [h3, h4, e9])
    rw [h1, h2, h3, h4]
    have HS := hide (Same.trans Hs.out hR)
    have Hne := hide hne
    have HA1 := hide hA1
    have HA2 := hide hA2
    have HB1 := hide hB1
    have HB2 := hide hB2
    have HN1 := hide (show (x.b ≠ [] → blkOf A1 ≠ some b1) ∧ (x.b ≠ [] → blkOf A1 ≠ some b2) from ⟨rdb_apart hA1.1 hB1 z22_none, rdb_apart hA1.1 hB2 z22_none⟩)
    have HN2 := hide (show (y.b ≠ [] → blkOf A2 ≠ some b1) ∧ (y.b ≠ [] → blkOf A2 ≠ some b2) from ⟨rdb_apart hA2.1 hB1 z22_none, rdb_apart hA2.1 hB2 z22_none⟩)
    have Hz := hide (show w.heap.size ≤ b1 ∧ w.heap.size ≤ b2 from ⟨Nat.le_trans hz hz1, Nat.le_trans hz hz2⟩)
    have HBE2 := hide (fun w' => HBE.out w' A1 A2 c1 c2)
    clear hR hF hD hFin h1 h2 h3 h4 hA1 hA2 hB1 hB2 hz1 hz2 hne e
    obtain ⟨LX, hLX⟩ : ∃ L, L = acL x A1 c1 := ⟨_, rfl⟩
    obtain ⟨LY, hLY⟩ : ∃ L, L = acL y A2 c2 := ⟨_, rfl⟩
    rw [← hLX, ← hLY]
    have HX : ActC LX x A1 c1 := ⟨hLX⟩
    have HY : ActC LY y A2 c2 := ⟨hLY⟩
    clear hLX hLY
    go_wp2_with (first
      | ((with_reducible refine stRg 38 b1 22 LX 38 _ rowAct HX.len ?_ HB1.out HX.one ?_ ?_ ?_); rfl; rfl; rfl; intro w2 hc hz9 hb; have Hc2 := hide hc; have HX2 := hide hb; have HB22 := hide (HB2.out.chg hc (fun e => Hne.out e.symm)); clear hc hz9 hb)
      | ((with_reducible refine stRg 38 b2 22 LY 38 _ rowAct HY.len ?_ HB22.out HY.one ?_ ?_ ?_); rfl; rfl; rfl; intro w3 hc hz9 hb; have Hc3 := hide hc; have HY3 := hide hb; have HX3 := hide (HX2.out.chg hc Hne.out); have HRB := hide (show Rd w3 A1 (bs x.b) ∧ Rd w3 A2 (bs y.b) from ⟨rdb_chg (rdb_chg HA1.out.1 HN1.out.1 Hc2.out) HN1.out.2 hc, rdb_chg (rdb_chg HA2.out.1 HN2.out.1 Hc2.out) HN2.out.2 hc⟩); have HRX := hide (HX.rng HX3.out); have HRY := hide (HY.rng HY3.out); have hX0 := HX.c0; have hX1 := HX.c1; have hX2 := HX.c2; have hX21 := HX.c21; have hY0 := HY.c0; have hY1 := HY.c1; have hY2 := HY.c2; have hY21 := HY.c21; rw [Hk.out] at hX0; rw [Hid.out] at hX1; rw [Hn.out] at hX2; rw [Hk'.out] at hY0; rw [Hid'.out] at hY1; rw [Hn'.out] at hY2; have a0 := HX3.out.cell 0; have a1 := HX3.out.cell 1; have a2 := HX3.out.cell 2; have a21 := HX3.out.cell 21; have b0 := HY3.out.cell 0; have b1' := HY3.out.cell 1; have b2' := HY3.out.cell 2; have b21 := HY3.out.cell 21; simp only [List.getElem?_toArray, hX0, hX1, hX2, hX21, hY0, hY1, hY2, hY21] at a0 a1 a2 a21 b0 b1' b2' b21; clear hc hz9 hb)
      | ((with_reducible refine ldR 35 b1 3 18 (rqL x.r) rowReq Hlx.out HRX.out ?_ ?_ ?_); rfl; rfl)
      | ((with_reducible refine ldR 35 b2 3 18 (rqL y.r) rowReq Hly.out HRY.out ?_ ?_ ?_); rfl; rfl)
      | (go_at_call 36; ((with_reducible refine (HBE2.out _ (HRB.out.1) (HRB.out.2)).mono ?_); rintro e w4 ⟨rfl, rfl⟩))
      | fail)
    go_ret
    refine ⟨by rw [← HV.out]; first | rfl | (simp [*]; done), ?_⟩
    have h1 : Chg (fun k => w.heap.size ≤ k) w w2 := Chg.trans (Same.to HS.out) Hc2.out (fun k _ e => (by have e' : k = b1 := e; have := Hz.out.1; omega))
    exact Chg.fresh (S := fun k => w.heap.size ≤ k) (Chg.trans h1 Hc3.out (fun k _ e => (by have e' : k = b2 := e; have := Hz.out.2; omega))) (fun _ h => h)
end Go.Proofs.YtlodanjpkjfjiaaGreatDoor
