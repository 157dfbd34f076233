/-
  The evaluator: what holds on the way through a region that draws its order, and that it holds on. No program is named here. No conditions.
-/
import Derived.Test.YtopkdiiigidfdaaGreatEvO
namespace Go.Ev
open Go.RowKit Go.Al
set_option linter.unusedVariables false

/-- the names of those of which L is true -/
def AL (A : Nat → Prop) (rs : List RR) (L : Nat → Bool) : Nat → Prop := fun x => A x ∨ ∃ r ∈ rs, L r.i = true ∧ r.a ≤ x ∧ x < r.b
theorem AL_mono {A : Nat → Prop} {rs : List RR} {L L' : Nat → Bool} (h : ∀ k, L k = true → L' k = true) {x : Nat} (hx : AL A rs L x) : AL A rs L' x := hx.imp id fun ⟨r, h1, h2, h3⟩ => ⟨r, h1, h _ h2, h3⟩
theorem Falls.uniq : ∀ {l : List RR}, Falls l → ∀ x ∈ l, ∀ y ∈ l, x.i = y.i → x = y
  | [], _, x, hx, _, _, _ => by cases hx
  | z :: l, hf, x, hx, y, hy, hxy => by
    have hp := List.pairwise_cons.1 hf
    rcases List.mem_cons.1 hx with e | hx
    · rcases List.mem_cons.1 hy with e' | hy
      · rw [e, e']
      · have := hp.1 y hy; rw [e] at hxy; omega
    · rcases List.mem_cons.1 hy with e' | hy
      · have := hp.1 x hx; rw [e'] at hxy; omega
      · exact Falls.uniq hp.2 x hx y hy hxy
/-- what is known of a region's operations -/
structure Cx (P : Program) (call : Caller) (ops : Array Oper) (ms : List Nat) (fr : List SV) (st : St) (A : Nat → Prop) (I0 : In) (w0 : World) (rs : List RR) (nx : Nat) : Prop where
  hn : NameOk P
  hc : CallOk P call
  hok : Ok P A I0 st w0
  hfr : okL A I0 fr
  tr : ∀ i k j, i < ops.size → ancM ms i k = true → ancM ms k j = true → ancM ms i j = true
  lt : ∀ i j, i < ops.size → ancM ms i j = true → j < i
  rg : Rng ops.toList st.nx rs nx
  len : rs.length = ops.size
  op : ∀ r ∈ rs, ∃ o, ops[r.i]? = some o ∧ OpF P call ops ms fr st.H rs o r
  ap : ∀ r ∈ rs, ∀ r' ∈ rs, r.i ≠ r'.i → ∀ o, ops[r.i]? = some o → ancM ms r.i r'.i = false → ∀ d, r'.ds = some d → d ∉ o.looksAt ops
  dd : ∀ r ∈ rs, ∀ r' ∈ rs, r'.i ≠ r.i → r.ds ≠ none → r'.ds ≠ r.ds
  free : ∀ r ∈ rs, ∀ o, ops[r.i]? = some o → wantS ops o (mergeF (ancM ms r.i) fr rs) = some true → freeB P o (mergeF (ancM ms r.i) fr rs) (forb ms r.i rs) = true
  sep : ∀ r ∈ rs, (∀ id ∈ forb ms r.i rs, ¬ (r.a ≤ id ∧ id < r.b)) ∧ ∀ id ∈ r.W, id ∉ forb ms r.i rs ∧ id < r.b
/-- what holds when those of which L is true are done -/
structure Iv (P : Program) (ops : Array Oper) (ms : List Nat) (fr : List SV) (st : St) (A : Nat → Prop) (I0 : In) (w0 : World) (rs : List RR) (nx : Nat) (L : Nat → Bool) (a : Act) (w : World) (I : In) : Prop where
  ext : ∀ x, (x < st.nx ∨ nx ≤ x) → I.adr x = I0.adr x ∧ I.cap x = I0.cap x ∧ I.esl x = I0.esl x
  val : I.val = I0.val
  df : a.defers = []
  tmps : a.tmps = (denL I (mergeF L fr rs)).toArray
  own : ∀ r ∈ rs, L r.i = true → r.v.ok (up (AL A rs (ancM ms r.i)) r.a r.b) I ∧ (∀ id so, r.dom id = true → look r.H id = some so → up (AL A rs (ancM ms r.i)) r.a r.b id ∧ so.ok (up (AL A rs (ancM ms r.i)) r.a r.b) I) ∧
    ∀ id, id < st.nx → look st.H id = none → r.dom id = true → look r.H id = none
  ok : Ok P (AL A rs L) I ⟨mergeH L st.H rs, nx, []⟩ w
  chg : Chg (fun b => ∃ id, look st.H id ≠ none ∧ I0.adr id = b) w0 w
  new : ∀ id, st.nx ≤ id → look (mergeH L st.H rs) id ≠ none → w0.heap.size ≤ I.adr id ∨ ∃ k, look st.H k ≠ none ∧ look (mergeH L st.H rs) k = none ∧ I.adr id = I0.adr k
theorem Iv.dead {P : Program} {ops : Array Oper} {ms : List Nat} {fr : List SV} {st : St} {A : Nat → Prop} {I0 : In} {w0 : World} {rs : List RR} {nx : Nat} {L : Nat → Bool} {a : Act} {w : World} {I : In} (h : Iv P ops ms fr st A I0 w0 rs nx L a w I) {L' : Nat → Bool} (hL : ∀ k, L' k = true → L k = true) {id : Nat} (hid : id < st.nx) (h0 : look st.H id = none) : look (mergeH L' st.H rs) id = none := by
  cases hl : look (mergeH L' st.H rs) id with
  | none => rfl
  | some so =>
    rcases mergeH_src hl with ⟨r, h1, h2, h3, h4⟩ | h1
    · rw [(h.own r h1 (hL _ h2)).2.2 id hid h0 h3] at h4; cases h4
    · rw [h0] at h1; cases h1
section
variable {P : Program} {call : Caller} {ops : Array Oper} {ms : List Nat} {fr : List SV} {st : St} {A : Nat → Prop} {I0 : In} {w0 : World} {rs : List RR} {nx : Nat} (cx : Cx P call ops ms fr st A I0 w0 rs nx)
include cx
theorem Cx.same {r1 r2 : RR} (h1 : r1 ∈ rs) (h2 : r2 ∈ rs) {x : Nat} (hx : r1.a ≤ x ∧ x < r1.b) (hx' : r2.a ≤ x ∧ x < r2.b) : r1.i = r2.i := by
  rcases Nat.lt_trichotomy r1.i r2.i with h | h | h
  · have := cx.rg.ord r1 h1 r2 h2 h; omega
  · exact h
  · have := cx.rg.ord r2 h2 r1 h1 h; omega
/-- the names of others are none of these -/
theorem Cx.apart {L : Nat → Bool} {r : RR} (hr : r ∈ rs) (hL : L r.i = false) {x : Nat} (hx : AL A rs L x) : ¬ (r.a ≤ x ∧ x < r.b) := fun h => by
  rcases hx with hx | ⟨r', hr', hl, hx⟩
  · have := cx.hok.lt x hx
    have := (cx.rg.rng r hr).2.1
    omega
  · have := cx.same hr hr' h hx
    rw [this, hl] at hL
    cases hL
theorem Cx.lt_a {r : RR} (hr : r ∈ rs) {x : Nat} (hx : AL A rs (ancM ms r.i) x) : x < r.a := by
  have hri := (cx.rg.rng r hr).1
  rcases hx with hx | ⟨r', hr', hl, hx⟩
  · have := cx.hok.lt x hx
    have := (cx.rg.rng r hr).2.1
    omega
  · have h1 := cx.lt r.i r'.i (by rw [← cx.len]; exact hri) hl
    have := cx.rg.ord r' hr' r hr h1
    omega
theorem Cx.anc_AL {r r' : RR} (hr : r ∈ rs) (hr' : r' ∈ rs) (h : ancM ms r.i r'.i = true) {x : Nat} (hx : up (AL A rs (ancM ms r'.i)) r'.a r'.b x) : AL A rs (ancM ms r.i) x := by
  have hri := (cx.rg.rng r hr).1
  rcases hx with (hx | ⟨r2, hr2, hl, hx⟩) | hx
  · exact .inl hx
  · exact .inr ⟨r2, hr2, cx.tr r.i r'.i r2.i (by rw [← cx.len]; exact hri) h hl, hx⟩
  · exact .inr ⟨r', hr', h, hx⟩
/-- the memory of those for whom one waits, less what others write, is held by the world -/
theorem Iv.local {L : Nat → Bool} {a : Act} {w : World} {I : In} (h : Iv P ops ms fr st A I0 w0 rs nx L a w I) {r : RR} (hr : r ∈ rs) (hL : L r.i = false) (hanc : ∀ j, ancM ms r.i j = true → L j = true) (hnot : ∀ k, L k = true → ancM ms k r.i = false) :
    (∀ id so, look (mergeH (ancM ms r.i) st.H rs) id = some so → AL A rs (ancM ms r.i) id ∧ so.ok (AL A rs (ancM ms r.i)) I) ∧
    (∀ id so, look (killL (forb ms r.i rs) (mergeH (ancM ms r.i) st.H rs)) id = some so → look (mergeH L st.H rs) id = some so) ∧
    Ok P (AL A rs (ancM ms r.i)) I ⟨killL (forb ms r.i rs) (mergeH (ancM ms r.i) st.H rs), r.a, []⟩ w := by
  have hagr : Agrees A I0 I := ⟨fun i hi => h.ext i (.inl (cx.hok.lt i hi)), h.val⟩
  have k1 : ∀ id so, look (mergeH (ancM ms r.i) st.H rs) id = some so → AL A rs (ancM ms r.i) id ∧ so.ok (AL A rs (ancM ms r.i)) I := fun id so hl => by
    rcases mergeH_src hl with ⟨r', h1, h2, h3, h4⟩ | h1
    · have := (h.own r' h1 (hanc _ h2)).2.1 id so h3 h4
      exact ⟨cx.anc_AL hr h1 h2 this.1, SO.ok_mono (fun x hx => cx.anc_AL hr h1 h2 hx) this.2⟩
    · have := cx.hok.key id so h1
      exact ⟨.inl this.1, SO.ok_mono (fun x hx => .inl hx) (SO.ok_agr hagr this.2)⟩
  have k2 : ∀ id so, look (killL (forb ms r.i rs) (mergeH (ancM ms r.i) st.H rs)) id = some so → look (mergeH L st.H rs) id = some so := fun id so hl => by
    rw [look_killL] at hl
    split at hl
    · cases hl
    rename_i hnf
    rw [← hl]
    refine mergeH_congr fun r' hr' hne => ?_
    have hl' : L r'.i = true ∧ ancM ms r.i r'.i = false := by
      cases e1 : L r'.i <;> cases e2 : ancM ms r.i r'.i
      · rw [e1, e2] at hne; exact absurd rfl hne
      · rw [hanc _ e2] at e1; cases e1
      · exact ⟨rfl, rfl⟩
      · rw [e1, e2] at hne; exact absurd rfl hne
    rw [← Bool.not_eq_true, RR.dom_iff]
    rintro (hd | hd)
    · refine hnf (mem_forb hr' (fun e => ?_) hl'.2 (hnot _ hl'.1) hd)
      rw [e, hL] at hl'
      cases hl'.1
    · exact cx.apart hr' hl'.2 (k1 id so hl).1 hd
  have k3 : ∀ id so, look (killL (forb ms r.i rs) (mergeH (ancM ms r.i) st.H rs)) id = some so → look (mergeH (ancM ms r.i) st.H rs) id = some so := fun id so hl => by
    rw [look_killL] at hl
    split at hl
    · cases hl
    · exact hl
  have k4 : ∀ id, look (killL (forb ms r.i rs) (mergeH (ancM ms r.i) st.H rs)) id ≠ none → look (mergeH L st.H rs) id ≠ none := fun id hl => by
    obtain ⟨so, hs⟩ := Option.ne_none_iff_exists'.1 hl
    rw [k2 id so hs]
    simp
  exact ⟨k1, k2, ⟨fun i hi => cx.lt_a hr hi, fun id so hl => k1 id so (k3 id so hl), fun id so hl => h.ok.real id so (k2 id so hl), fun id id' h1 h2 he => h.ok.inj id id' (k4 id h1) (k4 id' h2) he, h.ok.val⟩⟩
/-- one more is done -/
theorem Iv.more {L : Nat → Bool} {a : Act} {w : World} {I : In} (h : Iv P ops ms fr st A I0 w0 rs nx L a w I) {r : RR} (hr : r ∈ rs) (hL : L r.i = false) (hanc : ∀ j, ancM ms r.i j = true → L j = true) (hnot : ∀ k, L k = true → ancM ms k r.i = false) (hcl : ∀ k j, L k = true → ancM ms k j = true → L j = true)
    {I' : In} {w' : World} {S : St} (hS : S.nx = r.b) (hW : S.wr = r.W) (hH : ∀ id, r.dom id = true → look S.H id = look r.H id)
    (hm : Mv P (AL A rs (ancM ms r.i)) I ⟨killL (forb ms r.i rs) (mergeH (ancM ms r.i) st.H rs), r.a, []⟩ w I' S w') (hv : r.v.ok (up (AL A rs (ancM ms r.i)) r.a r.b) I') :
    Iv P ops ms fr st A I0 w0 rs nx (fun k => L k || Nat.beq k r.i) (a.put r.ds (r.v.den I')) w' I' := by
  obtain ⟨k1, k2, hloc⟩ := h.local cx hr hL hanc hnot
  have rng := cx.rg.rng r hr
  have hk4 : ∀ id, look (killL (forb ms r.i rs) (mergeH (ancM ms r.i) st.H rs)) id ≠ none → look (mergeH L st.H rs) id ≠ none := fun id hl => by
    obtain ⟨so, hs⟩ := Option.ne_none_iff_exists'.1 hl
    rw [k2 id so hs]
    simp
  have hext : ∀ x, ¬ (r.a ≤ x ∧ x < r.b) → I'.adr x = I.adr x ∧ I'.cap x = I.cap x ∧ I'.esl x = I.esl x := fun x hx => hm.ext x (by simp only [hS]; omega)
  have hagL : Agrees (AL A rs L) I I' := ⟨fun x hx => hext x (cx.apart hr hL hx), hm.val⟩
  have hsub : ∀ k, L k = true → (fun k => L k || Nat.beq k r.i) k = true := fun k hk => by simp [hk]
  have hself : (fun k => L k || Nat.beq k r.i) r.i = true := by simp
  have hup : ∀ x, up (AL A rs (ancM ms r.i)) r.a r.b x → AL A rs (fun k => L k || Nat.beq k r.i) x := fun x hx => by
    rcases hx with hx | hx
    · exact AL_mono (fun k hk => hsub k (hanc k hk)) hx
    · exact .inr ⟨r, hr, hself, hx⟩
  have hokm := hm.ok
  simp only [hS] at hokm
  -- who has been done, and the names of whom
  have howns : ∀ r' ∈ rs, L r'.i = true → ∀ x, up (AL A rs (ancM ms r'.i)) r'.a r'.b x → ¬ (r.a ≤ x ∧ x < r.b) := fun r' hr' hl x hx hxr => by
    rcases hx with hx | hx
    · exact cx.apart hr (hnot _ hl) hx hxr
    · have := cx.same hr hr' hxr hx
      rw [this, hl] at hL
      cases hL
  have hdomL : ∀ r' ∈ rs, L r'.i = true → ∀ id, r'.dom id = true → look r'.H id ≠ none → ¬ (r.a ≤ id ∧ id < r.b) := fun r' hr' hl id hd hn => by
    obtain ⟨so, hs⟩ := Option.ne_none_iff_exists'.1 hn
    exact howns r' hr' hl id ((h.own r' hr' hl).2.1 id so hd hs).1
  -- the memory behind
  have hin : ∀ id, r.dom id = true → look (mergeH (fun k => L k || Nat.beq k r.i) st.H rs) id = look S.H id := fun id hd => by
    rw [hH id hd]
    refine mergeH_at cx.rg.falls hr hself hd fun r' hr' hlt hl' => ?_
    have hl' : L r'.i = true := by
      rw [Bool.or_eq_true, Nat.beq_eq] at hl'
      exact hl'.resolve_right (by omega)
    have hna : ancM ms r.i r'.i = false := by
      rw [← Bool.not_eq_true]
      intro he
      have := cx.lt r.i r'.i (by rw [← cx.len]; exact rng.1) he
      omega
    have sep := cx.sep r hr
    have hord := cx.rg.ord r hr r' hr' hlt
    rw [← Bool.not_eq_true, RR.dom_iff]
    rintro (hd' | hd')
    · have hf : id ∈ forb ms r.i rs := mem_forb hr' (by omega) hna (hnot _ hl') hd'
      rcases RR.dom_iff.1 hd with h1 | h1
      · exact (sep.2 id h1).1 hf
      · exact sep.1 id hf h1
    · rcases RR.dom_iff.1 hd with h1 | h1
      · have := (sep.2 id h1).2; omega
      · omega
  have hout : ∀ id, r.dom id = false → look (mergeH (fun k => L k || Nat.beq k r.i) st.H rs) id = look (mergeH L st.H rs) id := fun id hd =>
    mergeH_congr fun r' hr' hne => by
      by_cases e : r'.i = r.i
      · have hrr : r' = r := cx.rg.falls.uniq r' hr' r hr e
        rw [hrr]
        exact hd
      · rw [beq_f e, Bool.or_false] at hne
        exact absurd rfl hne
  have hdead : ∀ id, look (mergeH L st.H rs) id = none → id < r.a → look (mergeH (fun k => L k || Nat.beq k r.i) st.H rs) id = none := fun id h0 hlt => by
    cases hd : r.dom id
    · rw [hout id hd]; exact h0
    · rw [hin id hd]
      refine hm.dead id hlt ?_
      cases hl : look (killL (forb ms r.i rs) (mergeH (ancM ms r.i) st.H rs)) id with
      | none => rfl
      | some so => rw [k2 id so hl] at h0; cases h0
  -- a block of those that are done, which one has not touched
  have hkeep : ∀ id so, r.dom id = false → look (mergeH L st.H rs) id = some so → AL A rs L id ∧ so.ok (AL A rs L) I ∧ I'.adr id = I.adr id ∧ ∃ ob, w'.heap[I'.adr id]? = some ob ∧ Real P I' so ob := fun id so hd hl => by
    have key := h.ok.key id so hl
    have hadr := (hagL.at_ id key.1).1
    refine ⟨key.1, key.2, hadr, ?_⟩
    cases hl' : look (killL (forb ms r.i rs) (mergeH (ancM ms r.i) st.H rs)) id with
    | some so' =>
      have : so' = so := Option.some.inj ((k2 id so' hl').symm.trans hl)
      subst this
      have hlt : id < r.a := hloc.live_lt (by rw [hl']; simp)
      have hnw : id ∉ S.wr := by
        rw [hW]
        intro hw
        rw [← Bool.not_eq_true, RR.dom_iff] at hd
        exact hd (.inl hw)
      have := hm.log id hlt hnw
      exact hm.ok.real id so' (this.trans hl')
    | none =>
      obtain ⟨ob, h1, h2⟩ := h.ok.real id so hl
      refine ⟨ob, ?_, Real.agr hagL key.2 h2⟩
      rw [hadr, hm.chg.block _ (Array.getElem?_eq_some_iff.1 h1).1 ?_]
      · exact h1
      · rintro ⟨id2, hn, he⟩
        have := h.ok.inj id2 id (hk4 id2 hn) (by rw [hl]; simp) he
        subst this
        exact hn hl'
  -- two blocks, one of them touched
  have hmix : ∀ id1 id2, r.dom id1 = true → r.dom id2 = false → look S.H id1 ≠ none → look (mergeH L st.H rs) id2 ≠ none → I'.adr id1 = I'.adr id2 → id1 = id2 := fun id1 id2 hd1 hd2 hl1 hl2 he => by
    obtain ⟨so2, hs2⟩ := Option.ne_none_iff_exists'.1 hl2
    obtain ⟨q1, q2, q3, _⟩ := hkeep id2 so2 hd2 hs2
    cases hl' : look (killL (forb ms r.i rs) (mergeH (ancM ms r.i) st.H rs)) id2 with
    | some so' =>
      have hlt : id2 < r.a := hloc.live_lt (by rw [hl']; simp)
      have hnw : id2 ∉ S.wr := by
        rw [hW]
        intro hw
        rw [← Bool.not_eq_true, RR.dom_iff] at hd2
        exact hd2 (.inl hw)
      exact hm.ok.inj id1 id2 hl1 (by rw [hm.log id2 hlt hnw]; simp only; rw [hl']; simp) he
    | none =>
      have hlt2 : I.adr id2 < w.heap.size := h.ok.adr_lt hl2
      rw [q3] at he
      rcases Nat.lt_or_ge id1 r.a with hlt | hge
      · have hn1 : look (killL (forb ms r.i rs) (mergeH (ancM ms r.i) st.H rs)) id1 ≠ none := fun h0 => hl1 (hm.dead id1 hlt h0)
        rw [(hext id1 (by omega)).1] at he
        exact h.ok.inj id1 id2 (hk4 id1 hn1) hl2 he
      · rcases hm.new id1 hge hl1 with hn | ⟨k, hk1, hk2, hk3⟩
        · omega
        · rw [hk3] at he
          have := h.ok.inj k id2 (hk4 k hk1) hl2 he
          subst this
          exact absurd hl' hk1
  refine ⟨fun x hx => ?_, hm.val.trans h.val, h.df ▸ (by cases r.ds <;> rfl), ?_, fun r' hr' hl' => ?_, ⟨fun x hx => ?_, fun id so hl => ?_, fun id so hl => ?_, fun id id' h1 h2 he => ?_, hm.ok.val⟩, h.chg.trans hm.chg fun b hb => ?_, fun id hid hl => ?_⟩
  · have a1 := hext x (by omega)
    have a2 := h.ext x hx
    exact ⟨a1.1.trans a2.1, a1.2.1.trans a2.2.1, a1.2.2.trans a2.2.2⟩
  · have hokF : okL (AL A rs L) I (mergeF L fr rs) := mergeF_mem (okL_mono (fun x hx => .inl hx) _ (okL_agr ⟨fun i hi => h.ext i (.inl (cx.hok.lt i hi)), h.val⟩ _ cx.hfr)) fun r' hr' hl => ok_mono (fun x hx => by
      rcases hx with hx | hx
      · exact AL_mono (fun k hk => hcl _ k hl hk) hx
      · exact .inr ⟨r', hr', hl, hx⟩) _ (h.own r' hr' hl).1
    rw [mergeF_more cx.rg.falls hr hL (cx.dd r hr)]
    cases hds : r.ds with
    | none => simp only [Act.put, putF, h.tmps, denL_agr hagL _ hokF]
    | some d => simp only [Act.put, putF, h.tmps, denL_set, denL_agr hagL _ hokF, List.setIfInBounds_toArray]
  · by_cases e : r'.i = r.i
    · have hrr : r' = r := cx.rg.falls.uniq r' hr' r hr e
      subst hrr
      refine ⟨hv, fun id so hd hs => ?_, fun id hid h0 hd => ?_⟩
      · rw [← hH id hd] at hs
        exact hokm.key id so hs
      · rw [← hH id hd]
        refine hm.dead id (by simp only; omega) ?_
        simp only [look_killL]
        split
        · rfl
        · exact h.dead hanc hid h0
    · have hl : L r'.i = true := by
        rw [Bool.or_eq_true, Nat.beq_eq] at hl'
        exact hl'.resolve_right e
      have hag : Agrees (up (AL A rs (ancM ms r'.i)) r'.a r'.b) I I' := ⟨fun x hx => hext x (howns r' hr' hl x hx), hm.val⟩
      obtain ⟨o1, o2, o3⟩ := h.own r' hr' hl
      exact ⟨ok_agr hag _ o1, fun id so hd hs => ⟨(o2 id so hd hs).1, SO.ok_agr hag (o2 id so hd hs).2⟩, o3⟩
  · rcases hx with hx | ⟨r', hr', _, hx⟩
    · have := cx.hok.lt x hx
      have := cx.rg.le
      simp only
      omega
    · have := (cx.rg.rng r' hr').2.2.2
      simp only
      omega
  · have hl : look (mergeH (fun k => L k || Nat.beq k r.i) st.H rs) id = some so := hl
    cases hd : r.dom id
    · rw [hout id hd] at hl
      obtain ⟨q1, q2, _⟩ := hkeep id so hd hl
      exact ⟨AL_mono hsub q1, SO.ok_mono (fun x hx => AL_mono hsub hx) (SO.ok_agr hagL q2)⟩
    · rw [hin id hd] at hl
      have := hokm.key id so hl
      exact ⟨hup _ this.1, SO.ok_mono hup this.2⟩
  · have hl : look (mergeH (fun k => L k || Nat.beq k r.i) st.H rs) id = some so := hl
    cases hd : r.dom id
    · rw [hout id hd] at hl
      exact (hkeep id so hd hl).2.2.2
    · rw [hin id hd] at hl
      exact hm.ok.real id so hl
  · have h1 : look (mergeH (fun k => L k || Nat.beq k r.i) st.H rs) id ≠ none := h1
    have h2 : look (mergeH (fun k => L k || Nat.beq k r.i) st.H rs) id' ≠ none := h2
    cases hd1 : r.dom id <;> cases hd2 : r.dom id'
    · rw [hout id hd1] at h1
      rw [hout id' hd2] at h2
      obtain ⟨so1, hs1⟩ := Option.ne_none_iff_exists'.1 h1
      obtain ⟨so2, hs2⟩ := Option.ne_none_iff_exists'.1 h2
      rw [(hkeep id so1 hd1 hs1).2.2.1, (hkeep id' so2 hd2 hs2).2.2.1] at he
      exact h.ok.inj id id' h1 h2 he
    · rw [hout id hd1] at h1
      rw [hin id' hd2] at h2
      exact (hmix id' id hd2 hd1 h2 h1 he.symm).symm
    · rw [hin id hd1] at h1
      rw [hout id' hd2] at h2
      exact hmix id id' hd1 hd2 h1 h2 he
    · rw [hin id hd1] at h1
      rw [hin id' hd2] at h2
      exact hm.ok.inj id id' h1 h2 he
  · rintro ⟨id2, hn, he⟩
    have hl2 := hk4 id2 hn
    rcases Nat.lt_or_ge id2 st.nx with hlt | hge
    · refine ⟨id2, fun h0 => hl2 (h.dead (fun _ h => h) hlt h0), ?_⟩
      rw [← he]
      exact (h.ext id2 (.inl hlt)).1.symm
    · rcases h.new id2 hge hl2 with hq | ⟨k, hk1, _, hk3⟩
      · omega
      · exact ⟨k, hk1, by rw [← he, hk3]⟩
  · have hll : look (mergeH (fun k => L k || Nat.beq k r.i) st.H rs) id ≠ none := hl
    have hle := h.chg.size
    have hnxa := rng.2.1
    -- how one that was there is told of
    have was : ∀ k, st.nx ≤ k → look (mergeH L st.H rs) k ≠ none → w0.heap.size ≤ I.adr k ∨ ∃ k0, look st.H k0 ≠ none ∧ look (mergeH (fun k => L k || Nat.beq k r.i) st.H rs) k0 = none ∧ I.adr k = I0.adr k0 := fun k hk hlk => by
      rcases h.new k hk hlk with hq | ⟨k0, q1, q2, q3⟩
      · exact .inl hq
      · exact .inr ⟨k0, q1, hdead k0 q2 (by have := cx.hok.live_lt q1; omega), q3⟩
    cases hd : r.dom id
    · rw [hout id hd] at hll
      obtain ⟨so, hs⟩ := Option.ne_none_iff_exists'.1 hll
      rw [(hkeep id so hd hs).2.2.1]
      exact was id hid hll
    · rw [hin id hd] at hll
      rcases Nat.lt_or_ge id r.a with hlt | hge
      · have hn1 : look (killL (forb ms r.i rs) (mergeH (ancM ms r.i) st.H rs)) id ≠ none := fun h0 => hll (hm.dead id hlt h0)
        rw [(hext id (by omega)).1]
        exact was id hid (hk4 id hn1)
      · rcases hm.new id hge hll with hq | ⟨k, hk1, hk2, hk3⟩
        · exact .inl (by omega)
        · rw [hk3]
          have hklt : k < r.a := hloc.live_lt hk1
          have hkd : r.dom k = true := by
            cases hkd : r.dom k
            · exfalso
              have hnw : k ∉ S.wr := by
                rw [hW]
                intro hw
                rw [← Bool.not_eq_true, RR.dom_iff] at hkd
                exact hkd (.inl hw)
              rw [hm.log k hklt hnw] at hk2
              exact hk1 hk2
            · rfl
          rcases Nat.lt_or_ge k st.nx with hks | hks
          · exact .inr ⟨k, fun h0 => hk4 k hk1 (h.dead (fun _ h => h) hks h0), by rw [hin k hkd]; exact hk2, (h.ext k (.inl hks)).1⟩
          · exact was k hks (hk4 k hk1)
end
end Go.Ev
