/-
  The evaluator: a region that draws its order, whole. No program is named here. No conditions.
-/
import Derived.Test.YtopkdiiigidfdaaGreatEvP
namespace Go.Ev
open Go.RowKit Go.Al
set_option linter.unusedVariables false

theorem evOp_select {P : Program} {call : Caller} {o : Oper} {fr : List SV} {st : St} {r : OR × St} (h : evOp P call o fr st = some r) : ∀ cs b, o.op ≠ .select cs b := by
  intro cs b ho
  unfold evOp pu hop at h
  rw [ho] at h
  cases h
section
variable {P : Program} {call : Caller} {ops : Array Oper} {ms : List Nat} {fr : List SV} {st : St} {A : Nat → Prop} {I0 : In} {w0 : World} {rs : List RR} {nx : Nat} (cx : Cx P call ops ms fr st A I0 w0 rs nx)
include cx
theorem Iv.step {L : Nat → Bool} {a : Act} {w : World} {I : In} (h : Iv P ops ms fr st A I0 w0 rs nx L a w I) {i : Nat} {o : Oper} (ho : ops[i]? = some o) (hL : L i = false) (hanc : ∀ j, ancM ms i j = true → L j = true) (hnot : ∀ k, L k = true → ancM ms k i = false) (hcl : ∀ k j, L k = true → ancM ms k j = true → L j = true) {Q : Exit → Act → World → Prop} :
    wpOp P ops Q i (fun a' w' => ∃ I', Iv P ops ms fr st A I0 w0 rs nx (fun k => L k || Nat.beq k i) a' w' I') a w := by
  obtain ⟨r, hr, rfl⟩ := cx.rg.one i (by rw [cx.len]; exact (Array.getElem?_eq_some_iff.1 ho).1)
  obtain ⟨o', ho', hop⟩ := cx.op r hr
  rw [ho] at ho'
  cases ho'
  obtain ⟨k1, k2, hloc⟩ := h.local cx hr hL hanc hnot
  have hagr : Agr (o.looksAt ops) a ⟨(denL I (mergeF (ancM ms r.i) fr rs)).toArray, []⟩ := by
    refine ⟨by rw [h.tmps]; simp [mergeF_length], fun t ht => ?_⟩
    rw [h.tmps]
    simp only [List.getElem?_toArray, denL_get]
    rw [mergeF_congr (L' := ancM ms r.i) fun r' hr' hne hd => ?_]
    have hl' : L r'.i = true ∧ ancM ms r.i r'.i = false := by
      cases e1 : L r'.i <;> cases e2 : ancM ms r.i r'.i
      · rw [e1, e2] at hne; exact absurd rfl hne
      · rw [hanc _ e2] at e1; cases e1
      · exact ⟨rfl, rfl⟩
      · rw [e1, e2] at hne; exact absurd rfl hne
    exact cx.ap r hr r' hr' (fun e => by rw [e, hl'.1] at hL; cases hL) o ho hl'.2 t hd ht
  have hagI : Agrees A I0 I := ⟨fun i hi => h.ext i (.inl (cx.hok.lt i hi)), h.val⟩
  have hF : Fr (AL A rs (ancM ms r.i)) I (mergeF (ancM ms r.i) fr rs) ⟨(denL I (mergeF (ancM ms r.i) fr rs)).toArray, []⟩ :=
    ⟨rfl, rfl, mergeF_mem (okL_mono (fun x hx => .inl hx) _ (okL_agr hagI _ cx.hfr)) fun r' hr' hl => ok_mono (fun x hx => cx.anc_AL hr hr' hl hx) _ (h.own r' hr' (hanc _ hl)).1⟩
  have hwant := agr_wanted hagr
  unfold wpOp
  rw [ho]
  simp only
  rcases hop.run with ⟨hw, res, S, he, hW, hb, hH, hres⟩ | ⟨hw, hW, hb, hv⟩
  · obtain ⟨S', he', e1, e2, e3⟩ := evOp_kill he (cx.free r hr o ho hw)
    rw [if_pos (hwant.trans (wantS_run hF hw))]
    refine .inl (wp_agr (R := fun _ _ => True) (val := fun u => u) (G := fun u w' => ∃ I', Mv P (AL A rs (ancM ms r.i)) I ⟨killL (forb ms r.i rs) (mergeH (ancM ms r.i) st.H rs), r.a, []⟩ w I' S' w' ∧ u = r.v.den I' ∧ r.v.ok (up (AL A rs (ancM ms r.i)) r.a r.b) I')
      (evOp_select he) hagr ?_ ?_)
    · refine evOp_run cx.hn cx.hc hloc hF he' fun I' w' hm => ?_
      rcases hres with rfl | ⟨rfl, hv⟩
      · exact fun hok => ⟨_, rfl, ⟨I', hm, rfl, by rw [hb, ← e1]; exact hok⟩, trivial⟩
      · exact ⟨_, rfl, ⟨I', hm, by rw [hv]; rfl, by rw [hv]; trivial⟩, trivial⟩
    · rintro u w' ⟨I', hm, rfl, hok⟩ _
      rw [← hop.ds]
      refine ⟨I', h.more cx hr hL hanc hnot hcl (e1.trans hb.symm) (e2.trans hW.symm) (fun id hd => ?_) hm hok⟩
      rw [e3 id ?_, hH]
      rcases RR.dom_iff.1 hd with hd | hd
      · exact .inl (by rw [← hW]; exact hd)
      · exact .inr (by rw [← hb]; exact hd)
  · rw [if_neg (by rw [hwant.trans (wantS_run hF hw)]; decide), ← hop.ds]
    have hnd : ∀ id, ¬ r.dom id = true := fun id hd => by
      rcases RR.dom_iff.1 hd with hd | hd
      · rw [hW] at hd; cases hd
      · omega
    have := h.more cx hr hL hanc hnot hcl (S := ⟨killL (forb ms r.i rs) (mergeH (ancM ms r.i) st.H rs), r.a, []⟩) hb.symm hW.symm (fun id hd => absurd hd (hnd id)) (Mv.refl hloc) (by rw [hv]; trivial)
    rw [hv] at this
    exact ⟨I, this⟩
end
def backB : List Oper → Nat → Bool
  | [], _ => true
  | o :: l, i => o.after.toList.all (fun e => !Region.binds .any e || Nat.blt e.on i) && backB l (i + 1)
def dstOk : Option Tmp → List Tmp → Bool
  | none, _ => true
  | some d, l => !memN d l
def dstNe : Option Tmp → Option Tmp → Bool
  | some d, some d' => !Nat.beq d d'
  | _, _ => true
def apB (ops : Array Oper) (ms : List Nat) (o : Oper) (i : Nat) : List Oper → Nat → Bool
  | [], _ => true
  | o' :: l, j => cond (Nat.beq i j) true ((ancM ms i j || dstOk o'.dst (o.looksAt ops)) && dstNe o.dst o'.dst) && apB ops ms o i l (j + 1)
def apsB (ops : Array Oper) (ms : List Nat) (all : List Oper) : List Oper → Nat → Bool
  | [], _ => true
  | o :: l, i => apB ops ms o i all 0 && apsB ops ms all l (i + 1)
/-- what is so of a region's text -/
def statB (ops : Array Oper) : Bool := backB ops.toList 0 && apsB ops (masks ops.toList []) ops.toList ops.toList 0
def dyn1 (P : Program) (ops : Array Oper) (ms : List Nat) (fr : List SV) (rs : List RR) (r : RR) : Bool :=
  match ops[r.i]? with
  | some o => (match wantS ops o (mergeF (ancM ms r.i) fr rs) with
      | some true => freeB P o (mergeF (ancM ms r.i) fr rs) (forb ms r.i rs)
      | _ => true) && (forb ms r.i rs).all (fun id => !(Nat.ble r.a id && Nat.blt id r.b)) && r.W.all (fun id => !memN id (forb ms r.i rs) && Nat.blt id r.b)
  | none => false
def lastN (nx : Nat) : List RR → Nat
  | [] => nx
  | r :: _ => r.b
def allW (wr : List Nat) : List RR → List Nat
  | [] => wr
  | r :: rs => r.W ++ allW wr rs
def evDraw (P : Program) (call : Caller) (ops : Array Oper) (fr : List SV) (st : St) : Option (SX × List SV × St) :=
  cond (statB ops) (match evD P call ops (masks ops.toList []) fr st.H ops.toList 0 st.nx [] with
    | some rs => cond (rs.all (dyn1 P ops (masks ops.toList []) fr rs)) (some (.nrm, mergeF (fun _ => true) fr rs, ⟨mergeH (fun _ => true) st.H rs, lastN st.nx rs, allW st.wr rs⟩)) none
    | none => none) none
theorem backB_spec : ∀ {l : List Oper} {i : Nat}, backB l i = true → ∀ k o, l[k]? = some o → ∀ e ∈ o.after, Region.binds .any e = true → e.on < i + k
  | [], i, _, k, o, h, _, _, _ => by cases h
  | o :: l, i, hb, 0, o', h, e, he, hbd => by
    cases h
    unfold backB at hb
    rw [Bool.and_eq_true] at hb
    have := List.all_eq_true.1 hb.1 e (Array.mem_toList_iff.2 he)
    rw [hbd] at this
    rw [Bool.not_true, Bool.false_or] at this
    exact Nat.le_of_ble_eq_true this
  | o :: l, i, hb, k + 1, o', h, e, he, hbd => by
    unfold backB at hb
    rw [Bool.and_eq_true] at hb
    have := backB_spec hb.2 k o' (by simpa using h) e he hbd
    omega
theorem apB_spec {ops : Array Oper} {ms : List Nat} {o : Oper} {i : Nat} : ∀ {l : List Oper} {j : Nat}, apB ops ms o i l j = true → ∀ k o', l[k]? = some o' → i ≠ j + k → (ancM ms i (j + k) = true ∨ dstOk o'.dst (o.looksAt ops) = true) ∧ dstNe o.dst o'.dst = true
  | [], j, _, k, o', h, _ => by cases h
  | o1 :: l, j, hb, 0, o', h, hne => by
    cases h
    unfold apB at hb
    rw [Nat.add_zero] at hne ⊢
    rw [Bool.and_eq_true, beq_f hne, cond_false, Bool.and_eq_true, Bool.or_eq_true] at hb
    exact hb.1
  | o1 :: l, j, hb, k + 1, o', h, hne => by
    unfold apB at hb
    rw [Bool.and_eq_true] at hb
    have := apB_spec hb.2 k o' (by simpa using h) (by omega)
    rwa [show j + 1 + k = j + (k + 1) by omega] at this
theorem apsB_spec {ops : Array Oper} {ms : List Nat} {all : List Oper} : ∀ {l : List Oper} {i : Nat}, apsB ops ms all l i = true → ∀ k o, l[k]? = some o → apB ops ms o (i + k) all 0 = true
  | [], i, _, k, o, h => by cases h
  | o1 :: l, i, hb, 0, o, h => by
    cases h
    unfold apsB at hb
    rw [Bool.and_eq_true] at hb
    exact hb.1
  | o1 :: l, i, hb, k + 1, o, h => by
    unfold apsB at hb
    rw [Bool.and_eq_true] at hb
    have := apsB_spec hb.2 k o (by simpa using h)
    rwa [show i + 1 + k = i + (k + 1) by omega] at this
theorem mergeH_same {L L' : Nat → Bool} {H : List (Nat × SO)} : ∀ {rs : List RR}, (∀ r ∈ rs, L r.i = L' r.i) → mergeH L H rs = mergeH L' H rs
  | [], _ => rfl
  | r :: rs, h => by
    unfold mergeH
    rw [mergeH_same fun r' hr => h r' (List.mem_cons_of_mem _ hr), h r (List.mem_cons_self ..)]
theorem mergeH_none {L : Nat → Bool} {H : List (Nat × SO)} : ∀ {rs : List RR}, (∀ r ∈ rs, L r.i = false) → mergeH L H rs = H
  | [], _ => rfl
  | r :: rs, h => by
    unfold mergeH
    rw [h r (List.mem_cons_self ..), cond_false]
    exact mergeH_none fun r' hr => h r' (List.mem_cons_of_mem _ hr)
theorem mergeF_none {L : Nat → Bool} {fr : List SV} : ∀ {rs : List RR}, (∀ r ∈ rs, L r.i = false) → mergeF L fr rs = fr
  | [], _ => rfl
  | r :: rs, h => by
    unfold mergeF
    rw [h r (List.mem_cons_self ..), cond_false]
    exact mergeF_none fun r' hr => h r' (List.mem_cons_of_mem _ hr)
theorem mem_allW {wr : List Nat} {id : Nat} : ∀ {rs : List RR}, id ∈ allW wr rs ↔ id ∈ wr ∨ ∃ r ∈ rs, id ∈ r.W
  | [] => by simp [allW]
  | r :: rs => by
    rw [allW, List.mem_append, mem_allW]
    constructor
    · rintro (h | h | ⟨r', h1, h2⟩)
      · exact .inr ⟨r, List.mem_cons_self .., h⟩
      · exact .inl h
      · exact .inr ⟨r', List.mem_cons_of_mem _ h1, h2⟩
    · rintro (h | ⟨r', h1, h2⟩)
      · exact .inr (.inl h)
      · rcases List.mem_cons.1 h1 with rfl | h1
        · exact .inl h2
        · exact .inr (.inr ⟨r', h1, h2⟩)
theorem evDraw_run {P : Program} (hm : P.follows .mixedOrders = true) (hn : NameOk P) {call : Caller} (hc : CallOk P call) {ops : Array Oper} {fr : List SV} {st : St} {x : SX} {fr' : List SV} {st' : St} (h : evDraw P call ops fr st = some (x, fr', st'))
    {A : Nat → Prop} {I : In} {w : World} {a : Act} (hok : Ok P A I st w) (hf : Fr A I fr a) (id : Nat) : (Code.region id ops true).wp P (Res P A I st w x fr' st') a w := by
  unfold evDraw at h
  cases hs : statB ops
  · rw [hs] at h; cases h
  rw [hs, cond_true] at h
  split at h
  case h_2 => cases h
  rename_i rs hrs
  cases hd : rs.all (dyn1 P ops (masks ops.toList []) fr rs)
  · rw [hd] at h; cases h
  rw [hd, cond_true] at h
  cases h
  unfold statB at hs
  rw [Bool.and_eq_true] at hs
  have back : ∀ i o, ops.toList[i]? = some o → ∀ e ∈ o.after, Region.binds .any e = true → e.on < i := fun i o ho e he hb => by
    have := backB_spec hs.1 i o ho e he hb
    omega
  have hsz : ops.toList.length = ops.size := Array.length_toList
  have htl : ∀ (i : Nat), ops.toList[i]? = ops[i]? := fun i => Array.getElem?_toList
  have alt := fun i j (hi : i < ops.size) => ancM_lt back i j (by rw [hsz]; exact hi)
  obtain ⟨nx', hsp, hlen⟩ := evD_spec (l := ops.toList) (nx0 := st.nx) hrs rfl rfl rfl
  have hnx : nx' = lastN st.nx rs := by
    cases rs with
    | nil => exact hsp
    | cons r rs => exact hsp.1
  subst hnx
  simp only [List.length_nil, Nat.zero_add, hsz] at hlen
  have rg := hsp.rng
  have hop : ∀ r ∈ rs, ∃ o, ops[r.i]? = some o ∧ OpF P call ops (masks ops.toList []) fr st.H rs o r := fun r hr => by
    obtain ⟨o, ho, h2⟩ := Sp.op (fun i j hi => ancM_lt back i j hi) hsp r hr
    exact ⟨o, by rw [← htl]; exact ho, h2⟩
  have ap2 : ∀ r ∈ rs, ∀ r' ∈ rs, r.i ≠ r'.i → ∀ o, ops[r.i]? = some o → (ancM (masks ops.toList []) r.i r'.i = true ∨ dstOk r'.ds (o.looksAt ops) = true) ∧ dstNe r.ds r'.ds = true := fun r hr r' hr' hne o ho => by
    obtain ⟨o2, ho2, h2⟩ := hop r hr
    rw [ho] at ho2
    cases ho2
    obtain ⟨o', ho', h2'⟩ := hop r' hr'
    have a1 := apsB_spec hs.2 r.i o (by rw [htl]; exact ho)
    rw [Nat.zero_add] at a1
    have a2 := apB_spec a1 r'.i o' (by rw [htl]; exact ho') (by omega)
    rw [Nat.zero_add] at a2
    rw [h2.ds, h2'.ds]
    exact a2
  have hdyn : ∀ r ∈ rs, ∀ o, ops[r.i]? = some o → (wantS ops o (mergeF (ancM (masks ops.toList []) r.i) fr rs) = some true → freeB P o (mergeF (ancM (masks ops.toList []) r.i) fr rs) (forb (masks ops.toList []) r.i rs) = true) ∧
      (∀ id ∈ forb (masks ops.toList []) r.i rs, ¬ (r.a ≤ id ∧ id < r.b)) ∧ ∀ id ∈ r.W, id ∉ forb (masks ops.toList []) r.i rs ∧ id < r.b := fun r hr o ho => by
    have := List.all_eq_true.1 hd r hr
    unfold dyn1 at this
    rw [ho] at this
    simp only [Bool.and_eq_true] at this
    obtain ⟨⟨d1, d2⟩, d3⟩ := this
    refine ⟨fun hw => by rw [hw] at d1; exact d1, fun id hid hx => ?_, fun id hid => ?_⟩
    · have := List.all_eq_true.1 d2 id hid
      rw [Bool.not_eq_true', Bool.and_eq_false_iff] at this
      rcases this with h | h
      · rw [← Bool.not_eq_true, Nat.ble_eq] at h; exact h hx.1
      · rw [← Bool.not_eq_true] at h; exact h (by rw [Nat.blt, Nat.ble_eq]; exact hx.2)
    · have := List.all_eq_true.1 d3 id hid
      rw [Bool.and_eq_true, Bool.not_eq_true'] at this
      refine ⟨fun hf => ?_, Nat.le_of_ble_eq_true this.2⟩
      rw [memN_iff.2 hf] at this
      cases this.1
  have cx : Cx P call ops (masks ops.toList []) fr st A I w.drew rs (lastN st.nx rs) := {
    hn := hn
    hc := hc
    hok := hok.same ((Chg.refl _ w).drew)
    hfr := hf.ok
    tr := fun i k j hi => ancM_trans back i k j (by rw [hsz]; exact hi)
    lt := alt
    rg := rg
    len := hlen
    op := hop
    ap := fun r hr r' hr' hne o ho hna d hds hmem => by
      have := (ap2 r hr r' hr' hne o ho).1
      rw [hna] at this
      rcases this with h | h
      · cases h
      · rw [hds] at h
        simp only [dstOk] at h
        rw [memN_iff.2 hmem] at h
        cases h
    dd := fun r hr r' hr' hne hd0 he => by
      obtain ⟨o, ho, _⟩ := hop r hr
      have := (ap2 r hr r' hr' (fun e => hne e.symm) o ho).2
      rw [he] at this
      cases hds : r.ds with
      | none => exact hd0 hds
      | some d =>
        rw [hds] at this
        simp only [dstNe, beq_t] at this
        cases this
    free := fun r hr o ho hw => (hdyn r hr o ho).1 hw
    sep := fun r hr => by
      obtain ⟨o, ho, _⟩ := hop r hr
      exact (hdyn r hr o ho).2 }
  refine wp_region_any hm ?_
  have hl0 : ∀ k, (Array.replicate ops.size false).getD k false = false := fun k => by
    simp only [Array.getD_eq_getD_getElem?, Array.getElem?_replicate]
    split <;> rfl
  have start : Iv P ops (masks ops.toList []) fr st A I w.drew rs (lastN st.nx rs) (fun k => (Array.replicate ops.size false).getD k false) a w.drew I := by
    have e1 := mergeH_none (L := fun k => (Array.replicate ops.size false).getD k false) (H := st.H) (rs := rs) fun r _ => hl0 r.i
    have e2 := mergeF_none (L := fun k => (Array.replicate ops.size false).getD k false) (fr := fr) (rs := rs) fun r _ => hl0 r.i
    refine ⟨fun _ _ => ⟨rfl, rfl, rfl⟩, rfl, hf.defers, by rw [e2]; exact hf.tmps, fun r hr hl => ?_, ?_, Chg.refl _ _, fun id hid hl => ?_⟩
    · have hl := (hl0 r.i).symm.trans hl; cases hl
    · rw [e1]
      have ok := cx.hok
      refine ⟨fun i hi => ?_, fun k o ho => ?_, ok.real, ok.inj, ok.val⟩
      · rcases hi with hi | ⟨r, _, hl, _⟩
        · exact Nat.lt_of_lt_of_le (ok.lt i hi) rg.le
        · have hl := (hl0 r.i).symm.trans hl; cases hl
      · exact ⟨.inl (ok.key k o ho).1, SO.ok_mono (fun i hi => .inl hi) (ok.key k o ho).2⟩
    · rw [e1] at hl
      exact absurd (cx.hok.live_lt hl) (by omega)
  refine wpAny_inv (fun i o ho => back i o (by rw [htl]; exact ho)) (fun L a' w' => ∃ I', Iv P ops (masks ops.toList []) fr st A I w.drew rs (lastN st.nx rs) L a' w' I') ?_ ?_ _ _ _ _ ?_ (by simp) (fun k ok hk => by rw [hl0] at hk; cases hk) ⟨I, start⟩
  · intro L i o a' w' ho hL hbd hcl hdeps ⟨I', hI⟩
    have hcl' : ∀ k o, L k = true → ops.toList[k]? = some o → ∀ e ∈ o.after, Region.binds .any e = true → L e.on = true := fun k o hk hko => hcl k o hk (by rw [← htl]; exact hko)
    have hclos : ∀ k j, L k = true → ancM (masks ops.toList []) k j = true → L j = true := fun k j hk hkj => by
      have hkn := hbd k hk
      have hko : ops.toList[k]? = some ops[k] := by rw [htl]; exact Array.getElem?_eq_getElem hkn
      exact ancM_closed back hcl' k j _ hko (hcl' k _ hk hko) hkj
    exact hI.step cx ho hL (fun j hj => ancM_closed back hcl' i j o (by rw [htl]; exact ho) hdeps hj) (fun k hk => by
      rw [← Bool.not_eq_true]
      intro he
      rw [hclos k i hk he] at hL
      cases hL) hclos
  · intro L a' w' hall ⟨I', hI⟩
    have hlr : ∀ r ∈ rs, L r.i = true := fun r hr => hall _ (by rw [← hlen]; exact (rg.rng r hr).1)
    have e1 : mergeH L st.H rs = mergeH (fun _ => true) st.H rs := mergeH_same hlr
    have e2 : mergeF L fr rs = mergeF (fun _ => true) fr rs := mergeF_same hlr
    have hiff : ∀ x, AL A rs L x ↔ up A st.nx (lastN st.nx rs) x := fun x => by
      constructor
      · rintro (hx | ⟨r, hr, _, hx⟩)
        · exact .inl hx
        · have := rg.rng r hr
          exact .inr ⟨by omega, by omega⟩
      · rintro (hx | hx)
        · exact .inl hx
        · obtain ⟨r, hr, hx'⟩ := rg.cover x hx.1 hx.2
          exact .inr ⟨r, hr, hlr r hr, hx'⟩
    refine ⟨I', ⟨rg.le, hI.ext, hI.val, (hI.chg).undrew, fun k hk hw => ?_, fun k hk => mem_allW.2 (.inl hk), fun k hk hl => ?_, fun k hk h0 => ?_, ?_⟩, ⟨hI.df, by rw [← e2]; exact hI.tmps, ?_⟩, rfl⟩
    · have : look (mergeH (fun _ => true) st.H rs) k = look (mergeH (fun _ => false) st.H rs) k := mergeH_congr fun r hr _ => by
        rw [← Bool.not_eq_true, RR.dom_iff]
        rintro (hd | hd)
        · exact hw (mem_allW.2 (.inr ⟨r, hr, hd⟩))
        · have := (rg.rng r hr).2.1; omega
      exact this.trans (by rw [mergeH_none fun _ _ => rfl])
    · have hl : look (mergeH (fun _ => true) st.H rs) k ≠ none := hl
      rw [← e1] at hl
      rcases hI.new k hk hl with hq | ⟨k0, q1, q2, q3⟩
      · exact .inl hq
      · exact .inr ⟨k0, q1, by rw [← e1]; exact q2, q3⟩
    · show look (mergeH (fun _ => true) st.H rs) k = none
      rw [← e1]
      exact hI.dead (fun _ h => h) hk h0
    · have := hI.ok
      rw [e1] at this
      have := this.congr hiff
      exact ⟨this.lt, this.key, this.real, this.inj, this.val⟩
    · refine mergeF_mem (okL_mono (fun x hx => .inl hx) _ (okL_agr ⟨fun i hi => hI.ext i (.inl (hok.lt i hi)), hI.val⟩ _ hf.ok)) fun r hr _ => ok_mono (fun x hx => (hiff x).1 ?_) _ (hI.own r hr (hlr r hr)).1
      rcases hx with hx | hx
      · refine AL_mono (fun k hk => hall k ?_) hx
        have := alt r.i k (by rw [← hlen]; exact (rg.rng r hr).1) hk
        have := (rg.rng r hr).1
        omega
      · exact .inr ⟨r, hr, hlr r hr, hx⟩
  · unfold cntU
    rw [List.countP_eq_length.2 fun k _ => by rw [hl0]; rfl, List.length_range]
end Go.Ev
