/-
  The evaluator: maps whose keys are known. No program is named here. No conditions.
-/
import Derived.Test.YtopkdiiigidfdaaGreatEvJ
namespace Go.Ev
open Go.RowKit Go.Al
set_option linter.unusedVariables false

theorem runP_bind {P : Program} {α β : Type} : ∀ {s : Sem α} {f : α → Sem β} {b : β}, runP P (s >>= f) = some b → ∃ a, runP P s = some a ∧ runP P (f a) = some b
  | .pure a, f, b, h => ⟨a, rfl, h⟩
  | .program k, f, b, h => by
    have h : runP P ((k P) >>= f) = some b := h
    obtain ⟨a, h1, h2⟩ := runP_bind h
    exact ⟨a, h1, h2⟩
  | .load .., f, b, h => by cases h
  | .store .., f, b, h => by cases h
  | .new .., f, b, h => by cases h
  | .shape .., f, b, h => by cases h
  | .freeze .., f, b, h => by cases h
  | .frozen .., f, b, h => by cases h
  | .getObj .., f, b, h => by cases h
  | .setObj .., f, b, h => by cases h
  | .choose .., f, b, h => by cases h
  | .sys .., f, b, h => by cases h
  | .mark .., f, b, h => by cases h
  | .halt .., f, b, h => by cases h
/-- an entry of which only the key counts -/
def dm (k : Value) : MapEntry := ⟨k, .nilFunc, 0⟩
theorem findNow_dm (kind : TypeDesc) (k : Value) : ∀ (es : List MapEntry) (i : Nat), Instr.findNow kind k (es.map fun e => dm e.key) i = (Instr.findNow kind k es i).map fun o => o.map fun x => (x.1, .nilFunc)
  | [], i => rfl
  | e :: es, i => by
    simp only [List.map_cons, Instr.findNow, dm]
    split
    · rfl
    · exact findNow_dm kind k es (i + 1)
    · rfl
theorem findNow_at (kind : TypeDesc) (k : Value) : ∀ (es : List MapEntry) (i j : Nat) (v : Value), Instr.findNow kind k es i = some (some (j, v)) → i ≤ j ∧ (es[j - i]?).map (·.val) = some v
  | [], i, j, v, h => by cases h
  | e :: es, i, j, v, h => by
    simp only [Instr.findNow] at h
    split at h
    · cases h; exact ⟨Nat.le_refl _, by simp⟩
    · have := findNow_at kind k es (i + 1) j v h
      refine ⟨by omega, ?_⟩
      rw [show j - i = (j - (i + 1)) + 1 by omega]
      simpa using this.2
    · cases h
theorem findAsking_dm {P : Program} (kt : TypeId) (k : Value) : ∀ (es : List MapEntry) (i : Nat) (o : Option (Nat × Value)), runP P (Instr.findAsking kt k (es.map fun e => dm e.key) i) = some o →
    ∃ r, (∀ w, (Instr.findAsking kt k es i).run P w = .ok r w) ∧ r.map (·.1) = o.map (·.1) ∧ ∀ j v, r = some (j, v) → i ≤ j ∧ (es[j - i]?).map (·.val) = some v
  | [], i, o, h => by
    cases h
    exact ⟨none, fun w => rfl, rfl, fun j v e => by cases e⟩
  | e :: es, i, o, h => by
    simp only [List.map_cons, Instr.findAsking] at h
    obtain ⟨b, hb, h⟩ := runP_bind h
    simp only [dm] at hb
    cases b
    · simp only [Bool.false_eq_true, if_false] at h
      obtain ⟨r, h1, h2, h3⟩ := findAsking_dm kt k es (i + 1) o h
      refine ⟨r, fun w => ?_, h2, fun j v e => ?_⟩
      · simp [Instr.findAsking, runP_run hb w, h1 w]
      · have := h3 j v e
        refine ⟨by omega, ?_⟩
        rw [show j - i = (j - (i + 1)) + 1 by omega]
        simpa using this.2
    · simp only [if_true] at h
      cases h
      refine ⟨some (i, e.val), fun w => ?_, rfl, fun j v e => ?_⟩
      · simp [Instr.findAsking, runP_run hb w]
      · cases e; exact ⟨Nat.le_refl _, by simp⟩
/-- where a key stands among others -/
def findS (P : Program) (kt : TypeId) (k : Value) (ks : List Value) : Option (Option Nat) :=
  match runP P (Instr.findKey kt k (ks.map dm)) with
  | some o => some (o.map (·.1))
  | none => none
theorem findS_run {P : Program} {kt : TypeId} {k : Value} {es : List MapEntry} {o : Option Nat} (h : findS P kt k (es.map (·.key)) = some o) : ∃ r, (∀ w, (Instr.findKey kt k es).run P w = .ok r w) ∧ r.map (·.1) = o ∧ ∀ j v, r = some (j, v) → (es[j]?).map (·.val) = some v := by
  unfold findS at h
  split at h
  · rename_i o' ho
    cases h
    rw [List.map_map] at ho
    unfold Instr.findKey at ho
    obtain ⟨d, hd, ho⟩ := runP_bind ho
    have e1 := findNow_dm d k es 0
    rw [show (dm ∘ fun e : MapEntry => e.key) = fun e => dm e.key from rfl, e1] at ho
    cases hn : Instr.findNow d k es 0 with
    | some r =>
      rw [hn] at ho
      simp only [Option.map_some] at ho
      cases ho
      refine ⟨r, fun w => ?_, by cases r <;> rfl, fun j v e => ?_⟩
      · simp [Instr.findKey, runP_run hd w, hn]
      · subst e
        have := (findNow_at d k es 0 j v hn).2
        simpa using this
    | none =>
      rw [hn] at ho
      simp only [Option.map_none] at ho
      obtain ⟨r, h1, h2, h3⟩ := findAsking_dm kt k es 0 o' ho
      refine ⟨r, fun w => ?_, h2, fun j v e => by simpa using (h3 j v e).2⟩
      simp [Instr.findKey, runP_run hd w, hn, h1 w]
  · cases h
/-- a map's keys -/
def keysS : List (SV × SV × Nat) → Option (List Value) := mapO fun x => toV x.1
theorem keysS_den (I : In) : ∀ {es : List (SV × SV × Nat)} {ks : List Value}, keysS es = some ks → (es.map (entry I)).map (·.key) = ks
  | [], ks, h => by cases h; rfl
  | x :: es, ks, h => by
    obtain ⟨y, m, hy, hm, rfl⟩ := mapO_cons h
    simp only [List.map_cons, keysS_den I hm]
    simp [entry, toV_den I _ _ hy]
def ckKey (P : Program) (empty : Bool) (kt : TypeId) (k : Value) : Bool := match runP P (Instr.checkKey empty 10000 kt k) with
  | some _ => true
  | none => false
theorem ckKey_run {P : Program} {empty : Bool} {kt : TypeId} {k : Value} (h : ckKey P empty kt k = true) (w : World) : (Instr.checkKey empty 10000 kt k).run P w = .ok () w := by
  unfold ckKey at h
  split at h
  · rename_i u hu; exact runP_run hu w
  · cases h
/-- a map and its entries -/
def entS (st : St) : SV → Option (List (SV × SV × Nat))
  | .map none => some []
  | .map (some r) => match look st.H r with
    | some (.map es _) => some es
    | _ => none
  | _ => none
def lookupS (P : Program) (st : St) (t : TypeId) (m k : SV) (ok : Bool) : Option SV :=
  match P.underlying t, entS st m, toV k with
  | some (.map kt e), some es, some kv => match keysS es with
    | some ks => match ckKey P es.isEmpty kt kv, findS P kt kv ks with
      | true, some (some i) => match es[i]? with
        | some x => some (cond ok (.tup [x.2.1, .bool true]) x.2.1)
        | none => none
      | true, some none => match P.info? e with
        | some i => match i.zero with
          | some z => match ofV 6 z with
            | some v => some (cond ok (.tup [v, .bool false]) v)
            | none => none
          | none => none
        | none => none
      | _, _ => none
    | none => none
  | _, _, _ => none
def updateS (P : Program) (st : St) (t : TypeId) (m k v : SV) : Option St :=
  match P.underlying t, m, toV k with
  | some (.map kt e), .map (some r), some kv => match look st.H r with
    | some (.map es clock) => match keysS es with
      | some ks => match ckKey P false kt kv, findS P kt kv ks with
        | true, some (some i) => match ks[i]?, es[i]? with
          | some ok, some x => cond (Instr.sameBits 10000 ok kv) (some ⟨ins st.H r (.map (es.set i (k, v, x.2.2)) clock), st.nx, r :: st.wr⟩) none
          | _, _ => none
        | true, some none => some ⟨ins st.H r (.map (es ++ [(k, v, clock)]) (clock + 1)), st.nx, r :: st.wr⟩
        | _, _ => none
      | none => none
    | _ => none
  | _, _, _ => none
section
variable {P : Program} {A : Nat → Prop} {I : In} {st : St} {w w' : World}
theorem Chg.setObj {w : World} {g : Nat} {ob ob' : Obj} (h : w.heap[g]? = some ob) (h1 : ∀ c t f, ob ≠ .cells c t f) (h2 : ∀ c t f, ob' ≠ .cells c t f) : Chg (fun b => b = g) w { w with heap := w.heap.setIfInBounds g ob' } := by
  have hg := (Array.getElem?_eq_some_iff.1 h).1
  refine ⟨rfl, rfl, rfl, by simp, fun k hk => ?_, fun k hk hn => ?_⟩
  · by_cases e : k = g
    · subst e
      simp only [ty, World.shape?, Array.getElem?_setIfInBounds_self_of_lt hg, h]
      cases ob <;> cases ob' <;> first | rfl | exact absurd rfl (h1 _ _ _) | exact absurd rfl (h2 _ _ _)
    · simp only [ty, World.shape?, Array.getElem?_setIfInBounds_ne (Ne.symm e)]
  · exact Array.getElem?_setIfInBounds_ne (Ne.symm hn)
theorem Ok.map_ (hok : Ok P A I st w) {r : Nat} {es : List (SV × SV × Nat)} {clock : Nat} (h : look st.H r = some (.map es clock)) : w.heap[I.adr r]? = some (.map (es.map (entry I)).toArray clock) ∧ ∀ x ∈ es, x.1.ok A I ∧ x.2.1.ok A I := by
  obtain ⟨ob, h1, h2⟩ := hok.real r _ h
  simp only [Real] at h2
  subst h2
  exact ⟨h1, (hok.key r _ h).2⟩
theorem Mv.map_ (hok : Ok P A I st w) {r : Nat} {es es' : List (SV × SV × Nat)} {clock clock' : Nat} (h : look st.H r = some (.map es clock)) (hes : ∀ x ∈ es', x.1.ok A I ∧ x.2.1.ok A I) :
    Mv P A I st w I ⟨ins st.H r (.map es' clock'), st.nx, r :: st.wr⟩ { w with heap := w.heap.setIfInBounds (I.adr r) (.map (es'.map (entry I)).toArray clock') } := by
  have hm := (hok.map_ h).1
  refine Mv.upd hok h (Chg.setObj hm (fun _ _ _ => by simp) (fun _ _ _ => by simp)) ?_ hes rfl
  exact Array.getElem?_setIfInBounds_self_of_lt (Array.getElem?_eq_some_iff.1 hm).1
theorem Ok.getMap (hok : Ok P A I st w) {r : Nat} {es : List (SV × SV × Nat)} {clock : Nat} (h : look st.H r = some (.map es clock)) : (getObj (I.adr r)).run P w = .ok (.map (es.map (entry I)).toArray clock) w := by
  simp [getObj, Sem.run, (hok.map_ h).1]
theorem Ok.setMap (hok : Ok P A I st w) {r : Nat} {es : List (SV × SV × Nat)} {clock : Nat} (h : look st.H r = some (.map es clock)) (ob : Obj) : (setObj (I.adr r) ob).run P w = .ok () { w with heap := w.heap.setIfInBounds (I.adr r) ob } := by
  simp [setObj, Sem.run, (hok.map_ h).1]
theorem entS_cases {m : SV} {es : List (SV × SV × Nat)} (h : entS st m = some es) : (m = .map none ∧ es = []) ∨ ∃ r clock, m = .map (some r) ∧ look st.H r = some (.map es clock) := by
  unfold entS at h
  split at h
  · cases h; exact .inl ⟨rfl, rfl⟩
  · rename_i r
    split at h
    · rename_i es' clock hl
      cases h
      exact .inr ⟨r, clock, rfl, hl⟩
    · cases h
  · cases h
theorem lookupS_run (hok : Ok P A I st w) {t : TypeId} {m k v : SV} {ok : Bool} (h : lookupS P st t m k ok = some v) : (Instr.lookup t (m.den I) (k.den I) ok).run P w = .ok (v.den I) w ∧ v.ok A I := by
  unfold lookupS at h
  split at h
  · rename_i kt e es kv hu hes hk
    have hk := toV_den I _ _ hk
    have hcs := entS_cases hes
    have hoks : ∀ x ∈ es, x.1.ok A I ∧ x.2.1.ok A I := by
      rcases hcs with ⟨_, rfl⟩ | ⟨r, clock, _, hl⟩
      · intro x hx; cases hx
      · exact (hok.map_ hl).2
    split at h
    · rename_i ks hks
      have hkd := keysS_den I hks
      have hemp : (es.map (entry I)).toArray.isEmpty = es.isEmpty := by cases es <;> rfl
      split at h
      · rename_i i hck hfi
        rw [← hkd] at hfi
        obtain ⟨r, f1, f2, f3⟩ := findS_run hfi
        split at h
        · rename_i x hx
          cases h
          cases r with
          | none => cases f2
          | some jv =>
            obtain ⟨j, v⟩ := jv
            cases f2
            have hv := f3 j v rfl
            simp only [List.getElem?_map, hx, Option.map_some, Option.some.injEq, entry] at hv
            subst hv
            have hxo := hoks x (List.mem_of_getElem? hx)
            constructor
            · rcases hcs with ⟨rfl, rfl⟩ | ⟨r', clock, rfl, hl⟩
              · cases hx
              · have hemp' : ((es.map (entry I)).toArray.isEmpty) = es.isEmpty := hemp
                cases ok <;> simp [Instr.lookup, run_underlying hu, SV.den, denL, hok.getMap hl, hk, ckKey_run hck, f1]
            · cases ok
              · exact hxo.2
              · exact ⟨hxo.2, trivial, trivial⟩
        · cases h
      · rename_i hck hfi
        rw [← hkd] at hfi
        obtain ⟨r, f1, f2, f3⟩ := findS_run hfi
        split at h
        · rename_i i hi
          split at h
          · rename_i z hz
            split at h
            · rename_i u hu'
              cases h
              cases r with
              | some jv => cases f2
              | none =>
                have hd := ofV_den (A := A) (I := I) 6 _ _ hu'
                have hzv : (zeroValue e).run P w = .ok (u.den I) w := by simp [zeroValue, typeInfo, hi, hz, hd.1]
                constructor
                · rcases hcs with ⟨rfl, rfl⟩ | ⟨r', clock, rfl, hl⟩
                  · cases ok <;> simp [Instr.lookup, run_underlying hu, SV.den, denL, hk, hzv, show (Instr.checkKey true 10000 kt kv).run P w = .ok () w from ckKey_run hck w, show (Instr.findKey kt kv []).run P w = .ok none w from f1 w]
                  · cases ok <;> simp [Instr.lookup, run_underlying hu, SV.den, denL, hok.getMap hl, hk, ckKey_run hck, f1, hzv]
                · cases ok
                  · exact hd.2
                  · exact ⟨hd.2, trivial, trivial⟩
            · cases h
          · cases h
        · cases h
      · cases h
    · cases h
  · cases h
theorem set_entries (I : In) (es : List (SV × SV × Nat)) (i : Nat) (x : SV × SV × Nat) (y : SV × SV × Nat) (hx : es[i]? = some x) (f : MapEntry → MapEntry) (hf : f (entry I x) = entry I y) : ((es.map (entry I)).toArray.modify i f) = ((es.set i y).map (entry I)).toArray := by
  apply Array.ext'
  have hlt := (List.getElem?_eq_some_iff.1 hx).1
  rw [Array.toList_modify]
  simp only [List.map_set]
  apply List.ext_getElem?
  intro k
  by_cases h : i = k
  · subst h
    have hx' : es[i] = x := by rw [List.getElem?_eq_getElem hlt] at hx; exact Option.some.inj hx
    simp [hlt, hx', hf]
  · simp [h]
theorem updateS_run (hok : Ok P A I st w) {t : TypeId} {m k v : SV} {st' : St} (h : updateS P st t m k v = some st') (hko : k.ok A I) (hvo : v.ok A I) : ∃ w', (Instr.mapUpdate t (m.den I) (k.den I) (v.den I)).run P w = .ok () w' ∧ Mv P A I st w I st' w' := by
  unfold updateS at h
  split at h
  · rename_i kt e r kv hu hk
    have hkd := toV_den I _ _ hk
    split at h
    · rename_i es clock hl
      have hoks := (hok.map_ hl).2
      split at h
      · rename_i ks hks
        have hkd' := keysS_den I hks
        split at h
        · rename_i i hck hfi
          have hfi' := hfi
          rw [← hkd'] at hfi
          obtain ⟨r', f1, f2, f3⟩ := findS_run hfi
          split at h
          · rename_i ok x hok' hx
            cases hb : Instr.sameBits 10000 ok kv
            · rw [hb] at h; cases h
            rw [hb] at h
            cases h
            have hokey : ok = x.1.den I := by
              rw [← hkd', List.getElem?_map, List.getElem?_map, hx] at hok'
              simp [entry] at hok'
              exact hok'.symm
            have hset := set_entries I es i x (k, v, x.2.2) hx (fun e => { e with key := kv, val := v.den I }) (by simp [entry, hkd])
            refine ⟨_, ?_, Mv.map_ hok hl (es' := es.set i (k, v, x.2.2)) (clock' := clock) fun y hy => ?_⟩
            · cases r' with
              | none => cases f2
              | some jv =>
                obtain ⟨j, v'⟩ := jv
                obtain rfl : i = j := (Option.some.inj f2).symm
                have hst : Instr.keyThatStays ok kv = pure kv := by unfold Instr.keyThatStays; rw [hb]; rfl
                have hge : ((es.map (entry I)).toArray[i]?).map (·.key) = some ok := by
                  rw [List.getElem?_toArray, List.getElem?_map, hx]
                  simp [entry, hokey]
                simp only [SV.den, Option.map_some, Instr.mapUpdate, Sem.run_bind, run_underlying hu, Result.andThen_ok, hok.getMap hl, hkd, ckKey_run hck, f1, hge, Option.getD_some, hst, Sem.run_pure, hok.setMap hl, hset]
            · rcases List.mem_or_eq_of_mem_set hy with h1 | rfl
              · exact hoks y h1
              · exact ⟨hko, hvo⟩
          · cases h
        · rename_i hck hfi
          rw [← hkd'] at hfi
          obtain ⟨r', f1, f2, f3⟩ := findS_run hfi
          cases h
          refine ⟨_, ?_, Mv.map_ hok hl (es' := es ++ [(k, v, clock)]) (clock' := clock + 1) fun y hy => ?_⟩
          · cases r' with
            | some jv => cases f2
            | none =>
              simp only [SV.den, Option.map_some, Instr.mapUpdate, Sem.run_bind, run_underlying hu, Result.andThen_ok, hok.getMap hl, hkd, ckKey_run hck, f1, hok.setMap hl]
              simp [entry, hkd]
          · rcases List.mem_append.1 hy with h1 | h1
            · exact hoks y h1
            · rcases List.mem_cons.1 h1 with rfl | h1
              · exact ⟨hko, hvo⟩
              · cases h1
        · cases h
      · cases h
    · cases h
  · cases h
def lenMapS (P : Program) (st : St) (t : TypeId) (m : SV) : Option SV :=
  match P.underlying t, m with
  | some (.map _ _), .map (some r) => match look st.H r with
    | some (.map es _) => some (intOf es.length)
    | _ => none
  | _, _ => none
theorem lenMapS_run (hok : Ok P A I st w) {t ty : TypeId} {ts : Array TypeId} (ht : ts[0]? = some t) {m v : SV} (h : lenMapS P st t m = some v) : (Builtin.len_ ts ty #[m.den I]).run P w = .ok (v.den I) w ∧ v.ok A I := by
  unfold lenMapS at h
  split at h
  · rename_i kt e r hu
    split at h
    · rename_i es clock hl
      cases h
      exact ⟨by simp [Builtin.len_, ht, run_underlying hu, SV.den, hok.getMap hl, intOf, goInt], trivial⟩
    · cases h
  · cases h
def deleteS (P : Program) (st : St) (t : TypeId) (m k : SV) : Option St :=
  match P.underlying t, m, toV k with
  | some (.map kt e), .map (some r), some kv => match look st.H r with
    | some (.map es clock) => match keysS es with
      | some ks => match ckKey P es.isEmpty kt kv, findS P kt kv ks with
        | true, some (some i) => some ⟨ins st.H r (.map (es.eraseIdx i) clock), st.nx, r :: st.wr⟩
        | true, some none => some ⟨ins st.H r (.map es clock), st.nx, r :: st.wr⟩
        | _, _ => none
      | none => none
    | _ => none
  | _, _, _ => none
theorem deleteS_run (hok : Ok P A I st w) {t ty : TypeId} {ts : Array TypeId} (ht : ts[0]? = some t) {m k : SV} {st' : St} (h : deleteS P st t m k = some st') : ∃ w', (Builtin.delete_ ts ty #[m.den I, k.den I]).run P w = .ok (.tuple #[]) w' ∧ Mv P A I st w I st' w' := by
  unfold deleteS at h
  split at h
  · rename_i kt e r kv hu hk
    have hkd := toV_den I _ _ hk
    split at h
    · rename_i es clock hl
      have hoks := (hok.map_ hl).2
      have hemp : (es.map (entry I)).toArray.isEmpty = es.isEmpty := by cases es <;> rfl
      split at h
      · rename_i ks hks
        have hkd' := keysS_den I hks
        split at h
        · rename_i i hck hfi
          rw [← hkd'] at hfi
          obtain ⟨r', f1, f2, f3⟩ := findS_run hfi
          cases h
          refine ⟨_, ?_, Mv.map_ hok hl (es' := es.eraseIdx i) (clock' := clock) fun y hy => hoks y (List.mem_of_mem_eraseIdx hy)⟩
          cases r' with
          | none => cases f2
          | some jv =>
            obtain ⟨j, v'⟩ := jv
            obtain rfl : i = j := (Option.some.inj f2).symm
            have hlt : i < es.length := by
              have := f3 i v' rfl
              simp only [List.getElem?_map, Option.map_eq_some_iff] at this
              obtain ⟨_, ⟨_, h1, _⟩, _⟩ := this
              exact (List.getElem?_eq_some_iff.1 h1).1
            simp [SV.den, Builtin.delete_, ht, run_underlying hu, hok.getMap hl, hkd, ckKey_run hck, f1, hok.setMap hl, List.eraseIdx_eq_take_drop_succ]
        · rename_i hck hfi
          rw [← hkd'] at hfi
          obtain ⟨r', f1, f2, f3⟩ := findS_run hfi
          cases h
          refine ⟨_, ?_, Mv.map_ hok hl (es' := es) (clock' := clock) hoks⟩
          cases r' with
          | some jv => cases f2
          | none => simp [SV.den, Builtin.delete_, ht, run_underlying hu, hok.getMap hl, hkd, ckKey_run hck, f1, hok.setMap hl]
        · cases h
      · cases h
    · cases h
  · cases h
def clearMapS (P : Program) (st : St) (t : TypeId) (m : SV) : Option St :=
  match P.underlying t, m with
  | some (.map _ _), .map (some r) => match look st.H r with
    | some (.map es clock) => some ⟨ins st.H r (.map [] clock), st.nx, r :: st.wr⟩
    | _ => none
  | _, _ => none
theorem clearMapS_run (hok : Ok P A I st w) {t ty : TypeId} {ts : Array TypeId} (ht : ts[0]? = some t) {m : SV} {st' : St} (h : clearMapS P st t m = some st') : ∃ w', (Builtin.clear_ ts ty #[m.den I]).run P w = .ok (.tuple #[]) w' ∧ Mv P A I st w I st' w' := by
  unfold clearMapS at h
  split at h
  · rename_i kt e r hu
    split at h
    · rename_i es clock hl
      cases h
      refine ⟨_, ?_, Mv.map_ hok hl (es' := []) (clock' := clock) fun y hy => by cases hy⟩
      simp [SV.den, Builtin.clear_, ht, run_underlying hu, hok.getMap hl, hok.setMap hl]
    · cases h
  · cases h
def newMapS (st : St) : SV × St := (.map (some st.nx), ⟨ins st.H st.nx (.map [] 0), st.nx + 1, st.wr⟩)
theorem newMapS_run (hok : Ok P A I st w) : Mv P A I st w (I.put st.nx w.heap.size 0) (newMapS st).2 (w.alloc (.map #[] 0)) ∧ (newMapS st).1.den (I.put st.nx w.heap.size 0) = .map (some w.heap.size) ∧ (newMapS st).1.ok (up A st.nx (st.nx + 1)) (I.put st.nx w.heap.size 0) := by
  refine ⟨Mv.alloc hok 0 (Chg.refl _ w) rfl (fun x hx => by cases hx) rfl, ?_, fun q hq => ?_⟩
  · simp [newMapS, SV.den, In.put]
  · cases hq
    exact up_succ _
end
end Go.Ev
