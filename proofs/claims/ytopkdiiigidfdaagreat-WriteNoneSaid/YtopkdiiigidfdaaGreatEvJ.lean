/-
  The evaluator: append, copy, bytes as a string. No program is named here. No conditions.
-/
import Derived.Test.YtopkdiiigidfdaaGreatEvI
import Derived.Deep.AppendSrc
import Derived.Deep.Upon
namespace Go.Ev
open Go.RowKit Go.Al
set_option linter.unusedVariables false

/-- what is appended or copied: how many, and their cells -/
def srcS (P : Program) (st : St) (sz : Nat) (tx : TypeId) (x : SV) : Option (Nat × List SV) :=
  match P.underlying tx, x with
  | some (.slice _), .slice none 0 _ => some (0, [])
  | some (.slice _), .esl _ => some (0, [])
  | some (.slice _), .slice (some (id, off)) m _ => match look st.H id with
    | some (.cells e cs ext) => cond (Nat.ble (off + m * sz) cs.length && ((cs.drop off).take (m * sz)).all oneB) (some (m, (cs.drop off).take (m * sz))) none
    | _ => none
  | some .string, .str s => cond (Nat.beq sz 1) (some (s.length, s.map fun b => .int .u8 (b.toNat : Int))) none
  | _, _ => none
def appendS (P : Program) (st : St) (t tx : TypeId) (s x : SV) : Option (SV × St) :=
  match P.underlying t with
  | some (.slice e) => match P.info? e with
    | some i => match srcS P st i.size tx x with
      | some (0, _) => match s with
        | .slice p n c => some (.slice p n c, st)
        | .esl j => some (.esl j, st)
        | _ => none
      | some (m + 1, news) => match s with
        | .slice none 0 (.lit 0) => match i.zero with
          | some z => cond (Nat.beq z.cells.toList.length i.size && Nat.ble (m + 1) 1048576 && Nat.ble ((m + 1) * i.bytes) 140737488355328) (some (.slice (some (st.nx, 0)) (m + 1) (.sym st.nx 0), ⟨ins st.H st.nx (.cells e news (some st.nx)), st.nx + 1, st.wr⟩)) none
          | none => none
        | .slice (some (id, off)) n c => match look st.H id, i.zero with
          | some (.cells e' cs ext), some z => cond (Nat.beq z.cells.toList.length i.size && Nat.ble (n + (m + 1)) 1048576 && Nat.ble ((n + (m + 1)) * i.bytes) 140737488355328) (match c with
            | .lit c => cond (Nat.ble (n + (m + 1)) c)
              (cond (Nat.ble (off + n * i.size + news.length) cs.length) (some (.slice (some (id, off)) (n + (m + 1)) (.lit c), ⟨ins st.H id (.cells e' (setR cs (off + n * i.size) news) ext), st.nx, id :: st.wr⟩)) none)
              (cond (Nat.ble (off + n * i.size) cs.length) (some (.slice (some (st.nx, 0)) (n + (m + 1)) (.sym st.nx 0), ⟨ins st.H st.nx (.cells e ((cs.drop off).take (n * i.size) ++ news) (some st.nx)), st.nx + 1, st.wr⟩)) none)
            | .sym j k => match ext with
              | some j' => cond (Nat.beq j j' && Nat.beq off (k * i.size) && Nat.beq e' e && Nat.ble 1 i.size) (cond (Nat.ble (off + (n + (m + 1)) * i.size) cs.length)
                (some (.slice (some (id, off)) (n + (m + 1)) (.sym j k), ⟨ins st.H id (.cells e' (setR cs (off + n * i.size) news) ext), st.nx, id :: st.wr⟩))
                (cond (Nat.beq k 0 && Nat.beq (n * i.size) cs.length) (some (.slice (some (st.nx, 0)) (n + (m + 1)) (.sym st.nx 0), ⟨ins (del st.H id) st.nx (.cells e (cs ++ news) (some st.nx)), st.nx + 1, id :: st.wr⟩)) none)) none
              | none => none) none
          | _, _ => none
        | _ => none
      | none => none
    | none => none
  | _ => none
section
variable {P : Program} {A : Nat → Prop} {I : In} {st : St} {w w' : World}
theorem Mv.kill (hok : Ok P A I st w) {id : Nat} (hl : look st.H id ≠ none) : Mv P A I st w I ⟨del st.H id, st.nx, id :: st.wr⟩ w := by
  have hlive : ∀ k, look (del st.H id) k ≠ none → look st.H k ≠ none ∧ ¬ id = k := fun k h => by
    rw [look_del] at h
    by_cases e : id = k
    · rw [if_pos e] at h; exact absurd rfl h
    · rw [if_neg e] at h; exact ⟨h, e⟩
  have hsome : ∀ k o, look (del st.H id) k = some o → look st.H k = some o := fun k o h => by
    have := (hlive k (by rw [h]; simp)).2
    rwa [look_del, if_neg this] at h
  refine ⟨Nat.le_refl _, fun _ _ => ⟨rfl, rfl, rfl⟩, rfl, Chg.refl _ w, fun k hk hw => ?_, fun k hk => List.mem_cons_of_mem _ hk, fun k hk h => absurd (hok.live_lt (hlive k h).1) (by omega), fun k hk h0 => ?_, ⟨fun i hi => hi.elim (hok.lt i) fun h => h.2, fun k o ho => ?_, fun k o ho => hok.real k o (hsome k o ho), fun k k' h1 h2 he => hok.inj _ _ (hlive _ h1).1 (hlive _ h2).1 he, hok.val⟩⟩
  · show look (del st.H id) k = _
    rw [look_del, if_neg (fun e => hw (by subst e; exact List.mem_cons_self ..))]
  · show look (del st.H id) k = _
    rw [look_del, h0]
    simp
  · have := hok.key k o (hsome k o ho)
    exact ⟨.inl this.1, SO.ok_mono (fun i hi => .inl hi) this.2⟩
theorem srcS_run (hok : Ok P A I st w) {sz m : Nat} {tx : TypeId} {x : SV} {news : List SV} (h : srcS P st sz tx x = some (m, news)) : Src P sz tx (x.den I) m (denL I news) w ∧ okL A I news ∧ news.all oneB = true := by
  unfold srcS at h
  split at h
  · rename_i e c hu
    cases h
    exact ⟨Src.ofNil w hu _, trivial, rfl⟩
  · rename_i e j hu
    cases h
    refine ⟨⟨.inl ⟨_, hu⟩, fun _ => rfl, ?_, ?_, by simp [denL], fun u hu => by cases hu⟩, trivial, rfl⟩
    · simp only [SV.den]
      cases (I.esl j).1 <;> simp [Builtin.firstCells, loadCells, loadCellsFrom, denL]
    · simp only [SV.den]
      cases (I.esl j).1 <;> simp [Builtin.firstCells, loadCells, loadCellsFrom, denL]
  · rename_i e id off n c hu
    split at h
    · rename_i e' cs ext hl
      cases hb : (Nat.ble (off + n * sz) cs.length && ((cs.drop off).take (n * sz)).all oneB)
      · rw [hb] at h; cases h
      · rw [hb] at h
        cases h
        simp only [Bool.and_eq_true] at hb
        have hle := Nat.le_of_ble_eq_true hb.1
        refine ⟨Src.ofSlice w hu _ _ _ _ ?_ (hok.range hl hle) (oneB_den hok hb.2), ((hok.key id _ hl).2.1.drop off).take _, hb.2⟩
        rw [denL_length, List.length_take, List.length_drop]
        omega
    · cases h
  · rename_i s hu
    rw [beq_cond] at h
    split at h
    · rename_i h1
      subst h1
      cases h
      have hd : denL I (s.map fun b => SV.int .u8 (b.toNat : Int)) = byteCells ⟨s.toArray⟩ := by
        rw [denL_map, List.map_map]
        rfl
      rw [hd]
      have := Src.ofString w hu (⟨s.toArray⟩ : ByteArray)
      refine ⟨(by show Src P 1 tx (.string ⟨s.toArray⟩) _ _ w; simpa [ByteArray.size] using this), okL_iff.2 fun v hv => ?_, List.all_eq_true.2 fun v hv => ?_⟩ <;>
        (obtain ⟨b, _, rfl⟩ := List.mem_map.1 hv; first | trivial | rfl)
    · cases h
  · cases h
theorem append_room {t tx e : TypeId} {i : TypeInfo} (ht : P.underlying t = some (.slice e)) (hi : P.info? e = some i) {b off sLen sCap n : Nat} {x : Value} {news : List Value} (hs : Src P i.size tx x n news w) (hroom : sLen + n ≤ sCap)
    (hst : (storeCells ⟨b, off + sLen * i.size, none⟩ news).run P w = .ok () w') (ty : TypeId) :
    (Builtin.append_ #[t, tx] ty #[.slice (some ⟨b, off, none⟩) sLen sCap, x]).run P w = .ok (.slice (some ⟨b, off, none⟩) (sLen + n) sCap) w' := by
  rcases hs.kind with ⟨e', hk⟩ | hk <;> simp [Builtin.append_, run_underlying ht, run_underlying hk, sizeOf, typeInfo, hi, hs.len, hroom, hs.cells, Addr.add_lit, hst]
theorem capOk_len {n : Nat} : ∀ {c : Cap}, capOk A I n c → n ≤ c.den I
  | .lit m, h => h
  | .sym j k, h => by have := h.2; simp only [Cap.den]; omega
theorem grow_size {z : Array Value} {sz k cap : Nat} (hz : z.size = sz) (hk : k ≤ cap) {l : List Value} (hl : l.length = k * sz) : (l ++ (Builtin.zeroCells z (cap - k)).toList).length = cap * sz := by
  have h2 : (Builtin.zeroCells z (cap - k)).toList.length = (cap - k) * z.size := by rw [Array.length_toList, size_zeroCells]
  rw [List.length_append, h2, hl, hz, ← Nat.add_mul]
  congr 1
  omega
theorem grow_run (hok : Ok P A I st w) {t tx e : TypeId} {i : TypeInfo} {z : Value} (ht : P.underlying t = some (.slice e)) (hi : P.info? e = some i) (hz : i.zero = some z) (hzs : z.cells.toList.length = i.size) {base : Option Addr} {sLen sCap m : Nat} {x : Value} {olds news : List SV}
    (hold : (Builtin.firstCells i.size sLen (.slice base sLen sCap)).run P w.drew = .ok (denL I olds).toArray w.drew) (hol : olds.length = sLen * i.size) (hs : Src P i.size tx x m (denL I news) w) (hg : sCap < sLen + m) (h1 : sLen + m ≤ 1048576) (h2 : (sLen + m) * i.bytes ≤ 140737488355328)
    (ho : okL A I olds) (hn : okL A I news) (ty : TypeId) :
    (Builtin.append_ #[t, tx] ty #[.slice base sLen sCap, x]).run P w = .ok ((SV.slice (some (st.nx, 0)) (sLen + m) (.sym st.nx 0)).den (I.put st.nx w.heap.size (grownCap w (sLen + m) sCap e))) (w.drew.alloc (.cells (denL I (olds ++ news) ++ (Builtin.zeroCells z.cells (grownCap w (sLen + m) sCap e - (sLen + m))).toList).toArray e)) ∧
    Mv P A I st w (I.put st.nx w.heap.size (grownCap w (sLen + m) sCap e)) ⟨ins st.H st.nx (.cells e (olds ++ news) (some st.nx)), st.nx + 1, st.wr⟩ (w.drew.alloc (.cells (denL I (olds ++ news) ++ (Builtin.zeroCells z.cells (grownCap w (sLen + m) sCap e - (sLen + m))).toList).toArray e)) ∧
    (SV.slice (some (st.nx, 0)) (sLen + m) (.sym st.nx 0)).ok (up A st.nx (st.nx + 1)) (I.put st.nx w.heap.size (grownCap w (sLen + m) sCap e)) := by
  have hcap := grownCap_ge w (sLen + m) sCap e
  have hagr := In.put_agr hok w.heap.size (grownCap w (sLen + m) sCap e)
  have hon := ho.append hn
  have hlen : (denL I (olds ++ news)).length = (sLen + m) * i.size := by
    have := hs.newsLen
    rw [denL_length] at this ⊢
    rw [List.length_append, hol, this, Nat.add_mul]
  refine ⟨?_, Mv.alloc hok _ ((Chg.refl _ w).drew) rfl ⟨okL_mono (fun i hi => .inl hi) _ (okL_agr hagr _ hon), fun j hj => by cases hj; exact up_succ _⟩ ?_, fun q hq => by cases hq; exact up_succ _, up_succ _, ?_⟩
  · rw [run_append_grow_src w t tx ty e i z ht hi hz base sLen sCap (denL I olds) hold x m (denL I news) hs hg (by omega) (growslice_fits hg h2)]
    simp only [SV.den, Cap.den, Option.map_some, padr, In.put, if_true, Nat.sub_zero]
    congr 3
    apply Array.ext'
    simp [denL_append]
  · refine ⟨(Builtin.zeroCells z.cells (grownCap w (sLen + m) sCap e - (sLen + m))).toList, by rw [denL_agr hagr _ hon], i, hi, ?_⟩
    rw [denL_agr hagr _ hon]
    simp only [In.put, if_true]
    exact grow_size (by rw [← Array.length_toList]; exact hzs) hcap hlen
  · simp only [In.put, if_true]
    omega
theorem appendS_run (hok : Ok P A I st w) {t tx : TypeId} {s x v : SV} {st' : St} (h : appendS P st t tx s x = some (v, st')) (hs : s.ok A I) (ty : TypeId) :
    ∃ I' w', (Builtin.append_ #[t, tx] ty #[s.den I, x.den I]).run P w = .ok (v.den I') w' ∧ Mv P A I st w I' st' w' ∧ v.ok (up A st.nx st'.nx) I' := by
  unfold appendS at h
  split at h
  case h_2 => cases h
  rename_i e ht
  split at h
  case h_2 => cases h
  rename_i i hi
  split at h
  case h_3 => cases h
  · rename_i news hsrc
    obtain ⟨src, hn, h1⟩ := srcS_run hok hsrc
    have hnil : denL I news = [] := List.eq_nil_of_length_eq_zero (by rw [src.newsLen, Nat.zero_mul])
    rw [hnil] at src
    split at h
    · rename_i p n c
      cases h
      exact ⟨I, w, run_append_nothing w t tx ty e i ht hi _ _ _ (capOk_len hs.2) _ src, Mv.refl hok, ok_mono (fun i hi => .inl hi) (.slice p n c) hs⟩
    · rename_i j
      cases h
      exact ⟨I, w, run_append_nothing w t tx ty e i ht hi _ _ _ (Nat.zero_le _) _ src, Mv.refl hok, ok_mono (fun i hi => .inl hi) (.esl j) hs⟩
    · cases h
  · rename_i m news hsrc
    obtain ⟨src, hn, h1⟩ := srcS_run hok hsrc
    have hlen := src.newsLen
    rw [denL_length] at hlen
    split at h
    case h_3 => cases h
    · split at h
      case h_2 => cases h
      rename_i z hz
      cases hb : (Nat.beq z.cells.toList.length i.size && Nat.ble (m + 1) 1048576 && Nat.ble ((m + 1) * i.bytes) 140737488355328)
      · rw [hb] at h; cases h
      rw [hb] at h
      cases h
      simp only [Bool.and_eq_true, Nat.beq_eq] at hb
      obtain ⟨⟨b1, b2⟩, b3⟩ := hb
      have b2 := Nat.le_of_ble_eq_true b2
      have b3 := Nat.le_of_ble_eq_true b3
      have := grow_run hok ht hi hz b1 (base := none) (sLen := 0) (sCap := 0) (olds := []) (news := news) (run_firstCells_none w.drew i.size 0 0 0) (by simp) src (by omega) (by omega) (by simpa using b3) trivial hn ty
      simp only [Nat.zero_add, List.nil_append] at this
      exact ⟨_, _, this⟩
    · rename_i id off n c
      split at h
      case h_2 => cases h
      rename_i e' cs ext z hl hz
      cases hb : (Nat.beq z.cells.toList.length i.size && Nat.ble (n + (m + 1)) 1048576 && Nat.ble ((n + (m + 1)) * i.bytes) 140737488355328)
      · rw [hb] at h; cases h
      rw [hb] at h
      simp only [cond_true] at h
      simp only [Bool.and_eq_true, Nat.beq_eq] at hb
      obtain ⟨⟨b1, b2⟩, b3⟩ := hb
      have b2 := Nat.le_of_ble_eq_true b2
      have b3 := Nat.le_of_ble_eq_true b3
      have hA := hs.1 (id, off) rfl
      have room : ∀ c : Cap, c.den I ≥ n + (m + 1) → off + n * i.size + news.length ≤ cs.length → ∃ w', (Builtin.append_ #[t, tx] ty #[.slice (some ⟨I.adr id, off, none⟩) n (c.den I), x.den I]).run P w = .ok (.slice (some ⟨I.adr id, off, none⟩) (n + (m + 1)) (c.den I)) w' ∧ Mv P A I st w I ⟨ins st.H id (.cells e' (setR cs (off + n * i.size) news) ext), st.nx, id :: st.wr⟩ w' := fun c hc hle => by
        obtain ⟨w', hr, hm⟩ := hok.putC hl hle h1 hn
        exact ⟨w', append_room ht hi src hc hr ty, hm⟩
      have old : off + n * i.size ≤ cs.length → (Builtin.firstCells i.size n (.slice (some ⟨I.adr id, off, none⟩) n (c.den I))).run P w.drew = .ok (denL I ((cs.drop off).take (n * i.size))).toArray w.drew := fun hle => by
        have := (hok.same ((Chg.refl _ w).drew)).loadC (n := n * i.size) hl hle
        simpa [Builtin.firstCells] using this
      split at h
      · rename_i c0
        have hc0 : n ≤ c0 := hs.2
        cases hroom : Nat.ble (n + (m + 1)) c0
        · rw [hroom] at h
          simp only [cond_false] at h
          cases hle : Nat.ble (off + n * i.size) cs.length
          · rw [hle] at h; cases h
          rw [hle] at h
          cases h
          have hle := Nat.le_of_ble_eq_true hle
          have hgt : c0 < n + (m + 1) := by
            rw [← Bool.not_eq_true, Nat.ble_eq] at hroom
            omega
          exact ⟨_, _, grow_run hok ht hi hz b1 (old hle) (by rw [List.length_take, List.length_drop]; omega) src hgt b2 b3 (((hok.key id _ hl).2.1.drop off).take _) hn ty⟩
        · rw [hroom] at h
          simp only [cond_true] at h
          have hroom := Nat.le_of_ble_eq_true hroom
          cases hle : Nat.ble (off + n * i.size + news.length) cs.length
          · rw [hle] at h; cases h
          rw [hle] at h
          cases h
          obtain ⟨w', hr, hm⟩ := room (.lit c0) hroom (Nat.le_of_ble_eq_true hle)
          exact ⟨I, w', hr, hm, fun q hq => (by cases hq; exact .inl hA), hroom⟩
      · rename_i j k
        obtain ⟨hj, hjc⟩ := hs.2
        split at h
        case h_2 => cases h
        rename_i j'
        cases hb : (Nat.beq j j' && Nat.beq off (k * i.size) && Nat.beq e' e && Nat.ble 1 i.size)
        · rw [hb] at h; cases h
        rw [hb] at h
        simp only [cond_true] at h
        simp only [Bool.and_eq_true, Nat.beq_eq] at hb
        obtain ⟨⟨⟨rfl, hoff⟩, rfl⟩, hsz⟩ := hb
        have hsz : 0 < i.size := Nat.le_of_ble_eq_true hsz
        obtain ⟨tail, hh, _, he2⟩ := hok.cells hl
        obtain ⟨i2, hi2, hlen2⟩ := he2 j rfl
        rw [hi] at hi2
        cases hi2
        rw [List.length_append, denL_length] at hlen2
        cases hle : Nat.ble (off + (n + (m + 1)) * i.size) cs.length
        · rw [hle] at h
          simp only [cond_false] at h
          cases hb : (Nat.beq k 0 && Nat.beq (n * i.size) cs.length)
          · rw [hb] at h; cases h
          rw [hb] at h
          cases h
          simp only [Bool.and_eq_true, Nat.beq_eq] at hb
          obtain ⟨rfl, hfull⟩ := hb
          rw [Nat.zero_mul] at hoff
          subst hoff
          by_cases hroom : n + (m + 1) ≤ I.cap j
          · -- in place
            have htot : 0 + n * i.size + 0 + (denL I news).length ≤ (denL I cs ++ tail).length := by
              rw [List.length_append, denL_length, denL_length, hlen2, hlen, Nat.zero_add, Nat.add_zero, ← Nat.add_mul]
              exact Nat.mul_le_mul_right _ hroom
            have hr := run_storeCells_at (P := P) (I.adr id) (0 + n * i.size) e' (denL I news) 0 _ w hh (by simpa using htot) (oneB_den hok h1)
            have hagr := In.put_agr hok (I.adr id) (I.cap j)
            have hon := (hok.key id _ hl).2.1.append hn
            have hrow : (List.take (0 + n * i.size + 0) (denL I cs ++ tail).toArray.toList ++ denL I news ++ List.drop (0 + n * i.size + 0 + (denL I news).length) (denL I cs ++ tail).toArray.toList) = denL I (cs ++ news) ++ tail.drop (denL I news).length := by
              simp only [Nat.add_zero, Nat.zero_add, hfull, denL_append]
              rw [List.take_append_of_le_length (by simp), List.take_of_length_le (by simp), List.drop_append]
              simp
            rw [hrow] at hr
            refine ⟨I.put st.nx (I.adr id) (I.cap j), _, ?_, Mv.merge hok (I.cap j) hl (Go.Proofs.YtopkdiiigidfdaaGreat.Chg.setRow (S := fun b => b = I.adr id) (Chg.refl _ w) (.inl rfl) _) (setRow_heap w _ _ _ e' (0, 0) hh) ⟨okL_mono (fun i hi => .inl hi) _ (okL_agr hagr _ hon), fun q hq => by cases hq; exact up_succ _⟩ ⟨tail.drop (denL I news).length, by rw [denL_agr hagr _ hon], i, hi, ?_⟩, fun q hq => by cases hq; exact up_succ _, up_succ _, ?_⟩
            · have := append_room ht hi src (b := I.adr id) (off := 0) (sLen := n) (sCap := I.cap j) hroom hr ty
              simpa [SV.den, Cap.den, padr, In.put] using this
            · rw [denL_agr hagr _ hon]
              simp only [In.put, if_true, denL_append, List.length_append, denL_length, List.length_drop]
              simp only [List.length_append, denL_length] at htot
              omega
            · simp only [In.put, if_true]
              omega
          · -- anew
            have hk := Mv.kill hok (id := id) (by rw [hl]; simp)
            have src' : Src P i.size tx (x.den I) (m + 1) (denL I news) w := src
            have hfu : ∀ i, A i → up A st.nx st.nx i := fun i hi => .inl hi
            have old' := old (by omega)
            simp only [List.drop_zero] at old'
            rw [List.take_of_length_le (by omega)] at old'
            have g := grow_run (st := ⟨del st.H id, st.nx, id :: st.wr⟩) hk.ok ht hi hz b1 (olds := cs) (news := news) old' (by omega) src (by simp only [Cap.den, Nat.sub_zero]; omega) b2 b3 (okL_mono hfu _ (hok.key id _ hl).2.1) (okL_mono hfu _ hn) ty
            exact ⟨_, _, g.1, Mv.trans hok hk g.2.1, ok_mono (fun i hi => hi.elim (fun h => h.elim .inl fun h => absurd h.2 (Nat.not_lt.2 h.1)) .inr) _ g.2.2⟩
        · rw [hle] at h
          cases h
          have hle := Nat.le_of_ble_eq_true hle
          have hcap : n + (m + 1) ≤ I.cap j - k := by
            have : (k + (n + (m + 1))) * i.size ≤ I.cap j * i.size := by rw [Nat.add_mul]; omega
            have := Nat.le_of_mul_le_mul_right this hsz
            omega
          obtain ⟨w', hr, hm⟩ := room (.sym j k) hcap (by have e1 : (n + (m + 1)) * i.size = n * i.size + (m + 1) * i.size := Nat.add_mul ..; have e2 : news.length = (m + 1) * i.size := hlen; omega)
          exact ⟨I, w', hr, hm, fun q hq => (by cases hq; exact .inl hA), .inl hj, by omega⟩
end
end Go.Ev
