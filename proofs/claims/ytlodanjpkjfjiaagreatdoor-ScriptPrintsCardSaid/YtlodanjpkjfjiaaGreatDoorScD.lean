/-
  script.parse, Parse: a line taken for an act. Conditions: what Go's library has laid; a line of a sound length, its words not too many.
-/
import Derived.Test.YtlodanjpkjfjiaaGreatDoorScE
import Derived.Test.YtlodanjpkjfjiaaGreatDoorTrW
namespace Go.Proofs.YtlodanjpkjfjiaaGreatDoor
open Go.RowKit Go.Al
set_option linter.unusedVariables false

theorem bytes_of_data : ∀ (B : List ByteArray) (L : List (List UInt8)), B.map (·.data.toList) = L → B.map Value.string = wds L
  | [], L, h => by subst h; rfl
  | b :: B, L, h => by
    subst h
    have := bytes_of_data B _ rfl
    unfold wds at this ⊢
    rw [List.map_cons, List.map_cons, List.map_cons, this]
    congr 1
theorem split_any (l : List UInt8) (w : World) (hm : ∃ m, w.cell? ⟨0, 0, none⟩ = some (.int .i64 m)) (hl : l.length ≤ 1000000000) :
    Calls Tryz.prog 37 #[strV l, .string ⟨#[32]⟩] w fun e w' => e = .returned (.slice (some ⟨w.heap.size, 0, none⟩) (Lib.split l [32]).length (Lib.split l [32]).length) ∧ w' = w.alloc (.cells (wds (Lib.split l [32])).toArray 9) := by
  obtain ⟨m, hm⟩ := hm
  have h1 : 1 ≤ (⟨#[32]⟩ : ByteArray).size := by decide
  have hd := Lib.splitB_data ⟨#[32]⟩ 0 (Lib.countB ⟨l.toArray⟩ ⟨#[32]⟩) ⟨l.toArray⟩
  have ha := Lib.splitB_all ⟨#[32]⟩ h1 0 (Lib.countB ⟨l.toArray⟩ ⟨#[32]⟩) ⟨l.toArray⟩ rfl
  have e1 : Lib.splitK [32] 0 (Lib.countB ⟨l.toArray⟩ ⟨#[32]⟩) l = Lib.split l [32] := rfl
  have hd2 : (Lib.splitB ⟨#[32]⟩ 0 (Lib.countB ⟨l.toArray⟩ ⟨#[32]⟩) ⟨l.toArray⟩).map (·.data.toList) = Lib.split l [32] := by rw [hd]; exact e1
  have hlen : (Lib.split l [32]).length = Lib.countB ⟨l.toArray⟩ ⟨#[32]⟩ + 1 := by rw [← ha, ← hd2, List.length_map]
  have := strings_Split ⟨l.toArray⟩ ⟨#[32]⟩ m w (by rw [ba_size]; omega) hm h1
  rw [bytes_of_data _ _ hd2, ← hlen] at this
  exact this
theorem cutAt_len (c : UInt8) : ∀ (l : List UInt8), ∀ y ∈ cutAt c l, y.length ≤ l.length
  | [], y, hy => by simp [cutAt] at hy; subst hy; simp
  | b :: l, y, hy => by
    have ih := cutAt_len c l
    unfold cutAt at hy
    split at hy
    · rcases List.mem_cons.1 hy with rfl | hy
      · simp
      · have := ih y hy; simp; omega
    · split at hy
      · rename_i w r he
        rcases List.mem_cons.1 hy with rfl | hy
        · have := ih w (by rw [he]; exact List.mem_cons_self)
          simp; omega
        · have := ih y (by rw [he]; exact List.mem_cons_of_mem _ hy)
          simp; omega
      · simp at hy
        subst hy
        simp
theorem split_fit {s : List UInt8} (hs : s.length ≤ 1000000) (hw : (Lib.split s [32]).length ≤ 1000) : FitW (Lib.split s [32]) :=
  ⟨hw, fun y hy => by rw [split_cut] at hy; exact Nat.le_trans (cutAt_len 32 s y hy) hs⟩
theorem popI_err {l : List (List UInt8)} {c : Int} (h : popI l = .error c) : c ≠ 0 := by
  cases l with
  | nil => simp [popI] at h; omega
  | cons x r =>
    unfold popI at h
    cases hx : intW x with
    | ok v => simp [hx] at h
    | error u => simp [hx] at h; have := intW_8 hx; omega
theorem intsW_err : ∀ {l : List (List UInt8)} {c : Int}, intsW l = .error c → c ≠ 0
  | [], c, h => by simp [intsW] at h
  | x :: r, c, h => by
    unfold intsW at h
    cases hx : intW x with
    | error u => simp [hx] at h; have := intW_8 hx; omega
    | ok v =>
      simp only [hx] at h
      cases hr : intsW r with
      | ok vs => simp [hr] at h
      | error u => simp [hr] at h; subst h; exact intsW_err hr
theorem reqW_err {l : List (List UInt8)} {c : Int} (h : reqW l = .error c) : c ≠ 0 := by
  unfold reqW at h
  cases l with
  | nil => simp [popW] at h; omega
  | cons x r =>
    simp only [popW] at h
    cases hi : intsW r with
    | error u => simp [hi] at h; subst h; exact intsW_err hi
    | ok vs =>
      simp only [hi] at h
      split at h
      · cases h
      · cases h; decide
theorem actW_err {ws : List (List UInt8)} {c : Int} (h : actW oneW ws = .error c) : c ≠ 0 := by
  unfold actW at h
  cases ws with
  | nil => simp [popW] at h; omega
  | cons x l =>
    simp only [popW] at h
    generalize hq : (if placeOf wordsA x = 4 then .ok (0, l) else popI l : Except Int (Int × List (List UInt8))) = q at h
    cases q with
    | error u =>
      simp at h
      subst h
      split at hq
      · cases hq
      · exact popI_err hq
    | ok p =>
      obtain ⟨id, l1⟩ := p
      simp only at h
      split at h
      · cases hr : reqW l1 with
        | error u => simp [hr] at h; subst h; exact reqW_err hr
        | ok r => simp [hr] at h
      · split at h
        · cases hp : popI l1 with
          | error u => simp [hp] at h; subst h; exact popI_err hp
          | ok p => obtain ⟨n, l2⟩ := p; simp [hp] at h
        · split at h
          · cases l1 with
            | nil => simp at h; omega
            | cons y l2 => simp at h
          · cases h
/-- what reader.act hands back, as rows of cells -/
def PAct (ws : List (List UInt8)) (b0 : Nat) (R : List Value) (w : World) : Prop :=
  ∃ a A c, actW oneW ws = .ok a ∧ R = acL a A c ∧ ActAt w a A c ∧ ∀ b, blkOf A = some b → b0 ≤ b
theorem PAct.keep (ws : List (List UInt8)) : KeepA (PAct ws) := fun b0 R u u' ⟨a, A, c, h1, h2, h3, h4⟩ hc =>
  ⟨a, A, c, h1, h2, ⟨h3.1.chg hc fun b hb _ e => by have := h4 b hb; have e' : b < b0 := e; omega, h3.2⟩, h4⟩
theorem one_acL (a : Ac) (A : Option Addr) (c : Nat) : ∀ u ∈ acL a A c, u.oneCell' = true := one_acW _ _ _ (one_rqL a.r) rfl
theorem eK39 : ∀ args w, (callFunc 39 args).run Tryz.prog w = .ok (.enter 39 args) w := enters_of Tryz.func39 (by kernel_rfl) rfl
theorem pval_ok {g : Nat} {ws : List (List UInt8)} {a : Ac} (w : World) (h : ∀ w', Same w w' → Rdy g w' ws) (hg : g < w.heap.size) (ha : actW oneW ws = .ok a) :
    Calls Tryz.prog 38 #[.func (.func 39) #[.pointer (some ⟨g, 0, none⟩)] #[]] w fun e w' => ∃ A c, e = .returned (.tuple #[acV a A c, .int .i64 0]) ∧ ActAt w' a A c ∧ (∀ b, blkOf A = some b → w.heap.size ≤ b) ∧ Chg (fun k => k = g) w w' := by
  refine (valueA_ok eK39 (S := fun k => k = g) (PAct.keep ws) w (fun k hk => by have e : k = g := hk; omega) fun w1 hs1 => ?_).mono ?_
  · refine (ract_any w1 (h w1 hs1)).mono ?_
    rintro e w2 ⟨h1, hc⟩
    rcases h1 with ⟨a', A, c, h2, rfl, h3, h4⟩ | ⟨c, h2, _⟩
    · exact ⟨acL a' A c, rfl, one_acL _ _ _, rfl, ⟨a', A, c, h2, rfl, h3, h4⟩, hc⟩
    · rw [ha] at h2; cases h2
  · rintro e w2 ⟨R, b0, _, _, rfl, ⟨a', A, c, h2, rfl, h3, h4⟩, hb, hc⟩
    rw [ha] at h2
    cases h2
    exact ⟨A, c, rfl, h3, fun b hb' => Nat.le_trans hb (h4 b hb'), hc⟩
theorem pval_bad {g : Nat} {ws : List (List UInt8)} {c : Int} (w : World) (h : ∀ w', Same w w' → Rdy g w' ws) (hg : g < w.heap.size) (ha : actW oneW ws = .error c) :
    Calls Tryz.prog 38 #[.func (.func 39) #[.pointer (some ⟨g, 0, none⟩)] #[]] w fun e w' => e = .returned (.tuple #[acV ac0 none 0, .int .i64 c]) ∧ Chg (fun k => k = g) w w' := by
  refine (valueA_bad eK39 (S := fun k => k = g) 0 c w (fun k hk => by have e : k = g := hk; omega) fun w1 hs1 => ?_).mono fun e w' h => ⟨h.1, h.2⟩
  refine (ract_any w1 (h w1 hs1)).mono ?_
  rintro e w2 ⟨h1, hc⟩
  rcases h1 with ⟨a', A, c', h2, _⟩ | ⟨c', h2, rfl⟩
  · rw [ha] at h2; cases h2
  · rw [ha] at h2; cases h2; exact ⟨rfl, hc⟩
theorem ActAt.same {w w' : World} {a : Ac} {A : Option Addr} {c : Nat} (h : ActAt w a A c) (hs : Same w w') : ActAt w' a A c := ⟨h.1.same hs, h.2⟩
/-- how parse ends -/
def ParseEnd (s : List UInt8) (w : World) (e : Ending) (w' : World) : Prop :=
  ((∃ a A c, parseB oneW s = some a ∧ e = .returned (.tuple #[acV a A c, .int .i64 0]) ∧ ActAt w' a A c ∧ ∀ b, blkOf A = some b → w.heap.size ≤ b) ∨ (parseB oneW s = none ∧ e = .returned (.tuple #[acV ac0 none 0, .int .i64 8]))) ∧ Same w w'
set_option maxRecDepth 100000 in
set_option maxHeartbeats 8000000 in
theorem parse_err (s : List UInt8) (w : World) (ha : Amb w) (hs : s.length ≤ 1000000) (hws : (Lib.split s [32]).length ≤ 1000) {c : Int} (hac : actW oneW (Lib.split s [32]) = .error c) :
    Calls Tryz.prog 23 #[strV s] w (ParseEnd s w) := by
  have hfit := split_fit hs hws
  have hs0 : Same w (w.alloc (.cells #[Value.int .i64 0, Value.int .i64 0, Value.int .i64 0, Value.int .i64 0, Value.int .i64 0, Value.int .i64 0, Value.int .i64 0, Value.int .i64 0, Value.int .i64 0, Value.int .i64 0, Value.int .i64 0, Value.int .i64 0, Value.int .i64 0, Value.int .i64 0, Value.int .i64 0, Value.int .i64 0, Value.int .i64 0, Value.int .i64 0, Value.int .i64 0, Value.int .i64 0, Value.int .i64 0, Value.slice none 0 0] 38)) := (Chg.refl _ w).alloc _
  have HSp := hide (split_any s _ (ha.same hs0).mx (by omega))
  rw [World.size_alloc] at HSp
  have hb0 := Blk.new w 38 #[Value.int .i64 0, Value.int .i64 0, Value.int .i64 0, Value.int .i64 0, Value.int .i64 0, Value.int .i64 0, Value.int .i64 0, Value.int .i64 0, Value.int .i64 0, Value.int .i64 0, Value.int .i64 0, Value.int .i64 0, Value.int .i64 0, Value.int .i64 0, Value.int .i64 0, Value.int .i64 0, Value.int .i64 0, Value.int .i64 0, Value.int .i64 0, Value.int .i64 0, Value.int .i64 0, Value.slice none 0 0]
  generalize hwsd : Lib.split s [32] = ws at *
  have hsA : Same w (((w.alloc (.cells #[Value.int .i64 0, Value.int .i64 0, Value.int .i64 0, Value.int .i64 0, Value.int .i64 0, Value.int .i64 0, Value.int .i64 0, Value.int .i64 0, Value.int .i64 0, Value.int .i64 0, Value.int .i64 0, Value.int .i64 0, Value.int .i64 0, Value.int .i64 0, Value.int .i64 0, Value.int .i64 0, Value.int .i64 0, Value.int .i64 0, Value.int .i64 0, Value.int .i64 0, Value.int .i64 0, Value.slice none 0 0] 38)).alloc (.cells (wds ws).toArray 9)).alloc (.cells #[.slice (some ⟨w.heap.size + 1, 0, none⟩) ws.length ws.length] 80)) := (hs0.alloc _).alloc _
  have hbz := (hb0.alloc (.cells (wds ws).toArray 9)).alloc (.cells #[.slice (some ⟨w.heap.size + 1, 0, none⟩) ws.length ws.length] 80)
  have hbw := (Blk.new (w.alloc (.cells #[Value.int .i64 0, Value.int .i64 0, Value.int .i64 0, Value.int .i64 0, Value.int .i64 0, Value.int .i64 0, Value.int .i64 0, Value.int .i64 0, Value.int .i64 0, Value.int .i64 0, Value.int .i64 0, Value.int .i64 0, Value.int .i64 0, Value.int .i64 0, Value.int .i64 0, Value.int .i64 0, Value.int .i64 0, Value.int .i64 0, Value.int .i64 0, Value.int .i64 0, Value.int .i64 0, Value.slice none 0 0] 38)) 9 (wds ws).toArray).alloc (.cells #[.slice (some ⟨w.heap.size + 1, 0, none⟩) ws.length ws.length] 80)
  have hbr := Blk.new ((w.alloc (.cells #[Value.int .i64 0, Value.int .i64 0, Value.int .i64 0, Value.int .i64 0, Value.int .i64 0, Value.int .i64 0, Value.int .i64 0, Value.int .i64 0, Value.int .i64 0, Value.int .i64 0, Value.int .i64 0, Value.int .i64 0, Value.int .i64 0, Value.int .i64 0, Value.int .i64 0, Value.int .i64 0, Value.int .i64 0, Value.int .i64 0, Value.int .i64 0, Value.int .i64 0, Value.int .i64 0, Value.slice none 0 0] 38)).alloc (.cells (wds ws).toArray 9)) 80 #[.slice (some ⟨w.heap.size + 1, 0, none⟩) ws.length ws.length]
  rw [World.size_alloc] at hbw
  rw [World.size_alloc, World.size_alloc] at hbr
  have hrd : RdrAt (((w.alloc (.cells #[Value.int .i64 0, Value.int .i64 0, Value.int .i64 0, Value.int .i64 0, Value.int .i64 0, Value.int .i64 0, Value.int .i64 0, Value.int .i64 0, Value.int .i64 0, Value.int .i64 0, Value.int .i64 0, Value.int .i64 0, Value.int .i64 0, Value.int .i64 0, Value.int .i64 0, Value.int .i64 0, Value.int .i64 0, Value.int .i64 0, Value.int .i64 0, Value.int .i64 0, Value.int .i64 0, Value.slice none 0 0] 38)).alloc (.cells (wds ws).toArray 9)).alloc (.cells #[.slice (some ⟨w.heap.size + 1, 0, none⟩) ws.length ws.length] 80)) (w.heap.size + 1 + 1) ws :=
    ⟨some ⟨w.heap.size + 1, 0, none⟩, ws.length, hbr, Nat.le_refl _, fun _ => ⟨w.heap.size + 1, 0, rfl, fun i x hx => by rw [Nat.zero_add, hbw.cell]; simpa using hx⟩, fun b hb => by simp [blkOf] at hb; omega⟩
  have hgl := hbr.lt
  have HR := hide (fun w' (hs : Same (((w.alloc (.cells #[Value.int .i64 0, Value.int .i64 0, Value.int .i64 0, Value.int .i64 0, Value.int .i64 0, Value.int .i64 0, Value.int .i64 0, Value.int .i64 0, Value.int .i64 0, Value.int .i64 0, Value.int .i64 0, Value.int .i64 0, Value.int .i64 0, Value.int .i64 0, Value.int .i64 0, Value.int .i64 0, Value.int .i64 0, Value.int .i64 0, Value.int .i64 0, Value.int .i64 0, Value.int .i64 0, Value.slice none 0 0] 38)).alloc (.cells (wds ws).toArray 9)).alloc (.cells #[.slice (some ⟨w.heap.size + 1, 0, none⟩) ws.length ws.length] 80)) w') => ha.rdy (Same.trans hsA hs) (g := w.heap.size + 1 + 1) (by omega) (hrd.same hs) hfit)
  have Hbz := hide hbz
  have HsA := hide hsA
  have Hgl := hide hgl
  have Ha := hide ha
  have HV := hide (pval_bad (g := w.heap.size + 1 + 1) _ HR.out hgl hac)
  have HSh := hide (fun w' (hs : Same w w') => show_any (A := none) (c := 0) ac0 w' (Rd.nil _ _) (by decide) ⟨in0, in0, wf_rqz⟩ (ha.same hs))
  unfold ShowEnd at HSh
  rw [show goodA ac0 = false from rfl] at HSh
  have HE := hide (fun w' (hs : Same w w') => (show ParseEnd s w (.returned (.tuple #[.agg (acL ac0 none 0).toArray, .int .i64 8])) w' from ⟨.inr ⟨by unfold parseB; rw [hwsd, hac], rfl⟩, hs⟩))
  have hcne := actW_err hac
  generalize ParseEnd s w = Q at *
  unfold acV at HV HSh
  obtain ⟨R, hR⟩ : ∃ R, R = acL ac0 none 0 := ⟨_, rfl⟩
  have HRl := hide (show R.length = 22 by rw [hR]; exact acL_len _ _ _)
  have HR1 := hide (show ∀ u ∈ R, u.oneCell' = true by rw [hR]; exact one_acL _ _ _)
  rw [← hR] at HV HSh
  have hcb : (c == 0) = false := by simpa using hcne
  clear ha hs hws hfit hs0 hb0 hsA hbz hbw hbr hrd hgl hac hR hwsd
  have hmf : ∀ (fn : Fn) (first cap : Array Value) (w : World), (Instr.makeFunc fn first cap).run Tryz.prog w = .ok (.func fn first cap) w := fun _ _ _ _ => rfl
  unfold strV at HSp ⊢
  go_enter Tryz.func23, Tryz.ntmps23
  go_wp2_with (first
    | (go_at_call 37; (with_reducible refine HSp.out.mono ?_); rintro e w1 ⟨rfl, rfl⟩)
    | (go_at_call 38; (with_reducible refine HV.out.mono ?_); rintro e w4 ⟨rfl, hc4⟩; have Hbz4 := hide (Hbz.out.chg hc4 (by omega)); have Hs4 := hide (Chg.fresh (S := fun k => w.heap.size ≤ k) (Chg.trans (Same.to HsA.out) hc4 (fun k hk e => (by have e' : k = w.heap.size + 1 + 1 := e; omega))) (fun _ h => h)); have Hw4 := hide hc4.size; clear hc4)
    | (refine wpList_st (by rfl) 38 _ _ rfl rfl R rfl _ _ (by rw [HRl.out]; exact infoAct) (by rw [HRl.out]; rfl) HR1.out ?_; have hb5 := Blk.new w4 38 R.toArray; have hs5 := (Chg.refl (fun _ => False) w4).alloc (.cells R.toArray 38); generalize w4.alloc (.cells R.toArray 38) = w5 at hb5 hs5 ⊢; have Hb5 := hide hb5; have Hs5 := hide hs5; clear hb5 hs5)
    | (refine wpList_ld (by rfl) 38 _ rfl w4.heap.size 0 rfl R _ (blk_range Hb5.out) Tryz.underlying38 rfl (by rw [HRl.out]; exact infoAct) ?_)
    | (go_at_call 30; (with_reducible refine (HSh.out _ (Same.trans Hs4.out Hs5.out)).mono ?_); rintro e w6 ⟨rfl, hs6⟩; have Hs6 := hide hs6; have Hb6 := hide (Hb5.out.same hs6); have Hbz6 := hide (((Hbz4.out.same Hs5.out)).same hs6); clear hs6)
    | (refine wpList_store_row (by rfl) 38 _ _ rfl w.heap.size (acL ac0 none 0).toArray rfl rfl 38 _ Hbz6.out (by rw [List.size_toArray, acL_len]; exact infoAct) (show (22 : Nat) = _ by rw [List.size_toArray, acL_len]) (all_oneCell_toArray (one_acL _ _ _)) ?_)
    | fail)
  refine bodyPost_ret (results_cell2 rfl rfl (Blk.setRow_ Hbz6.out _) Tryz.underlying38 rfl (by rw [List.size_toArray, acL_len]; exact infoAct)) rfl ?_
  exact HE.out _ (Chg.setRow (Same.trans (Same.trans Hs4.out Hs5.out) Hs6.out) (.inr (Nat.le_refl _)) _)
set_option maxRecDepth 100000 in
set_option maxHeartbeats 8000000 in
theorem parse_notgood (s : List UInt8) (w : World) (ha : Amb w) (hs : s.length ≤ 1000000) (hws : (Lib.split s [32]).length ≤ 1000) {a : Ac} (hac : actW oneW (Lib.split s [32]) = .ok a) (hga : goodA a = false) :
    Calls Tryz.prog 23 #[strV s] w (ParseEnd s w) := by
  have hfit := split_fit hs hws
  have hs0 : Same w (w.alloc (.cells #[Value.int .i64 0, Value.int .i64 0, Value.int .i64 0, Value.int .i64 0, Value.int .i64 0, Value.int .i64 0, Value.int .i64 0, Value.int .i64 0, Value.int .i64 0, Value.int .i64 0, Value.int .i64 0, Value.int .i64 0, Value.int .i64 0, Value.int .i64 0, Value.int .i64 0, Value.int .i64 0, Value.int .i64 0, Value.int .i64 0, Value.int .i64 0, Value.int .i64 0, Value.int .i64 0, Value.slice none 0 0] 38)) := (Chg.refl _ w).alloc _
  have HSp := hide (split_any s _ (ha.same hs0).mx (by omega))
  rw [World.size_alloc] at HSp
  have hb0 := Blk.new w 38 #[Value.int .i64 0, Value.int .i64 0, Value.int .i64 0, Value.int .i64 0, Value.int .i64 0, Value.int .i64 0, Value.int .i64 0, Value.int .i64 0, Value.int .i64 0, Value.int .i64 0, Value.int .i64 0, Value.int .i64 0, Value.int .i64 0, Value.int .i64 0, Value.int .i64 0, Value.int .i64 0, Value.int .i64 0, Value.int .i64 0, Value.int .i64 0, Value.int .i64 0, Value.int .i64 0, Value.slice none 0 0]
  generalize hwsd : Lib.split s [32] = ws at *
  have hsA : Same w (((w.alloc (.cells #[Value.int .i64 0, Value.int .i64 0, Value.int .i64 0, Value.int .i64 0, Value.int .i64 0, Value.int .i64 0, Value.int .i64 0, Value.int .i64 0, Value.int .i64 0, Value.int .i64 0, Value.int .i64 0, Value.int .i64 0, Value.int .i64 0, Value.int .i64 0, Value.int .i64 0, Value.int .i64 0, Value.int .i64 0, Value.int .i64 0, Value.int .i64 0, Value.int .i64 0, Value.int .i64 0, Value.slice none 0 0] 38)).alloc (.cells (wds ws).toArray 9)).alloc (.cells #[.slice (some ⟨w.heap.size + 1, 0, none⟩) ws.length ws.length] 80)) := (hs0.alloc _).alloc _
  have hbz := (hb0.alloc (.cells (wds ws).toArray 9)).alloc (.cells #[.slice (some ⟨w.heap.size + 1, 0, none⟩) ws.length ws.length] 80)
  have hbw := (Blk.new (w.alloc (.cells #[Value.int .i64 0, Value.int .i64 0, Value.int .i64 0, Value.int .i64 0, Value.int .i64 0, Value.int .i64 0, Value.int .i64 0, Value.int .i64 0, Value.int .i64 0, Value.int .i64 0, Value.int .i64 0, Value.int .i64 0, Value.int .i64 0, Value.int .i64 0, Value.int .i64 0, Value.int .i64 0, Value.int .i64 0, Value.int .i64 0, Value.int .i64 0, Value.int .i64 0, Value.int .i64 0, Value.slice none 0 0] 38)) 9 (wds ws).toArray).alloc (.cells #[.slice (some ⟨w.heap.size + 1, 0, none⟩) ws.length ws.length] 80)
  have hbr := Blk.new ((w.alloc (.cells #[Value.int .i64 0, Value.int .i64 0, Value.int .i64 0, Value.int .i64 0, Value.int .i64 0, Value.int .i64 0, Value.int .i64 0, Value.int .i64 0, Value.int .i64 0, Value.int .i64 0, Value.int .i64 0, Value.int .i64 0, Value.int .i64 0, Value.int .i64 0, Value.int .i64 0, Value.int .i64 0, Value.int .i64 0, Value.int .i64 0, Value.int .i64 0, Value.int .i64 0, Value.int .i64 0, Value.slice none 0 0] 38)).alloc (.cells (wds ws).toArray 9)) 80 #[.slice (some ⟨w.heap.size + 1, 0, none⟩) ws.length ws.length]
  rw [World.size_alloc] at hbw
  rw [World.size_alloc, World.size_alloc] at hbr
  have hrd : RdrAt (((w.alloc (.cells #[Value.int .i64 0, Value.int .i64 0, Value.int .i64 0, Value.int .i64 0, Value.int .i64 0, Value.int .i64 0, Value.int .i64 0, Value.int .i64 0, Value.int .i64 0, Value.int .i64 0, Value.int .i64 0, Value.int .i64 0, Value.int .i64 0, Value.int .i64 0, Value.int .i64 0, Value.int .i64 0, Value.int .i64 0, Value.int .i64 0, Value.int .i64 0, Value.int .i64 0, Value.int .i64 0, Value.slice none 0 0] 38)).alloc (.cells (wds ws).toArray 9)).alloc (.cells #[.slice (some ⟨w.heap.size + 1, 0, none⟩) ws.length ws.length] 80)) (w.heap.size + 1 + 1) ws :=
    ⟨some ⟨w.heap.size + 1, 0, none⟩, ws.length, hbr, Nat.le_refl _, fun _ => ⟨w.heap.size + 1, 0, rfl, fun i x hx => by rw [Nat.zero_add, hbw.cell]; simpa using hx⟩, fun b hb => by simp [blkOf] at hb; omega⟩
  have hgl := hbr.lt
  have HR := hide (fun w' (hs : Same (((w.alloc (.cells #[Value.int .i64 0, Value.int .i64 0, Value.int .i64 0, Value.int .i64 0, Value.int .i64 0, Value.int .i64 0, Value.int .i64 0, Value.int .i64 0, Value.int .i64 0, Value.int .i64 0, Value.int .i64 0, Value.int .i64 0, Value.int .i64 0, Value.int .i64 0, Value.int .i64 0, Value.int .i64 0, Value.int .i64 0, Value.int .i64 0, Value.int .i64 0, Value.int .i64 0, Value.int .i64 0, Value.slice none 0 0] 38)).alloc (.cells (wds ws).toArray 9)).alloc (.cells #[.slice (some ⟨w.heap.size + 1, 0, none⟩) ws.length ws.length] 80)) w') => ha.rdy (Same.trans hsA hs) (g := w.heap.size + 1 + 1) (by omega) (hrd.same hs) hfit)
  have Hbz := hide hbz
  have HsA := hide hsA
  have Hgl := hide hgl
  have Ha := hide ha
  have HV := hide (pval_ok (g := w.heap.size + 1 + 1) _ HR.out hgl hac)
  have hwf := actW_wf hac
  have HSh := hide (fun (A : Option Addr) (cc : Nat) (w' : World) (hat : ActAt w' a A cc) (hs : Same w w') => show_any (A := A) (c := cc) a w' hat.1 (Nat.le_trans hat.2.1 hat.2.2) hwf (ha.same hs))
  unfold ShowEnd at HSh
  have HL := hide (fun A c => acL_len a A c)
  have HL1 := hide (fun A c => one_acL a A c)
  rw [hga] at HSh
  have HE := hide (fun w' (hs : Same w w') => (show ParseEnd s w (.returned (.tuple #[.agg (acL ac0 none 0).toArray, .int .i64 8])) w' from ⟨.inr ⟨by unfold parseB; rw [hwsd, hac]; simp [hga], rfl⟩, hs⟩))
  generalize ParseEnd s w = Q at *
  unfold acV at HV HSh
  clear ha hs hws hfit hs0 hb0 hsA hbz hbw hbr hrd hgl hac hwf hga hwsd
  have hmf : ∀ (fn : Fn) (first cap : Array Value) (w : World), (Instr.makeFunc fn first cap).run Tryz.prog w = .ok (.func fn first cap) w := fun _ _ _ _ => rfl
  unfold strV at HSp ⊢
  go_enter Tryz.func23, Tryz.ntmps23
  go_wp2_with (first
    | (go_at_call 37; (with_reducible refine HSp.out.mono ?_); rintro e w1 ⟨rfl, rfl⟩)
    | (go_at_call 38; (with_reducible refine HV.out.mono ?_); rintro e w4 ⟨A, cc, rfl, hat, hfr, hc4⟩; have Hat := hide hat; have Hfr := hide hfr; have HRl := hide (HL.out A cc); have HR1 := hide (HL1.out A cc); have HSa := hide (fun w' (h1 : ActAt w' a A cc) h2 => HSh.out A cc w' h1 h2); have Hbz4 := hide (Hbz.out.chg hc4 (by omega)); have Hs4 := hide (Chg.fresh (S := fun k => w.heap.size ≤ k) (Chg.trans (Same.to HsA.out) hc4 (fun k hk e => (by have e' : k = w.heap.size + 1 + 1 := e; omega))) (fun _ h => h)); have Hw4 := hide hc4.size; clear hc4; clear hat hfr; generalize acL a A cc = R at *; skip)
    | (refine wpList_st (by rfl) 38 _ _ rfl rfl R rfl _ _ (by rw [HRl.out]; exact infoAct) (by rw [HRl.out]; rfl) HR1.out ?_; have hb5 := Blk.new w4 38 R.toArray; have hs5 := (Chg.refl (fun _ => False) w4).alloc (.cells R.toArray 38); generalize w4.alloc (.cells R.toArray 38) = w5 at hb5 hs5 ⊢; have Hb5 := hide hb5; have Hs5 := hide hs5; clear hb5 hs5)
    | (refine wpList_ld (by rfl) 38 _ rfl w4.heap.size 0 rfl R _ (blk_range Hb5.out) Tryz.underlying38 rfl (by rw [HRl.out]; exact infoAct) ?_)
    | (go_at_call 30; (with_reducible refine (HSa.out _ (Hat.out.same Hs5.out) (Same.trans Hs4.out Hs5.out)).mono ?_); rintro e w6 ⟨rfl, hs6⟩; have Hs6 := hide hs6; have Hb6 := hide (Hb5.out.same hs6); have Hbz6 := hide (((Hbz4.out.same Hs5.out)).same hs6); clear hs6)
    | (refine wpList_store_row (by rfl) 38 _ _ rfl w.heap.size (acL ac0 none 0).toArray rfl rfl 38 _ Hbz6.out (by rw [List.size_toArray, acL_len]; exact infoAct) (show (22 : Nat) = _ by rw [List.size_toArray, acL_len]) (all_oneCell_toArray (one_acL _ _ _)) ?_)
    | fail)
  refine bodyPost_ret (results_cell2 rfl rfl (Blk.setRow_ Hbz6.out _) Tryz.underlying38 rfl (by rw [List.size_toArray, acL_len]; exact infoAct)) rfl ?_
  exact HE.out _ (Chg.setRow (Same.trans (Same.trans Hs4.out Hs5.out) Hs6.out) (.inr (Nat.le_refl _)) _)
set_option maxRecDepth 100000 in
set_option maxHeartbeats 8000000 in
theorem parse_other (s : List UInt8) (w : World) (ha : Amb w) (hs : s.length ≤ 1000000) (hws : (Lib.split s [32]).length ≤ 1000) {a : Ac} (hac : actW oneW (Lib.split s [32]) = .ok a) (hga : goodA a = true) (hsb : ¬ showB a = s) :
    Calls Tryz.prog 23 #[strV s] w (ParseEnd s w) := by
  have hfit := split_fit hs hws
  have hs0 : Same w (w.alloc (.cells #[Value.int .i64 0, Value.int .i64 0, Value.int .i64 0, Value.int .i64 0, Value.int .i64 0, Value.int .i64 0, Value.int .i64 0, Value.int .i64 0, Value.int .i64 0, Value.int .i64 0, Value.int .i64 0, Value.int .i64 0, Value.int .i64 0, Value.int .i64 0, Value.int .i64 0, Value.int .i64 0, Value.int .i64 0, Value.int .i64 0, Value.int .i64 0, Value.int .i64 0, Value.int .i64 0, Value.slice none 0 0] 38)) := (Chg.refl _ w).alloc _
  have HSp := hide (split_any s _ (ha.same hs0).mx (by omega))
  rw [World.size_alloc] at HSp
  have hb0 := Blk.new w 38 #[Value.int .i64 0, Value.int .i64 0, Value.int .i64 0, Value.int .i64 0, Value.int .i64 0, Value.int .i64 0, Value.int .i64 0, Value.int .i64 0, Value.int .i64 0, Value.int .i64 0, Value.int .i64 0, Value.int .i64 0, Value.int .i64 0, Value.int .i64 0, Value.int .i64 0, Value.int .i64 0, Value.int .i64 0, Value.int .i64 0, Value.int .i64 0, Value.int .i64 0, Value.int .i64 0, Value.slice none 0 0]
  generalize hwsd : Lib.split s [32] = ws at *
  have hsA : Same w (((w.alloc (.cells #[Value.int .i64 0, Value.int .i64 0, Value.int .i64 0, Value.int .i64 0, Value.int .i64 0, Value.int .i64 0, Value.int .i64 0, Value.int .i64 0, Value.int .i64 0, Value.int .i64 0, Value.int .i64 0, Value.int .i64 0, Value.int .i64 0, Value.int .i64 0, Value.int .i64 0, Value.int .i64 0, Value.int .i64 0, Value.int .i64 0, Value.int .i64 0, Value.int .i64 0, Value.int .i64 0, Value.slice none 0 0] 38)).alloc (.cells (wds ws).toArray 9)).alloc (.cells #[.slice (some ⟨w.heap.size + 1, 0, none⟩) ws.length ws.length] 80)) := (hs0.alloc _).alloc _
  have hbz := (hb0.alloc (.cells (wds ws).toArray 9)).alloc (.cells #[.slice (some ⟨w.heap.size + 1, 0, none⟩) ws.length ws.length] 80)
  have hbw := (Blk.new (w.alloc (.cells #[Value.int .i64 0, Value.int .i64 0, Value.int .i64 0, Value.int .i64 0, Value.int .i64 0, Value.int .i64 0, Value.int .i64 0, Value.int .i64 0, Value.int .i64 0, Value.int .i64 0, Value.int .i64 0, Value.int .i64 0, Value.int .i64 0, Value.int .i64 0, Value.int .i64 0, Value.int .i64 0, Value.int .i64 0, Value.int .i64 0, Value.int .i64 0, Value.int .i64 0, Value.int .i64 0, Value.slice none 0 0] 38)) 9 (wds ws).toArray).alloc (.cells #[.slice (some ⟨w.heap.size + 1, 0, none⟩) ws.length ws.length] 80)
  have hbr := Blk.new ((w.alloc (.cells #[Value.int .i64 0, Value.int .i64 0, Value.int .i64 0, Value.int .i64 0, Value.int .i64 0, Value.int .i64 0, Value.int .i64 0, Value.int .i64 0, Value.int .i64 0, Value.int .i64 0, Value.int .i64 0, Value.int .i64 0, Value.int .i64 0, Value.int .i64 0, Value.int .i64 0, Value.int .i64 0, Value.int .i64 0, Value.int .i64 0, Value.int .i64 0, Value.int .i64 0, Value.int .i64 0, Value.slice none 0 0] 38)).alloc (.cells (wds ws).toArray 9)) 80 #[.slice (some ⟨w.heap.size + 1, 0, none⟩) ws.length ws.length]
  rw [World.size_alloc] at hbw
  rw [World.size_alloc, World.size_alloc] at hbr
  have hrd : RdrAt (((w.alloc (.cells #[Value.int .i64 0, Value.int .i64 0, Value.int .i64 0, Value.int .i64 0, Value.int .i64 0, Value.int .i64 0, Value.int .i64 0, Value.int .i64 0, Value.int .i64 0, Value.int .i64 0, Value.int .i64 0, Value.int .i64 0, Value.int .i64 0, Value.int .i64 0, Value.int .i64 0, Value.int .i64 0, Value.int .i64 0, Value.int .i64 0, Value.int .i64 0, Value.int .i64 0, Value.int .i64 0, Value.slice none 0 0] 38)).alloc (.cells (wds ws).toArray 9)).alloc (.cells #[.slice (some ⟨w.heap.size + 1, 0, none⟩) ws.length ws.length] 80)) (w.heap.size + 1 + 1) ws :=
    ⟨some ⟨w.heap.size + 1, 0, none⟩, ws.length, hbr, Nat.le_refl _, fun _ => ⟨w.heap.size + 1, 0, rfl, fun i x hx => by rw [Nat.zero_add, hbw.cell]; simpa using hx⟩, fun b hb => by simp [blkOf] at hb; omega⟩
  have hgl := hbr.lt
  have HR := hide (fun w' (hs : Same (((w.alloc (.cells #[Value.int .i64 0, Value.int .i64 0, Value.int .i64 0, Value.int .i64 0, Value.int .i64 0, Value.int .i64 0, Value.int .i64 0, Value.int .i64 0, Value.int .i64 0, Value.int .i64 0, Value.int .i64 0, Value.int .i64 0, Value.int .i64 0, Value.int .i64 0, Value.int .i64 0, Value.int .i64 0, Value.int .i64 0, Value.int .i64 0, Value.int .i64 0, Value.int .i64 0, Value.int .i64 0, Value.slice none 0 0] 38)).alloc (.cells (wds ws).toArray 9)).alloc (.cells #[.slice (some ⟨w.heap.size + 1, 0, none⟩) ws.length ws.length] 80)) w') => ha.rdy (Same.trans hsA hs) (g := w.heap.size + 1 + 1) (by omega) (hrd.same hs) hfit)
  have Hbz := hide hbz
  have HsA := hide hsA
  have Hgl := hide hgl
  have Ha := hide ha
  have HV := hide (pval_ok (g := w.heap.size + 1 + 1) _ HR.out hgl hac)
  have hwf := actW_wf hac
  have HSh := hide (fun (A : Option Addr) (cc : Nat) (w' : World) (hat : ActAt w' a A cc) (hs : Same w w') => show_any (A := A) (c := cc) a w' hat.1 (Nat.le_trans hat.2.1 hat.2.2) hwf (ha.same hs))
  unfold ShowEnd at HSh
  have HL := hide (fun A c => acL_len a A c)
  have HL1 := hide (fun A c => one_acL a A c)
  rw [hga] at HSh
  have HE := hide (fun w' (hs : Same w w') => (show ParseEnd s w (.returned (.tuple #[.agg (acL ac0 none 0).toArray, .int .i64 8])) w' from ⟨.inr ⟨by unfold parseB; rw [hwsd, hac]; simp [hga, hsb], rfl⟩, hs⟩))
  generalize ParseEnd s w = Q at *
  unfold acV at HV HSh
  have hsb2 : (showB a == s) = false := by simpa using hsb
  generalize showB a = sB at *
  unfold strV at HSh
  clear ha hs hws hfit hs0 hb0 hsA hbz hbw hbr hrd hgl hac hwf hga hsb hwsd
  have hmf : ∀ (fn : Fn) (first cap : Array Value) (w : World), (Instr.makeFunc fn first cap).run Tryz.prog w = .ok (.func fn first cap) w := fun _ _ _ _ => rfl
  unfold strV at HSp ⊢
  go_enter Tryz.func23, Tryz.ntmps23
  go_wp2_with (first
    | (go_at_call 37; (with_reducible refine HSp.out.mono ?_); rintro e w1 ⟨rfl, rfl⟩)
    | (go_at_call 38; (with_reducible refine HV.out.mono ?_); rintro e w4 ⟨A, cc, rfl, hat, hfr, hc4⟩; have Hat := hide hat; have Hfr := hide hfr; have HRl := hide (HL.out A cc); have HR1 := hide (HL1.out A cc); have HSa := hide (fun w' (h1 : ActAt w' a A cc) h2 => HSh.out A cc w' h1 h2); have Hbz4 := hide (Hbz.out.chg hc4 (by omega)); have Hs4 := hide (Chg.fresh (S := fun k => w.heap.size ≤ k) (Chg.trans (Same.to HsA.out) hc4 (fun k hk e => (by have e' : k = w.heap.size + 1 + 1 := e; omega))) (fun _ h => h)); have Hw4 := hide hc4.size; clear hc4; clear hat hfr; generalize acL a A cc = R at *; skip)
    | (refine wpList_st (by rfl) 38 _ _ rfl rfl R rfl _ _ (by rw [HRl.out]; exact infoAct) (by rw [HRl.out]; rfl) HR1.out ?_; have hb5 := Blk.new w4 38 R.toArray; have hs5 := (Chg.refl (fun _ => False) w4).alloc (.cells R.toArray 38); generalize w4.alloc (.cells R.toArray 38) = w5 at hb5 hs5 ⊢; have Hb5 := hide hb5; have Hs5 := hide hs5; clear hb5 hs5)
    | (refine wpList_ld (by rfl) 38 _ rfl w4.heap.size 0 rfl R _ (blk_range Hb5.out) Tryz.underlying38 rfl (by rw [HRl.out]; exact infoAct) ?_)
    | (go_at_call 30; (with_reducible refine (HSa.out _ (Hat.out.same Hs5.out) (Same.trans Hs4.out Hs5.out)).mono ?_); rintro e w6 ⟨rfl, hs6⟩; have Hs6 := hide hs6; have Hb6 := hide (Hb5.out.same hs6); have Hbz6 := hide (((Hbz4.out.same Hs5.out)).same hs6); clear hs6)
    | (refine wpList_store_row (by rfl) 38 _ _ rfl w.heap.size (acL ac0 none 0).toArray rfl rfl 38 _ Hbz6.out (by rw [List.size_toArray, acL_len]; exact infoAct) (show (22 : Nat) = _ by rw [List.size_toArray, acL_len]) (all_oneCell_toArray (one_acL _ _ _)) ?_)
    | fail)
  refine bodyPost_ret (results_cell2 rfl rfl (Blk.setRow_ Hbz6.out _) Tryz.underlying38 rfl (by rw [List.size_toArray, acL_len]; exact infoAct)) rfl ?_
  exact HE.out _ (Chg.setRow (Same.trans (Same.trans Hs4.out Hs5.out) Hs6.out) (.inr (Nat.le_refl _)) _)
set_option maxRecDepth 100000 in
set_option maxHeartbeats 8000000 in
theorem parse_ok (s : List UInt8) (w : World) (ha : Amb w) (hs : s.length ≤ 1000000) (hws : (Lib.split s [32]).length ≤ 1000) {a : Ac} (hac : actW oneW (Lib.split s [32]) = .ok a) (hga : goodA a = true) (hsb : showB a = s) :
    Calls Tryz.prog 23 #[strV s] w (ParseEnd s w) := by
  have hfit := split_fit hs hws
  have hs0 : Same w (w.alloc (.cells #[Value.int .i64 0, Value.int .i64 0, Value.int .i64 0, Value.int .i64 0, Value.int .i64 0, Value.int .i64 0, Value.int .i64 0, Value.int .i64 0, Value.int .i64 0, Value.int .i64 0, Value.int .i64 0, Value.int .i64 0, Value.int .i64 0, Value.int .i64 0, Value.int .i64 0, Value.int .i64 0, Value.int .i64 0, Value.int .i64 0, Value.int .i64 0, Value.int .i64 0, Value.int .i64 0, Value.slice none 0 0] 38)) := (Chg.refl _ w).alloc _
  have HSp := hide (split_any s _ (ha.same hs0).mx (by omega))
  rw [World.size_alloc] at HSp
  have hb0 := Blk.new w 38 #[Value.int .i64 0, Value.int .i64 0, Value.int .i64 0, Value.int .i64 0, Value.int .i64 0, Value.int .i64 0, Value.int .i64 0, Value.int .i64 0, Value.int .i64 0, Value.int .i64 0, Value.int .i64 0, Value.int .i64 0, Value.int .i64 0, Value.int .i64 0, Value.int .i64 0, Value.int .i64 0, Value.int .i64 0, Value.int .i64 0, Value.int .i64 0, Value.int .i64 0, Value.int .i64 0, Value.slice none 0 0]
  generalize hwsd : Lib.split s [32] = ws at *
  have hsA : Same w (((w.alloc (.cells #[Value.int .i64 0, Value.int .i64 0, Value.int .i64 0, Value.int .i64 0, Value.int .i64 0, Value.int .i64 0, Value.int .i64 0, Value.int .i64 0, Value.int .i64 0, Value.int .i64 0, Value.int .i64 0, Value.int .i64 0, Value.int .i64 0, Value.int .i64 0, Value.int .i64 0, Value.int .i64 0, Value.int .i64 0, Value.int .i64 0, Value.int .i64 0, Value.int .i64 0, Value.int .i64 0, Value.slice none 0 0] 38)).alloc (.cells (wds ws).toArray 9)).alloc (.cells #[.slice (some ⟨w.heap.size + 1, 0, none⟩) ws.length ws.length] 80)) := (hs0.alloc _).alloc _
  have hbz := (hb0.alloc (.cells (wds ws).toArray 9)).alloc (.cells #[.slice (some ⟨w.heap.size + 1, 0, none⟩) ws.length ws.length] 80)
  have hbw := (Blk.new (w.alloc (.cells #[Value.int .i64 0, Value.int .i64 0, Value.int .i64 0, Value.int .i64 0, Value.int .i64 0, Value.int .i64 0, Value.int .i64 0, Value.int .i64 0, Value.int .i64 0, Value.int .i64 0, Value.int .i64 0, Value.int .i64 0, Value.int .i64 0, Value.int .i64 0, Value.int .i64 0, Value.int .i64 0, Value.int .i64 0, Value.int .i64 0, Value.int .i64 0, Value.int .i64 0, Value.int .i64 0, Value.slice none 0 0] 38)) 9 (wds ws).toArray).alloc (.cells #[.slice (some ⟨w.heap.size + 1, 0, none⟩) ws.length ws.length] 80)
  have hbr := Blk.new ((w.alloc (.cells #[Value.int .i64 0, Value.int .i64 0, Value.int .i64 0, Value.int .i64 0, Value.int .i64 0, Value.int .i64 0, Value.int .i64 0, Value.int .i64 0, Value.int .i64 0, Value.int .i64 0, Value.int .i64 0, Value.int .i64 0, Value.int .i64 0, Value.int .i64 0, Value.int .i64 0, Value.int .i64 0, Value.int .i64 0, Value.int .i64 0, Value.int .i64 0, Value.int .i64 0, Value.int .i64 0, Value.slice none 0 0] 38)).alloc (.cells (wds ws).toArray 9)) 80 #[.slice (some ⟨w.heap.size + 1, 0, none⟩) ws.length ws.length]
  rw [World.size_alloc] at hbw
  rw [World.size_alloc, World.size_alloc] at hbr
  have hrd : RdrAt (((w.alloc (.cells #[Value.int .i64 0, Value.int .i64 0, Value.int .i64 0, Value.int .i64 0, Value.int .i64 0, Value.int .i64 0, Value.int .i64 0, Value.int .i64 0, Value.int .i64 0, Value.int .i64 0, Value.int .i64 0, Value.int .i64 0, Value.int .i64 0, Value.int .i64 0, Value.int .i64 0, Value.int .i64 0, Value.int .i64 0, Value.int .i64 0, Value.int .i64 0, Value.int .i64 0, Value.int .i64 0, Value.slice none 0 0] 38)).alloc (.cells (wds ws).toArray 9)).alloc (.cells #[.slice (some ⟨w.heap.size + 1, 0, none⟩) ws.length ws.length] 80)) (w.heap.size + 1 + 1) ws :=
    ⟨some ⟨w.heap.size + 1, 0, none⟩, ws.length, hbr, Nat.le_refl _, fun _ => ⟨w.heap.size + 1, 0, rfl, fun i x hx => by rw [Nat.zero_add, hbw.cell]; simpa using hx⟩, fun b hb => by simp [blkOf] at hb; omega⟩
  have hgl := hbr.lt
  have HR := hide (fun w' (hs : Same (((w.alloc (.cells #[Value.int .i64 0, Value.int .i64 0, Value.int .i64 0, Value.int .i64 0, Value.int .i64 0, Value.int .i64 0, Value.int .i64 0, Value.int .i64 0, Value.int .i64 0, Value.int .i64 0, Value.int .i64 0, Value.int .i64 0, Value.int .i64 0, Value.int .i64 0, Value.int .i64 0, Value.int .i64 0, Value.int .i64 0, Value.int .i64 0, Value.int .i64 0, Value.int .i64 0, Value.int .i64 0, Value.slice none 0 0] 38)).alloc (.cells (wds ws).toArray 9)).alloc (.cells #[.slice (some ⟨w.heap.size + 1, 0, none⟩) ws.length ws.length] 80)) w') => ha.rdy (Same.trans hsA hs) (g := w.heap.size + 1 + 1) (by omega) (hrd.same hs) hfit)
  have Hbz := hide hbz
  have HsA := hide hsA
  have Hgl := hide hgl
  have Ha := hide ha
  have HV := hide (pval_ok (g := w.heap.size + 1 + 1) _ HR.out hgl hac)
  have hwf := actW_wf hac
  have HSh := hide (fun (A : Option Addr) (cc : Nat) (w' : World) (hat : ActAt w' a A cc) (hs : Same w w') => show_any (A := A) (c := cc) a w' hat.1 (Nat.le_trans hat.2.1 hat.2.2) hwf (ha.same hs))
  unfold ShowEnd at HSh
  have HL := hide (fun A c => acL_len a A c)
  have HL1 := hide (fun A c => one_acL a A c)
  rw [hga] at HSh
  have HE := hide (fun (A : Option Addr) (cc : Nat) (w' : World) (hat : ActAt w' a A cc) (hfr : ∀ b, blkOf A = some b → w.heap.size ≤ b) (hs : Same w w') => (show ParseEnd s w (.returned (.tuple #[.agg (acL a A cc).toArray, .int .i64 0])) w' from ⟨.inl ⟨a, A, cc, by unfold parseB; rw [hwsd, hac]; simp [hga, hsb], rfl, hat, hfr⟩, hs⟩))
  generalize ParseEnd s w = Q at *
  unfold acV at HV HSh
  rw [hsb] at HSh
  unfold strV at HSh
  clear ha hs hws hfit hs0 hb0 hsA hbz hbw hbr hrd hgl hac hwf hga hsb hwsd
  have hmf : ∀ (fn : Fn) (first cap : Array Value) (w : World), (Instr.makeFunc fn first cap).run Tryz.prog w = .ok (.func fn first cap) w := fun _ _ _ _ => rfl
  unfold strV at HSp ⊢
  go_enter Tryz.func23, Tryz.ntmps23
  go_wp2_with (first
    | (go_at_call 37; (with_reducible refine HSp.out.mono ?_); rintro e w1 ⟨rfl, rfl⟩)
    | (go_at_call 38; (with_reducible refine HV.out.mono ?_); rintro e w4 ⟨A, cc, rfl, hat, hfr, hc4⟩; have Hat := hide hat; have Hfr := hide hfr; have HRl := hide (HL.out A cc); have HR1 := hide (HL1.out A cc); have HSa := hide (fun w' (h1 : ActAt w' a A cc) h2 => HSh.out A cc w' h1 h2); have Hbz4 := hide (Hbz.out.chg hc4 (by omega)); have Hs4 := hide (Chg.fresh (S := fun k => w.heap.size ≤ k) (Chg.trans (Same.to HsA.out) hc4 (fun k hk e => (by have e' : k = w.heap.size + 1 + 1 := e; omega))) (fun _ h => h)); have Hw4 := hide hc4.size; clear hc4; have HEa := hide (fun w' h1 h2 h3 => HE.out A cc w' h1 h2 h3); clear hat hfr; generalize acL a A cc = R at *; skip)
    | (refine wpList_st (by rfl) 38 _ _ rfl rfl R rfl _ _ (by rw [HRl.out]; exact infoAct) (by rw [HRl.out]; rfl) HR1.out ?_; have hb5 := Blk.new w4 38 R.toArray; have hs5 := (Chg.refl (fun _ => False) w4).alloc (.cells R.toArray 38); generalize w4.alloc (.cells R.toArray 38) = w5 at hb5 hs5 ⊢; have Hb5 := hide hb5; have Hs5 := hide hs5; clear hb5 hs5)
    | (refine wpList_ld (by rfl) 38 _ rfl w4.heap.size 0 rfl R _ (blk_range Hb5.out) Tryz.underlying38 rfl (by rw [HRl.out]; exact infoAct) ?_)
    | (go_at_call 30; (with_reducible refine (HSa.out _ (Hat.out.same Hs5.out) (Same.trans Hs4.out Hs5.out)).mono ?_); rintro e w6 ⟨rfl, hs6⟩; have Hs6 := hide hs6; have Hb6 := hide (Hb5.out.same hs6); have Hbz6 := hide (((Hbz4.out.same Hs5.out)).same hs6); clear hs6)
    | (refine wpList_ld (by rfl) 38 _ rfl w4.heap.size 0 rfl R _ (blk_range Hb6.out) Tryz.underlying38 rfl (by rw [HRl.out]; exact infoAct) ?_)
    | (refine wpList_store_row (by rfl) 38 _ _ rfl w.heap.size R.toArray rfl rfl 38 _ Hbz6.out (by rw [List.size_toArray, HRl.out]; exact infoAct) (show (22 : Nat) = _ by rw [List.size_toArray, HRl.out]) (all_oneCell_toArray HR1.out) ?_)
    | fail)
  refine bodyPost_ret (results_cell2 rfl rfl (Blk.setRow_ Hbz6.out _) Tryz.underlying38 rfl (by rw [List.size_toArray, HRl.out]; exact infoAct)) rfl ?_
  refine HEa.out _ ⟨?_, Hat.out.2⟩ (fun b hb => by have := Hfr.out b hb; have := HsA.out.size; omega) (Chg.setRow (Same.trans (Same.trans Hs4.out Hs5.out) Hs6.out) (.inr (Nat.le_refl _)) _)
  exact ((Hat.out.1.same Hs5.out).same Hs6.out).chg (Chg.setRow (S := fun k => k = w.heap.size) (Chg.refl _ _) (.inl rfl) _) (fun b hb _ e => by have := Hfr.out b hb; have := Hgl.out; have e' : b = w.heap.size := e; omega)
theorem parse_any (s : List UInt8) (w : World) (ha : Amb w) (hs : s.length ≤ 1000000) (hws : (Lib.split s [32]).length ≤ 1000) :
    Calls Tryz.prog 23 #[strV s] w (ParseEnd s w) := by
  cases hac : actW oneW (Lib.split s [32]) with
  | error c => exact parse_err s w ha hs hws hac
  | ok a =>
    cases hga : goodA a with
    | false => exact parse_notgood s w ha hs hws hac hga
    | true =>
      by_cases hsb : showB a = s
      · exact parse_ok s w ha hs hws hac hga hsb
      · exact parse_other s w ha hs hws hac hga hsb
set_option maxRecDepth 100000 in
set_option maxHeartbeats 8000000 in
theorem Parse_any (s : List UInt8) (w : World) (ha : Amb w) (hs : s.length ≤ 1000000) (hws : (Lib.split s [32]).length ≤ 1000) :
    Calls Tryz.prog 9 #[strV s] w (ParseEnd s w) := by
  have hs0 : Same w (w.alloc (.cells #[Value.int .i64 0, Value.int .i64 0, Value.int .i64 0, Value.int .i64 0, Value.int .i64 0, Value.int .i64 0, Value.int .i64 0, Value.int .i64 0, Value.int .i64 0, Value.int .i64 0, Value.int .i64 0, Value.int .i64 0, Value.int .i64 0, Value.int .i64 0, Value.int .i64 0, Value.int .i64 0, Value.int .i64 0, Value.int .i64 0, Value.int .i64 0, Value.int .i64 0, Value.int .i64 0, Value.slice none 0 0] 38)) := (Chg.refl _ w).alloc _
  have HP := hide (parse_any s _ (ha.same hs0) hs hws)
  have Hb0 := hide (Blk.new w 38 #[Value.int .i64 0, Value.int .i64 0, Value.int .i64 0, Value.int .i64 0, Value.int .i64 0, Value.int .i64 0, Value.int .i64 0, Value.int .i64 0, Value.int .i64 0, Value.int .i64 0, Value.int .i64 0, Value.int .i64 0, Value.int .i64 0, Value.int .i64 0, Value.int .i64 0, Value.int .i64 0, Value.int .i64 0, Value.int .i64 0, Value.int .i64 0, Value.int .i64 0, Value.int .i64 0, Value.slice none 0 0])
  have Hs0 := hide hs0
  have HE : Hid (∀ (R : List Value) (c : Int) (w1 w' : World), ParseEnd s (w.alloc (.cells #[Value.int .i64 0, Value.int .i64 0, Value.int .i64 0, Value.int .i64 0, Value.int .i64 0, Value.int .i64 0, Value.int .i64 0, Value.int .i64 0, Value.int .i64 0, Value.int .i64 0, Value.int .i64 0, Value.int .i64 0, Value.int .i64 0, Value.int .i64 0, Value.int .i64 0, Value.int .i64 0, Value.int .i64 0, Value.int .i64 0, Value.int .i64 0, Value.int .i64 0, Value.int .i64 0, Value.slice none 0 0] 38)) (.returned (.tuple #[.agg R.toArray, .int .i64 c])) w1 → Chg (fun k => k = w.heap.size) w1 w' → ParseEnd s w (.returned (.tuple #[.agg R.toArray, .int .i64 c])) w') := hide fun R c w1 w' hp hc => by
    obtain ⟨h1, h2⟩ := hp
    refine ⟨?_, Chg.fresh (S := fun k => w.heap.size ≤ k) (Chg.trans (Same.to (Same.trans hs0 h2)) hc (fun k _ e => by have e' : k = w.heap.size := e; omega)) (fun _ h => h)⟩
    rcases h1 with ⟨a, A, cc, h3, h4, h5, h6⟩ | h3
    · exact .inl ⟨a, A, cc, h3, h4, ⟨h5.1.chg hc fun b hb _ e => by have := h6 b hb; rw [World.size_alloc] at this; have e' : b = w.heap.size := e; omega, h5.2⟩, fun b hb => by have := h6 b hb; rw [World.size_alloc] at this; omega⟩
    · exact .inr h3
  have HX : Hid (∀ e w1, ParseEnd s (w.alloc (.cells #[Value.int .i64 0, Value.int .i64 0, Value.int .i64 0, Value.int .i64 0, Value.int .i64 0, Value.int .i64 0, Value.int .i64 0, Value.int .i64 0, Value.int .i64 0, Value.int .i64 0, Value.int .i64 0, Value.int .i64 0, Value.int .i64 0, Value.int .i64 0, Value.int .i64 0, Value.int .i64 0, Value.int .i64 0, Value.int .i64 0, Value.int .i64 0, Value.int .i64 0, Value.int .i64 0, Value.slice none 0 0] 38)) e w1 → ∃ (R : List Value) (c : Int), e = .returned (.tuple #[.agg R.toArray, .int .i64 c]) ∧ R.length = 22 ∧ (∀ u ∈ R, u.oneCell' = true) ∧ Same (w.alloc (.cells #[Value.int .i64 0, Value.int .i64 0, Value.int .i64 0, Value.int .i64 0, Value.int .i64 0, Value.int .i64 0, Value.int .i64 0, Value.int .i64 0, Value.int .i64 0, Value.int .i64 0, Value.int .i64 0, Value.int .i64 0, Value.int .i64 0, Value.int .i64 0, Value.int .i64 0, Value.int .i64 0, Value.int .i64 0, Value.int .i64 0, Value.int .i64 0, Value.int .i64 0, Value.int .i64 0, Value.slice none 0 0] 38)) w1) := hide fun e w1 hp => by
    obtain ⟨h1, h2⟩ := hp
    rcases h1 with ⟨a, A, cc, h3, h4, h5, h6⟩ | ⟨h3, h4⟩
    · exact ⟨_, _, h4, acL_len _ _ _, one_acL _ _ _, h2⟩
    · exact ⟨_, _, h4, acL_len _ _ _, one_acL _ _ _, h2⟩
  clear ha hs hws hs0
  generalize ParseEnd s (w.alloc (.cells #[Value.int .i64 0, Value.int .i64 0, Value.int .i64 0, Value.int .i64 0, Value.int .i64 0, Value.int .i64 0, Value.int .i64 0, Value.int .i64 0, Value.int .i64 0, Value.int .i64 0, Value.int .i64 0, Value.int .i64 0, Value.int .i64 0, Value.int .i64 0, Value.int .i64 0, Value.int .i64 0, Value.int .i64 0, Value.int .i64 0, Value.int .i64 0, Value.int .i64 0, Value.int .i64 0, Value.slice none 0 0] 38)) = Q0 at *
  generalize ParseEnd s w = Q at *
  unfold strV at HP ⊢
  go_enter Tryz.func9, Tryz.ntmps9
  go_wp2_with (first
    | (go_at_call 23; (with_reducible refine HP.out.mono ?_); rintro e w1 hp; obtain ⟨R, cr, rfl, hl, h1, hs1⟩ := HX.out _ _ hp; have Hp := hide hp; have Hl := hide hl; have H1 := hide h1; have Hb1 := hide (Hb0.out.same hs1); clear hp hl h1 hs1)
    | (refine wpList_store_row (by rfl) 38 _ _ rfl w.heap.size R.toArray rfl rfl 38 _ Hb1.out (by rw [List.size_toArray, Hl.out]; exact infoAct) (show (22 : Nat) = _ by rw [List.size_toArray, Hl.out]) (all_oneCell_toArray H1.out) ?_)
    | fail)
  refine bodyPost_ret (results_cell2 rfl rfl (Blk.setRow_ Hb1.out _) Tryz.underlying38 rfl (by rw [List.size_toArray, Hl.out]; exact infoAct)) rfl ?_
  exact HE.out _ _ _ _ Hp.out (Chg.setRow (S := fun k => k = w.heap.size) (Chg.refl _ _) (.inl rfl) _)
end Go.Proofs.YtlodanjpkjfjiaaGreatDoor
