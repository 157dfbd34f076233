/-
  goes, at whatever depth; find; Search. Condition: at most 8 operations.
-/
import Derived.Test.YtenkdjfikppkdaaGreatLnG
import Derived.Test.YtenkdjfikppkdaaGreatHsD
import Derived.Test.YtenkdjfikppkdaaGreatTrB
namespace Go.Proofs.YtenkdjfikppkdaaGreat
open Go.RowKit Go.Al Go.Shelf
set_option linter.unusedVariables false

theorem goes_any {A : Option Addr} {c base : Nat} {l : List Dd} {most : Int} (hl : l.length ≤ 64) (hlc : l.length ≤ c) (hfar : FarD base A l) (hwf : ∀ d ∈ l, WfC d.r.c) (sk : Nat) (hbk : base ≤ sk) :
    ∀ (f : Nat) (p s : List P3) (done : List Int), Done l.length done → l.length ≤ done.length + f → ∀ (w : World) (V : Option Addr) (cv g pm sm : Nat), Dds w A l → Seek w sk A l.length c base V cv done → Tab w g pm sm most p s → Apart sk V g pm sm →
      Calls Tryz.prog 28 #[.pointer (some ⟨sk, 0, none⟩), .pointer (some ⟨g, 0, none⟩)] w (GoesEnd w sk A l.length c base V done (srch l most f p s done)) := by
  have hTl : ∀ (p s : List P3) (k : Nat) (hk : k < l.length) (w' : World) (g pm sm : Nat), Dds w' A l → Tab w' g pm sm most p s → Calls Tryz.prog 21 #[.pointer (some ⟨g, 0, none⟩), ddV l[k]] w' fun e w'' => e = .returned (.bool (tellsB p s most l[k])) ∧ Tab w'' g pm sm most (doesP l[k].r p s most) (doesS l[k].r p s most) ∧ Chg (fun k => k = pm ∨ k = sm) w' w'' :=
    fun p s k hk w' g pm sm hD hT => (tells_any l[k] w' hT (hwf _ (List.getElem_mem hk)) (hD.rep _ (List.getElem_mem hk))).mono fun e w'' h => h
  intro f
  induction f with
  | zero =>
    intro p s done hdn hn w V cv g pm sm hD hK hT hA
    refine goes_step hl hlc hfar p s done (fun _ => none) _ (fun h => srch_done h 0 p s) (fun h => by rw [srch_zero h, hdn.full (by omega)]; rfl) sk hbk (Nat.le_trans hdn.le hl) (hTl p s) (fun _ _ _ _ => rfl) ?_ w V cv g pm sm hD hK hT hA
    intro k hk hfr
    have hm : (k : Int) ∈ allL l done := mem_allL.2 ⟨k, hk, rfl, hfr⟩
    rw [hdn.full (by omega)] at hm
    cases hm
  | succ f ih =>
    intro p s done hdn hn w V cv g pm sm hD hK hT hA
    have hst : ∀ (k : Nat) (hk : k < l.length), stepS l most f p s done (k : Int) = if tellsB p s most l[k] then srch l most f (doesP l[k].r p s most) (doesS l[k].r p s most) (done ++ [(k : Int)]) else none := fun k hk => by
      unfold stepS
      rw [Int.toNat_natCast, List.getElem?_eq_getElem hk]
    refine goes_step hl hlc hfar p s done (stepS l most f p s done) _ (fun h => srch_done h (f + 1) p s) (fun h => srch_succ h f p s) sk hbk (Nat.le_trans hdn.le hl) (hTl p s) ?_ ?_ w V cv g pm sm hD hK hT hA
    · intro k hk hfr htl
      rw [hst k hk, htl]
      rfl
    · intro k hk hfr htl w' V' cv' g' pm' sm' hD' hK' hT' hA'
      rw [hst k hk, htl, if_pos rfl]
      exact ih _ _ _ (hdn.snoc (by omega) (by omega) (free_new hfr)) (by simp; omega) w' V' cv' g' pm' sm' hD' hK' hT' hA'

/-- what a search finds -/
def found (l : List Dd) (most : Int) : Option (List Int) := srch l most l.length [] [] []

set_option maxRecDepth 100000 in
set_option maxHeartbeats 4000000 in
theorem find_bad {A : Option Addr} {n c : Nat} (most : Int) (w : World) (h : most < 1 ∨ 1048576 < most) :
    Calls Tryz.prog 13 #[.slice A n c, .int .i64 most] w fun e w' => e = .panicked (fault 0 1) ∧ Same w w' := by
  have H := hide h
  clear h
  go_enter Tryz.func13, Tryz.ntmps13
  go_wp2_with (first
    | (go_at_call 19; refine (tnew_bad _ _ H.out).mono ?_; rintro e w1 ⟨rfl, rfl⟩)
    | (go_at_call 25; refine (mustT_bad _ _ _ (by decide)).mono ?_; rintro e w2 ⟨rfl, rfl⟩))
  exact ⟨rfl, rfl, Chg.refl _ _⟩

/-- how find ends, when there is an order, and when there is none -/
def FindEnd (w : World) (res : Option (List Int)) (e : Ending) (w' : World) : Prop :=
  match res with
  | some r => ListEnd w r e w'
  | none => e = .panicked (fault 0 6) ∧ Same w w'

set_option maxRecDepth 100000 in
set_option maxHeartbeats 16000000 in
theorem find_any {A : Option Addr} {c : Nat} {l : List Dd} (most : Int) (w : World) (h1 : 1 ≤ most) (h2 : most ≤ 1048576) (h : Dds w A l) (hl : l.length ≤ 8) (hlc : l.length ≤ c) (hfar : FarD w.heap.size A l) (hwf : ∀ d ∈ l, WfC d.r.c) :
    Calls Tryz.prog 13 #[.slice A l.length c, .int .i64 most] w (FindEnd w (found l most)) := by
  have H := hide h
  have HG := hide (fun sk (hb : w.heap.size ≤ sk) w' V cv g pm sm => goes_any (most := most) (c := c) (by omega : l.length ≤ 64) hlc hfar hwf sk hb l.length [] [] [] ⟨List.Pairwise.nil, fun x hx => by cases hx⟩ (by simp) w' V cv g pm sm)
  have HL := hide hl
  have HB := hide (And.intro h1 h2)
  obtain ⟨n, hn⟩ : ∃ n, l.length = n := ⟨_, rfl⟩
  rw [hn] at HG hl ⊢
  have Hn := hide hn
  unfold found
  rw [hn]
  clear h hlc hfar hwf hn h1 h2
  go_enter Tryz.func13, Tryz.ntmps13
  go_wp2_with (first
    | (go_at_call 19; refine (tnew_any _ _ HB.out.1 HB.out.2).mono ?_; rintro e w1 ⟨g, pm, sm, rfl, hs, ht, z1, z2, z3⟩; have Hs1 : Hid (Same w w1) := hide hs; have HT1 := hide ht; have Hz1 := hide (And.intro z1 (And.intro z2 z3)); clear hs ht z1 z2 z3)
    | (go_at_call 25; refine (mustT_ok _ _).mono ?_; rintro e w2 ⟨rfl, rfl⟩))
  go_loopg [6, 8, 17] n (fun k cn u vi wr => ∃ (i m : Nat), i ≤ n ∧ k = n - i ∧ vi = .int .i64 i ∧ cn = .int .i64 m ∧ m ≤ i ∧ Same w1 wr)
  case atStart => exact ⟨0, 0, Nat.zero_le _, rfl, rfl, rfl, Nat.le_refl _, Chg.refl _ _⟩
  case round =>
    obtain ⟨i, m, hi, hk, rfl, rfl, hm, hsm⟩ := hrel
    have Hk := hide hk
    have Hsm := hide hsm
    clear hk hsm
    by_cases hlt : i < n
    · have hil : i < l.length := by rw [Hn.out]; exact hlt
      obtain ⟨b, off, rfl, hbl, hra, hrp⟩ := ((H.out.same Hs1.out).same Hsm.out).at_ hil
      have Hra := hide hra
      obtain ⟨d, hdd⟩ : ∃ d, l[i] = d := ⟨_, rfl⟩
      rw [hdd] at Hra
      have HC := hide (can_any d)
      have Hll := hide (ddL_length d)
      have Hon := hide (one_ddL d)
      have Hbd := hide (blk_deed wr 45 d)
      unfold ddV at HC
      obtain ⟨mu, hmu⟩ : ∃ mu, canD d = mu := ⟨_, rfl⟩
      rw [hmu] at HC
      clear hra hrp hdd hmu
      generalize ddL d = L at *
      have hm0 : (0 : Int) ≤ (m : Int) := by omega
      have hm8 : (m : Int) ≤ 8 := by omega
      cases mu
      all_goals
        go_wp2_with (first
          | (refine wpList_ld (by rfl) 45 _ rfl b (off + i * 29) rfl L _ Hra.out Tryz.underlying45 rfl (by rw [Hll.out]; exact infoDeed) ?_)
          | (refine wpList_st (by rfl) 45 _ _ rfl rfl L rfl _ _ (by rw [Hll.out]; exact infoDeed) (by rw [Hll.out]; rfl) Hon.out ?_)
          | (refine wpList_ld (by rfl) 45 _ rfl wr.heap.size 0 rfl L _ Hbd.out Tryz.underlying45 rfl (by rw [Hll.out]; exact infoDeed) ?_)
          | (go_at_call 26; have hF := HC.out; refine (hF _).mono ?_; rintro e w2 ⟨rfl, hs⟩; have Hs2 : Hid (Same wr w2) := hide (((Chg.refl _ wr).alloc _).same hs); clear hs hF))
        go_roundg (n - (i + 1))
        case measure => have := Hk.out; omega
        case rel => first | exact ⟨i + 1, m, by omega, rfl, by go_num, rfl, by omega, Hsm.out.trans Hs2.out⟩ | exact ⟨i + 1, m + 1, by omega, rfl, by go_num, by go_num, by omega, Hsm.out.trans Hs2.out⟩
    · have hie : n = i := by omega
      subst hie
      have hmm : (m : Int) ≤ 8 := by omega
      have HD2 := hide ((H.out.same Hs1.out).same Hsm.out)
      have HT2 := hide (HT1.out.same Hsm.out)
      obtain ⟨res, hres⟩ : ∃ res, srch l most n [] [] [] = res := ⟨_, rfl⟩
      rw [hres] at HG
      have Hres := hide hres
      have hs3 : Same wr (wr.alloc (.cells #[.slice A n c, .slice none 0 0] 80)) := (Chg.refl _ wr).alloc _
      have hbk := Blk.new wr 80 #[.slice A n c, .slice none 0 0]
      have Hs3 := hide hs3
      have Hbk := hide hbk
      have Hgo := hide (HG.out wr.heap.size (Nat.le_trans Hs1.out.size Hsm.out.size) _ none 0 g pm sm (HD2.out.same hs3) ⟨hbk, World.ownsRow_nil _ _ _ _, fun b hb => by simp [blkOf] at hb⟩ (HT2.out.same hs3) ⟨(by have := HT2.out.blk.lt; have := HT2.out.mp.lt; have := HT2.out.ms.lt; omega), fun b hb => by simp [blkOf] at hb⟩)
      clear hres hs3 hbk HG
      have hfw : ∀ (S : Nat → Prop) w5, (∀ k, S k → k = wr.heap.size ∨ blkOf none = some k) → Chg S (wr.alloc (.cells #[.slice A n c, .slice none 0 0] 80)) w5 → Same w w5 := fun S w5 hS hc => by
        have h1 := Same.trans (Same.trans (Same.trans Hs1.out Hsm.out) Hs3.out) (Chg.refl (fun _ => False) _)
        refine Chg.fresh (S := fun k => w.heap.size ≤ k) (h1.to.trans hc fun k _ hk => ?_) fun _ h => h
        rcases hS k hk with rfl | h
        · exact Nat.le_trans Hs1.out.size Hsm.out.size
        · simp [blkOf] at h
      have Hfw := hide hfw
      clear hfw
      cases res with
      | none =>
        go_wp2_with (first
          | (go_at_call 28; have hF := Hgo.out; refine hF.mono ?_; rintro e w5 ⟨rfl, V', cv', hsk, hch, hv⟩; have Hch := hide hch; clear hsk hch hv hF)
          | (go_at_call 27; refine (Throw_bad _ _ _ (by decide)).mono ?_; rintro e w6 ⟨rfl, rfl⟩))
        refine ⟨rfl, ?_⟩
        show FindEnd w (srch l most n [] [] []) _ _
        rw [Hres.out]
        exact ⟨rfl, Hfw.out _ _ (fun k hk => hk) Hch.out⟩
      | some r =>
        go_wp2_with (go_at_call 28; have hF := Hgo.out; refine hF.mono ?_; rintro e w5 ⟨rfl, V', cv', hsk, hch, hv⟩; have hsk' : Seek w5 wr.heap.size A n c w.heap.size V' cv' r := hsk; have Hsk := hide hsk'; have hks := hsk'.blk.cell; have Hch := hide hch; clear hsk hch hv hF hsk')
        go_ret
        show FindEnd w (srch l most n [] [] []) _ _
        rw [Hres.out]
        exact ⟨V', cv', rfl, own_rd Hsk.out.own, fun b hb => (Hsk.out.vlt b hb).1, Hfw.out _ _ (fun k hk => hk) Hch.out⟩

/-! Search -/
set_option maxRecDepth 100000 in
set_option maxHeartbeats 1000000 in
theorem search1_ok {A : Option Addr} {n c : Nat} (most : Int) (xs : List Int) (x y : Nat) (w : World) (hx : w.cell? ⟨x, 0, none⟩ = some (.slice A n c)) (hy : w.cell? ⟨y, 0, none⟩ = some (.int .i64 most))
    (hf : Calls Tryz.prog 13 #[.slice A n c, .int .i64 most] w (ListEnd w xs)) :
    Calls Tryz.prog 12 #[.pointer (some ⟨x, 0, none⟩), .pointer (some ⟨y, 0, none⟩)] w (ListEnd w xs) := by
  have HF := hide hf
  clear hf
  go_enter Tryz.func12, Tryz.ntmps12
  go_wp2_with (go_at_call 13; have hF := HF.out; refine hF.mono ?_; rintro e w2 ⟨A2, c2, rfl, hr, hfr, hs⟩; have HR := hide (And.intro hr (And.intro hfr hs)); clear hr hfr hs hF)
  go_ret
  exact ⟨A2, c2, rfl, HR.out.1, HR.out.2.1, HR.out.2.2⟩
set_option maxRecDepth 100000 in
set_option maxHeartbeats 1000000 in
theorem search1_bad {A : Option Addr} {n c : Nat} (most : Int) (wh e0 : Int) (x y : Nat) (w : World) (hx : w.cell? ⟨x, 0, none⟩ = some (.slice A n c)) (hy : w.cell? ⟨y, 0, none⟩ = some (.int .i64 most))
    (hf : Calls Tryz.prog 13 #[.slice A n c, .int .i64 most] w fun e w' => e = .panicked (fault wh e0) ∧ Same w w') :
    Calls Tryz.prog 12 #[.pointer (some ⟨x, 0, none⟩), .pointer (some ⟨y, 0, none⟩)] w fun e w' => e = .panicked (fault wh e0) ∧ Same w w' := by
  have HF := hide hf
  clear hf
  go_enter Tryz.func12, Tryz.ntmps12
  go_wp2_with (go_at_call 13; have hF := HF.out; refine hF.mono ?_; rintro e w2 ⟨rfl, hs⟩; have Hs := hide hs; clear hs hF)
  exact ⟨rfl, rfl, Hs.out⟩

theorem eS : ∀ args w, (callFunc 12 args).run Tryz.prog w = .ok (.enter 12 args) w := enters_of Tryz.func12 (by kernel_rfl) rfl

set_option maxRecDepth 100000 in
set_option maxHeartbeats 4000000 in
/-- what Search tells, when what find does is known -/
theorem Search_ok {A : Option Addr} {n c : Nat} (most : Int) (xs : List Int) (w : World)
    (hf : ∀ w1, Same w w1 → Calls Tryz.prog 13 #[.slice A n c, .int .i64 most] w1 (ListEnd w1 xs)) :
    Calls Tryz.prog 6 #[.slice A n c, .int .i64 most] w fun e w' => ∃ A' c', e = .returned (.tuple #[.slice A' xs.length c', .int .i64 0]) ∧ Rd w' A' (is xs) ∧ Same w w' := by
  have hmf : ∀ (fn : Fn) (first cap : Array Value) (w : World), (Instr.makeFunc fn first cap).run Tryz.prog w = .ok (.func fn first cap) w := fun _ _ _ _ => rfl
  have hs0 : Same w ((w.alloc (.cells #[.slice A n c] 22)).alloc (.cells #[.int .i64 most] 3)) := ((Chg.refl _ w).alloc _).alloc _
  have hx := (Blk.new w 22 #[.slice A n c]).alloc (.cells #[.int .i64 most] 3)
  have hy := Blk.new (w.alloc (.cells #[.slice A n c] 22)) 3 #[.int .i64 most]
  simp only [World.size_alloc] at hy
  have HV := hide (value_ok (caps := #[.pointer (some ⟨w.heap.size, 0, none⟩), .pointer (some ⟨w.heap.size + 1, 0, none⟩)]) eS xs _ (fun w1 hs1 => search1_ok (A := A) (n := n) (c := c) most xs w.heap.size (w.heap.size + 1) w1 ((hx.same hs1).cell 0) ((hy.same hs1).cell 0) (hf w1 (Same.trans hs0 hs1))))
  have Hs0 := hide hs0
  clear hs0 hx hy hf
  go_enter Tryz.func6, Tryz.ntmps6
  go_wp2_with (go_at_call 11; have hF := HV.out; refine hF.mono ?_; rintro e w2 ⟨A2, c2, rfl, hr, hs⟩; have HR := hide (And.intro hr hs); clear hr hs hF)
  go_ret2
  exact ⟨A2, c2, rfl, HR.out.1, Same.trans Hs0.out HR.out.2⟩
set_option maxRecDepth 100000 in
set_option maxHeartbeats 4000000 in
theorem Search_bad {A : Option Addr} {n c : Nat} (most : Int) (wh e0 : Int) (w : World)
    (hf : ∀ w1, Same w w1 → Calls Tryz.prog 13 #[.slice A n c, .int .i64 most] w1 fun e w' => e = .panicked (fault wh e0) ∧ Same w1 w') :
    Calls Tryz.prog 6 #[.slice A n c, .int .i64 most] w fun e w' => e = .returned (.tuple #[.slice none 0 0, .int .i64 e0]) ∧ Same w w' := by
  have hmf : ∀ (fn : Fn) (first cap : Array Value) (w : World), (Instr.makeFunc fn first cap).run Tryz.prog w = .ok (.func fn first cap) w := fun _ _ _ _ => rfl
  have hs0 : Same w ((w.alloc (.cells #[.slice A n c] 22)).alloc (.cells #[.int .i64 most] 3)) := ((Chg.refl _ w).alloc _).alloc _
  have hx := (Blk.new w 22 #[.slice A n c]).alloc (.cells #[.int .i64 most] 3)
  have hy := Blk.new (w.alloc (.cells #[.slice A n c] 22)) 3 #[.int .i64 most]
  simp only [World.size_alloc] at hy
  have HV := hide (value_bad (caps := #[.pointer (some ⟨w.heap.size, 0, none⟩), .pointer (some ⟨w.heap.size + 1, 0, none⟩)]) eS wh e0 _ (fun w1 hs1 => search1_bad (A := A) (n := n) (c := c) most wh e0 w.heap.size (w.heap.size + 1) w1 ((hx.same hs1).cell 0) ((hy.same hs1).cell 0) (hf w1 (Same.trans hs0 hs1))))
  have Hs0 := hide hs0
  clear hs0 hx hy hf
  go_enter Tryz.func6, Tryz.ntmps6
  go_wp2_with (go_at_call 11; have hF := HV.out; refine hF.mono ?_; rintro e w2 ⟨rfl, hs⟩; have HR := hide hs; clear hs hF)
  go_ret2
  exact ⟨rfl, Same.trans Hs0.out HR.out⟩

/-- what Search tells of any operations -/
theorem Search_any {A : Option Addr} {c : Nat} {l : List Dd} (most : Int) (w : World) (h1 : 1 ≤ most) (h2 : most ≤ 1048576) (h : Dds w A l) (hl : l.length ≤ 8) (hlc : l.length ≤ c) (hfar : FarD w.heap.size A l) (hwf : ∀ d ∈ l, WfC d.r.c) :
    Calls Tryz.prog 6 #[.slice A l.length c, .int .i64 most] w fun e w' => ∃ A' c', e = .returned (.tuple #[.slice A' ((found l most).getD []).length c', .int .i64 (if (found l most).isSome then 0 else 6)]) ∧ Rd w' A' (is ((found l most).getD [])) ∧ Same w w' := by
  have hfind := fun (w1 : World) (hs : Same w w1) => find_any (c := c) most w1 h1 h2 (h.same hs) hl hlc ⟨fun b hb => Nat.lt_of_lt_of_le (hfar.1 b hb) hs.size, fun d hd b hb => Nat.lt_of_lt_of_le (hfar.2 d hd b hb) hs.size⟩ hwf
  cases hf : found l most with
  | none =>
    rw [hf] at hfind
    exact (Search_bad most 0 6 w hfind).mono fun e w' ⟨he, hs⟩ => ⟨none, 0, he, Rd.nil _ _, hs⟩
  | some r =>
    rw [hf] at hfind
    exact (Search_ok most r w hfind).mono fun e w' ⟨A', c', he, hr, hs⟩ => ⟨A', c', he, hr, hs⟩
theorem Search_arg {A : Option Addr} {n c : Nat} (most : Int) (w : World) (h : most < 1 ∨ 1048576 < most) :
    Calls Tryz.prog 6 #[.slice A n c, .int .i64 most] w fun e w' => e = .returned (.tuple #[.slice none 0 0, .int .i64 1]) ∧ Same w w' :=
  Search_bad most 0 1 w fun w1 _ => find_bad most w1 h
end Go.Proofs.YtenkdjfikppkdaaGreat
