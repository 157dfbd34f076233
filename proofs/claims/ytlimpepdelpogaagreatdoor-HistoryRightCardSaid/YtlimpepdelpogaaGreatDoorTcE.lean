/-
  The document's set: Do, what drops. Condition: at most 65535 of each.
  The document's set: Do in one contract; Same. Condition: at most 65535 of each.
-/
import Derived.Test.YtlimpepdelpogaaGreatDoorTcC
/-! TcD -/
namespace Go.Proofs.YtlimpepdelpogaaGreatDoor
open Go.RowKit Go.Al
set_option linter.unusedVariables false
set_option maxHeartbeats 8000000
set_option maxRecDepth 100000
section
attribute [local go_sem ↓] Go.wp_at_zero Go.wp_at_succ
theorem doR_2 {g cp cs : Nat} {AP AS : Option Addr} {most : Int} {p s : List P3} (q x : P3) (w : World) (h : SetR w g AP cp AS cs most p s) (hp : p.length ≤ 65535) (hs : s.length ≤ 65535) (hsrt : Srt p) (hm : mayE p s most ⟨2, q, x⟩ = 0) :
    Calls Tryz.prog 34 #[.pointer (some ⟨g, 0, none⟩), cgV ⟨2, q, x⟩] w fun e w' => e = .returned (.tuple #[cgV ⟨1, (find3 p q.1).getD z3, z3⟩, .int .i64 0]) ∧ DoneP w w' g AS cs most (del3 q.1 p) s := by
  obtain ⟨_, hadd, hdrop, _⟩ := may_zero hm
  have HM := hide (fun w' (hs' : Same w w') => mayR_any ⟨2, q, x⟩ w' (h.same hs') (by omega) (by omega))
  rw [hm] at HM
  have hsm : Same w ((w.alloc (.cells (bx ⟨2, q, x⟩) 29)).alloc (.cells (bx ⟨0, z3, z3⟩) 29)) := ((Chg.refl _ w).alloc _).alloc _
  have hc := (Blk.new w 29 (bx ⟨2, q, x⟩)).alloc (.cells (bx ⟨0, z3, z3⟩) 29)
  have hb := Blk.new (w.alloc (.cells (bx ⟨2, q, x⟩) 29)) 29 (bx ⟨0, z3, z3⟩)
  rw [show (w.alloc (.cells (bx ⟨2, q, x⟩) 29)).heap.size = w.heap.size + 1 by simp] at hb
  have H := hide h
  have Hs := hide hsm
  have Hb := hide hb
  have Hc := hide hc
  clear hsm h hb hc hm
  have hyes : hasK p q.1 = true := hdrop rfl
  have hpl := pos3_lt hyes
  have hfd : (find3 p q.1).getD z3 = p[pos3 p q.1] := by rw [find3_pos hyes]; rfl
  have Hdel := hide (del3_pos hsrt hyes)
  have HA := hide (fun w' (hs' : Same w w') => (show Calls Tryz.prog 59 #[.pointer (some ⟨g, 0, none⟩), .int .i64 q.1] w' fun e w'' => e = .returned (.int .i64 (pos3 p q.1 : Nat)) ∧ w' = w'' from at3_in hyes ▸ pointAt_any q.1 w' (H.out.same hs') (by omega)))
  rw [hfd]
  generalize pos3 p q.1 = m at *
  obtain ⟨b, off, hA, hbl, hc0, hc1, hc2⟩ := H.out.rp.at_ hpl
  subst hA
  obtain ⟨y, hy⟩ : ∃ y, p[m] = y := ⟨_, rfl⟩
  rw [hy] at hc0 hc1 hc2 ⊢
  obtain ⟨y1, y2, y3⟩ := y
  have HR := hide H.out.rp
  obtain ⟨n, hnn⟩ : ∃ n, n = p.length := ⟨_, rfl⟩
  have Hn := hide hnn
  have hn6 : n ≤ 65535 := by omega
  have hmn : m < n := by omega
  have Hkt : Hid (∀ w', Same w w' → w'.cell? ⟨g, 0, none⟩ = some (.slice (some ⟨b, off, none⟩) n cp)) := hide fun w' h => by have := (H.out.same h).blk.cell 0; rw [hnn]; exact this
  have hwr : IntKind.i64.wrap ((m : Int) + 1) = (m : Int) + 1 := IntWalk.i64_in _ (by omega)
  have Hc0 := hide hc0
  have Hc1 := hide hc1
  have Hc2 := hide hc2
  clear hadd hdrop hyes hpl hfd hnn hp hs hy hc0 hc1 hc2 hsrt
  obtain ⟨pi, px, py⟩ := q
  obtain ⟨si, lo, hi⟩ := x
  unfold cgV bx z3 at *
  go_enter Tryz.func34, Tryz.ntmps34
  go_wp2_with (first
    | (go_at_call 58; refine (HM.out _ Hs.out).mono ?_; rintro e w1 ⟨rfl, hs1⟩; have hk1 := (Hc.out.same hs1).cell; have bb1 := (Hb.out.same hs1).lt; have hw1 := Same.trans Hs.out hs1; have he0 := (hw1.cell (p := ⟨b, off + m * 3, none⟩) hbl (fun h => h)).trans Hc0.out; have he1 := (hw1.cell (p := ⟨b, off + m * 3 + 1, none⟩) hbl (fun h => h)).trans Hc1.out; have he2 := (hw1.cell (p := ⟨b, off + m * 3 + 2, none⟩) hbl (fun h => h)).trans Hc2.out; have hkt := Hkt.out _ hw1; have Hs1 := hide hw1; have Hc1' := hide (Hc.out.same hs1); have Hb1 := hide (Hb.out.same hs1); clear hs1 hw1)
    | (go_at_call 59; have hF := HA.out w1 Hs1.out; refine hF.mono ?_; rintro e w2 ⟨rfl, hww⟩; subst hww; clear hF))
  have hal : Same w1 (w1.alloc (.cells #[.int .i64 y1, .int .i64 y2, .int .i64 y3] 25)) := (Chg.refl _ w1).alloc _
  have hyW := Blk.new w1 25 #[.int .i64 y1, .int .i64 y2, .int .i64 y3]
  generalize w1.alloc (.cells #[.int .i64 y1, .int .i64 y2, .int .i64 y3] 25) = W at *
  have HsW0 := hide (Same.trans Hs1.out hal)
  have HbW := hide (Hb1.out.same hal)
  have HcW := hide (Hc1'.out.same hal)
  have HyW := hide hyW
  have HK : Hid (∀ w', Same W w' → w'.cell? ⟨g, 0, none⟩ = some (.slice (some ⟨b, off, none⟩) n cp)) := hide fun w' h => Hkt.out _ (Same.trans HsW0.out h)
  have hR := HR.out.same HsW0.out
  have hcn := hR.2.2.1
  have hcm := hR.2.2.2.1
  unfold maxLen at hcm
  have H1 := cut_hi slP (some ⟨b, off, none⟩) n cp .i64 (m : Int) m rfl (by rw [← Hn.out] at hcn; omega)
  obtain ⟨A2, H2, hrd2, hbk2⟩ := cut_lo (n := n) slP hR.1 (by rw [is3_len, Hn.out]) (by rw [Hn.out]; exact hcn) .i64 ((m : Int) + 1) (m + 1) (by omega) (by omega)
  have Hrd1 : Hid (Rd W (some ⟨b, off, none⟩) (is3 (p.take m))) := hide (by have := hR.1.take (m * 3); rw [is3_take] at this; exact this)
  have Hrd2 : Hid (Rd W A2 (is3 (p.drop (m + 1)))) := hide (by rw [is3_drop] at hrd2; exact hrd2)
  have b1 : (0 + m) * 24 ≤ 140737488355328 := by omega
  have b2 : 0 + m ≤ 140737488355328 := by omega
  have b7 : (is3 (p.take m)).length = m * 3 := by rw [is3_len, List.length_take]; have := Hn.out; congr 1; omega
  have b8 : (is3 (p.drop (m + 1))).length = (n - (m + 1)) * 3 := by rw [is3_len, List.length_drop, Hn.out]
  have B := hide (And.intro b1 (And.intro b2 (And.intro b7 b8)))
  clear hR hcn hcm hrd2 hbk2 b1 b2 b7 b8 hkt hk1 he0 he1 he2 hal hyW
  refine wp_region_heldZ (fun w' => w'.cell? ⟨g, 0, none⟩ = some (.slice (some ⟨b, off, none⟩) n cp)) 19 (by kernel_rfl) ?_
  have hS0 := HK.out W.drew (Chg.drew (Chg.refl _ _))
  refine wpAnyZ_take (i := 0) (v := ?_) (List.getElem?_toArray.trans rfl) (by kernel_rfl) (by kernel_rfl) (by kernel_rfl) (by kernel_rfl) (fun _ _ _ h => h) (Or.inl ⟨by rfl, ?_⟩) hS0 ?_; rotate_left; · intro w hSw; (try dsimp only at hSw); go_simp; (try with_reducible rfl)
  try simp only [puts]
  refine wpAnyZ_take (i := 2) (v := ?_) (List.getElem?_toArray.trans rfl) (by kernel_rfl) (by kernel_rfl) (by kernel_rfl) (by kernel_rfl) (fun _ _ _ h => h) (Or.inl ⟨by rfl, ?_⟩) hS0 ?_; rotate_left; · intro w hSw; (try dsimp only at hSw); go_simp; (try with_reducible rfl)
  try simp only [puts]
  refine wpAnyZ_take (i := 3) (v := ?_) (List.getElem?_toArray.trans rfl) (by kernel_rfl) (by kernel_rfl) (by kernel_rfl) (by kernel_rfl) (fun _ _ _ h => h) (Or.inl ⟨by rfl, ?_⟩) hS0 ?_; rotate_left; · intro w hSw; (try dsimp only at hSw); go_simp; (try with_reducible rfl)
  try simp only [puts]
  refine wpAnyZ_take (i := 4) (v := ?_) (List.getElem?_toArray.trans rfl) (by kernel_rfl) (by kernel_rfl) (by kernel_rfl) (by kernel_rfl) (fun _ _ _ h => h) (Or.inl ⟨by rfl, ?_⟩) hS0 ?_; rotate_left; · intro w hSw; (try dsimp only at hSw); go_simp; (try with_reducible rfl)
  try simp only [puts]
  refine wpAnyZ_take (i := 5) (v := ?_) (List.getElem?_toArray.trans rfl) (by kernel_rfl) (by kernel_rfl) (by kernel_rfl) (by kernel_rfl) (fun _ _ _ h => h) (Or.inl ⟨by rfl, ?_⟩) hS0 ?_; rotate_left; · intro w hSw; (try dsimp only at hSw); go_simp; (try with_reducible rfl)
  try simp only [puts]
  refine wpAnyZ_take (i := 6) (v := ?_) (List.getElem?_toArray.trans rfl) (by kernel_rfl) (by kernel_rfl) (by kernel_rfl) (by kernel_rfl) (fun _ _ _ h => h) (Or.inl ⟨by rfl, ?_⟩) hS0 ?_; rotate_left; · intro w hSw; (try dsimp only at hSw); go_simp; (try with_reducible rfl)
  try simp only [puts]
  refine wpAnyZ_take (i := 7) (v := ?_) (List.getElem?_toArray.trans rfl) (by kernel_rfl) (by kernel_rfl) (by kernel_rfl) (by kernel_rfl) (fun _ _ _ h => h) (Or.inl ⟨by rfl, ?_⟩) hS0 ?_; rotate_left; · intro w hSw; (try dsimp only at hSw); go_simp; (try with_reducible rfl)
  try simp only [puts]
  refine wpAnyZ_take (i := 9) (v := ?_) (List.getElem?_toArray.trans rfl) (by kernel_rfl) (by kernel_rfl) (by kernel_rfl) (by kernel_rfl) (fun _ _ _ h => h) (Or.inl ⟨by rfl, ?_⟩) hS0 ?_; rotate_left; · intro w hSw; (try dsimp only at hSw); go_simp; (try with_reducible rfl)
  try simp only [puts]
  refine wpAnyZ_take (i := 10) (v := ?_) (List.getElem?_toArray.trans rfl) (by kernel_rfl) (by kernel_rfl) (by kernel_rfl) (by kernel_rfl) (fun _ _ _ h => h) (Or.inl ⟨by rfl, ?_⟩) hS0 ?_; rotate_left; · intro w hSw; (try dsimp only at hSw); go_simp; (try with_reducible rfl)
  try simp only [puts]
  refine wpAnyZ_take (i := 11) (v := ?_) (List.getElem?_toArray.trans rfl) (by kernel_rfl) (by kernel_rfl) (by kernel_rfl) (by kernel_rfl) (fun _ _ _ h => h) (Or.inl ⟨by rfl, ?_⟩) hS0 ?_; rotate_left; · intro w hSw; (try dsimp only at hSw); go_simp; (try with_reducible rfl)
  try simp only [puts]
  refine wpAnyZ_take (i := 12) (v := ?_) (List.getElem?_toArray.trans rfl) (by kernel_rfl) (by kernel_rfl) (by kernel_rfl) (by kernel_rfl) (fun _ _ _ h => h) (Or.inl ⟨by rfl, ?_⟩) hS0 ?_; rotate_left; · intro w hSw; (try dsimp only at hSw); go_simp; (try with_reducible rfl)
  try simp only [puts]
  refine wpAnyZ_take (i := 13) (v := ?_) (List.getElem?_toArray.trans rfl) (by kernel_rfl) (by kernel_rfl) (by kernel_rfl) (by kernel_rfl) (fun _ _ _ h => h) (Or.inl ⟨by rfl, ?_⟩) hS0 ?_; rotate_left; · intro w hSw; (try dsimp only at hSw); go_simp; (try with_reducible rfl)
  try simp only [puts]
  refine wpAnyZ_take (i := 14) (v := ?_) (List.getElem?_toArray.trans rfl) (by kernel_rfl) (by kernel_rfl) (by kernel_rfl) (by kernel_rfl) (fun _ _ _ h => h) (Or.inl ⟨by rfl, ?_⟩) hS0 ?_; rotate_left; · intro w hSw; (try dsimp only at hSw); go_simp; (try with_reducible rfl)
  try simp only [puts]
  refine wpAnyZ_take (i := 15) (v := ?_) (List.getElem?_toArray.trans rfl) (by kernel_rfl) (by kernel_rfl) (by kernel_rfl) (by kernel_rfl) (fun _ _ _ h => h) (Or.inl ⟨by rfl, ?_⟩) hS0 ?_; rotate_left; · intro w hSw; (try dsimp only at hSw); go_simp; (try with_reducible rfl)
  try simp only [puts]
  refine wpAnyZ_one (i := 1) (by kernel_rfl) (List.getElem?_toArray.trans rfl) (fun K' hK => ?_)
  go_simp
  refine hK _ _ (fun _ => HK.out _ (Chg.alloc (Chg.drew (Chg.refl _ _)) _)) ?_
  try simp only [puts]
  clear hK
  refine wpAnyZ_one (i := 8) (by kernel_rfl) (List.getElem?_toArray.trans rfl) (fun K' hK => ?_)
  refine step_appS (by rfl) (.tmp 120) (.tmp 126) _ (by rfl) slP (by rfl) (base := W.heap.size) (by exact own_lit W.drew W.heap.size _ 3 #[] 0 (Nat.le_refl _) (by decide) rfl) (by rfl) B.out.2.2.1 (by exact Hrd1.out.alloc _) (one_is3 _) B.out.1 B.out.2.1 (by simp) ?_
  intro A5 c5 w5 hown5 hchg5 hat5
  have hcz : Same W w5 := ((Chg.alloc (Chg.drew (Chg.refl _ W)) _).trans hchg5 (by intro k hk h; simp [blkOf] at h; omega))
  have Hown5 := hide hown5
  have Hs5 := hide hcz
  clear hown5 hchg5 hat5 hcz
  refine hK _ _ (fun _ => HK.out _ Hs5.out) ?_
  try simp only [puts]
  clear hK
  refine wpAnyZ_one (i := 16) (by kernel_rfl) (List.getElem?_toArray.trans rfl) (fun K' hK => ?_)
  refine step_appS (by rfl) (.tmp 127) (.tmp 134) _ (by rfl) slP (by rfl) (base := W.heap.size) (by exact Hown5.out) (by rfl) B.out.2.2.2 (by exact Hrd2.out.same Hs5.out) (one_is3 _) (by omega) (by omega) (by exact Hs5.out.size) ?_
  intro A7 c7 w7 hown7 hchg7 hat7
  have hcz : Same W w7 := Hs5.out.app Hown5.out (Nat.le_refl _) hchg7
  have hg7 := (H.out.same (Same.trans HsW0.out hcz)).blk
  have hkg7 := hg7.cell
  have hzg7 := hg7.frozen
  have hS7 := HK.out _ hcz
  have Hown7 := hide hown7
  have Hs7 := hide hcz
  have Hb7 := hide (HbW.out.same hcz)
  clear hown7 hchg7 hat7 hcz hg7
  refine hK _ _ (fun _ => hS7) ?_
  try simp only [puts]
  clear hK
  refine wpAnyZ_one (i := 17) (by kernel_rfl) (List.getElem?_toArray.trans rfl) (fun K' hK => ?_)
  go_simp
  refine hK _ _ (fun _ => hS7) ?_
  try simp only [puts]
  clear hK
  refine wpAnyZ_one (i := 18) (by kernel_rfl) (List.getElem?_toArray.trans rfl) (fun K' hK => ?_)
  go_simp
  refine hK _ _ (fun _ => hS7) ?_
  try simp only [puts]
  clear hK
  refine wpAnyZ_one (i := 19) (by kernel_rfl) (List.getElem?_toArray.trans rfl) (fun K' hK => ?_)
  go_simp
  refine hK _ _ (fun h => absurd rfl h) ?_
  try simp only [puts]
  clear hK hS7 hS0
  refine wpAnyZ_done (by kernel_rfl) (NoPanic.normal ?_) _
  have hlb := HbW.out.lt
  have hlg := H.out.blk.lt
  obtain ⟨w8, hw8⟩ : ∃ w8, w8 = w7.setCell ⟨g, 0, none⟩ (.slice A7 (m + (n - (m + 1))) c7) := ⟨_, rfl⟩
  have hb8 := Hb7.out.far (p := ⟨g, 0, none⟩) (by show ¬ w.heap.size + 1 = g; omega) (.slice A7 (m + (n - (m + 1))) c7)
  have hy8 := (HyW.out.same Hs7.out).far (p := ⟨g, 0, none⟩) (by show ¬ w1.heap.size = g; omega) (.slice A7 (m + (n - (m + 1))) c7)
  rw [← hw8] at hb8 hy8 ⊢
  have hkb8 := hb8.cell
  have hzb8 := hb8.frozen
  have hky8 := hy8.cell
  have Hw8 := hide hw8
  clear hw8 hb8 hy8 hkg7 hzg7
  go_wp2_with fail
  have hw8 := Hw8.out
  subst hw8
  have h7 := Hown7.out
  try rw [Nat.zero_add] at h7
  have e7 : del3 pi p = p.take m ++ p.drop (m + 1) := Hdel.out
  have hl7 : (del3 pi p).length = m + (n - (m + 1)) := by rw [e7]; have := Hn.out; simp; omega
  have hE := doR_endP (base := W.heap.size) (l := del3 pi p) H.out (Same.trans HsW0.out Hs7.out) Hb7.out (by omega) (by rw [e7, is3_append]; simpa using h7) (by omega) hl7 (.int .i64 1) (.int .i64 y1) (.int .i64 y2) (.int .i64 y3) (.int .i64 0) (.int .i64 0) (.int .i64 0)
  try simp only [Exit.inBlock, Exit.then]
  refine bodyPost_ret (results_cell2 rfl rfl hE.1 Tryz.underlying29 rfl (by kernel_rfl)) rfl ⟨rfl, A7, c7, hE.2.1, hE.2.2.1, hE.2.2.2⟩
theorem doR_4 {g cp cs : Nat} {AP AS : Option Addr} {most : Int} {p s : List P3} (q x : P3) (w : World) (h : SetR w g AP cp AS cs most p s) (hp : p.length ≤ 65535) (hs : s.length ≤ 65535) (hsrt : Srt s) (hm : mayE p s most ⟨4, q, x⟩ = 0) :
    Calls Tryz.prog 34 #[.pointer (some ⟨g, 0, none⟩), cgV ⟨4, q, x⟩] w fun e w' => e = .returned (.tuple #[cgV ⟨3, z3, (find3 s x.1).getD z3⟩, .int .i64 0]) ∧ DoneS w w' g AP cp most p (del3 x.1 s) := by
  obtain ⟨_, hadd, hdrop, _⟩ := may_zero hm
  have HM := hide (fun w' (hs' : Same w w') => mayR_any ⟨4, q, x⟩ w' (h.same hs') (by omega) (by omega))
  rw [hm] at HM
  have hsm : Same w ((w.alloc (.cells (bx ⟨4, q, x⟩) 29)).alloc (.cells (bx ⟨0, z3, z3⟩) 29)) := ((Chg.refl _ w).alloc _).alloc _
  have hc := (Blk.new w 29 (bx ⟨4, q, x⟩)).alloc (.cells (bx ⟨0, z3, z3⟩) 29)
  have hb := Blk.new (w.alloc (.cells (bx ⟨4, q, x⟩) 29)) 29 (bx ⟨0, z3, z3⟩)
  rw [show (w.alloc (.cells (bx ⟨4, q, x⟩) 29)).heap.size = w.heap.size + 1 by simp] at hb
  have H := hide h
  have Hs := hide hsm
  have Hb := hide hb
  have Hc := hide hc
  clear hsm h hb hc hm
  have hyes : hasK s x.1 = true := hdrop rfl
  have hpl := pos3_lt hyes
  have hfd : (find3 s x.1).getD z3 = s[pos3 s x.1] := by rw [find3_pos hyes]; rfl
  have Hdel := hide (del3_pos hsrt hyes)
  have HA := hide (fun w' (hs' : Same w w') => (show Calls Tryz.prog 60 #[.pointer (some ⟨g, 0, none⟩), .int .i64 x.1] w' fun e w'' => e = .returned (.int .i64 (pos3 s x.1 : Nat)) ∧ w' = w'' from at3_in hyes ▸ spanAt_any x.1 w' (H.out.same hs') (by omega)))
  rw [hfd]
  generalize pos3 s x.1 = m at *
  obtain ⟨b, off, hA, hbl, hc0, hc1, hc2⟩ := H.out.rs.at_ hpl
  subst hA
  obtain ⟨y, hy⟩ : ∃ y, s[m] = y := ⟨_, rfl⟩
  rw [hy] at hc0 hc1 hc2 ⊢
  obtain ⟨y1, y2, y3⟩ := y
  have HR := hide H.out.rs
  obtain ⟨n, hnn⟩ : ∃ n, n = s.length := ⟨_, rfl⟩
  have Hn := hide hnn
  have hn6 : n ≤ 65535 := by omega
  have hmn : m < n := by omega
  have Hkt : Hid (∀ w', Same w w' → w'.cell? ⟨g, 1, none⟩ = some (.slice (some ⟨b, off, none⟩) n cs)) := hide fun w' h => by have := (H.out.same h).blk.cell 1; rw [hnn]; exact this
  have hwr : IntKind.i64.wrap ((m : Int) + 1) = (m : Int) + 1 := IntWalk.i64_in _ (by omega)
  have Hc0 := hide hc0
  have Hc1 := hide hc1
  have Hc2 := hide hc2
  clear hadd hdrop hyes hpl hfd hnn hp hs hy hc0 hc1 hc2 hsrt
  obtain ⟨pi, px, py⟩ := q
  obtain ⟨si, lo, hi⟩ := x
  unfold cgV bx z3 at *
  go_enter Tryz.func34, Tryz.ntmps34
  go_wp2_with (first
    | (go_at_call 58; refine (HM.out _ Hs.out).mono ?_; rintro e w1 ⟨rfl, hs1⟩; have hk1 := (Hc.out.same hs1).cell; have bb1 := (Hb.out.same hs1).lt; have hw1 := Same.trans Hs.out hs1; have he0 := (hw1.cell (p := ⟨b, off + m * 3, none⟩) hbl (fun h => h)).trans Hc0.out; have he1 := (hw1.cell (p := ⟨b, off + m * 3 + 1, none⟩) hbl (fun h => h)).trans Hc1.out; have he2 := (hw1.cell (p := ⟨b, off + m * 3 + 2, none⟩) hbl (fun h => h)).trans Hc2.out; have hkt := Hkt.out _ hw1; have Hs1 := hide hw1; have Hc1' := hide (Hc.out.same hs1); have Hb1 := hide (Hb.out.same hs1); clear hs1 hw1)
    | (go_at_call 60; have hF := HA.out w1 Hs1.out; refine hF.mono ?_; rintro e w2 ⟨rfl, hww⟩; subst hww; clear hF))
  have hal : Same w1 (w1.alloc (.cells #[.int .i64 y1, .int .i64 y2, .int .i64 y3] 27)) := (Chg.refl _ w1).alloc _
  have hyW := Blk.new w1 27 #[.int .i64 y1, .int .i64 y2, .int .i64 y3]
  generalize w1.alloc (.cells #[.int .i64 y1, .int .i64 y2, .int .i64 y3] 27) = W at *
  have HsW0 := hide (Same.trans Hs1.out hal)
  have HbW := hide (Hb1.out.same hal)
  have HcW := hide (Hc1'.out.same hal)
  have HyW := hide hyW
  have HK : Hid (∀ w', Same W w' → w'.cell? ⟨g, 1, none⟩ = some (.slice (some ⟨b, off, none⟩) n cs)) := hide fun w' h => Hkt.out _ (Same.trans HsW0.out h)
  have hR := HR.out.same HsW0.out
  have hcn := hR.2.2.1
  have hcm := hR.2.2.2.1
  unfold maxLen at hcm
  have H1 := cut_hi slS (some ⟨b, off, none⟩) n cs .i64 (m : Int) m rfl (by rw [← Hn.out] at hcn; omega)
  obtain ⟨A2, H2, hrd2, hbk2⟩ := cut_lo (n := n) slS hR.1 (by rw [is3_len, Hn.out]) (by rw [Hn.out]; exact hcn) .i64 ((m : Int) + 1) (m + 1) (by omega) (by omega)
  have Hrd1 : Hid (Rd W (some ⟨b, off, none⟩) (is3 (s.take m))) := hide (by have := hR.1.take (m * 3); rw [is3_take] at this; exact this)
  have Hrd2 : Hid (Rd W A2 (is3 (s.drop (m + 1)))) := hide (by rw [is3_drop] at hrd2; exact hrd2)
  have b1 : (0 + m) * 24 ≤ 140737488355328 := by omega
  have b2 : 0 + m ≤ 140737488355328 := by omega
  have b7 : (is3 (s.take m)).length = m * 3 := by rw [is3_len, List.length_take]; have := Hn.out; congr 1; omega
  have b8 : (is3 (s.drop (m + 1))).length = (n - (m + 1)) * 3 := by rw [is3_len, List.length_drop, Hn.out]
  have B := hide (And.intro b1 (And.intro b2 (And.intro b7 b8)))
  clear hR hcn hcm hrd2 hbk2 b1 b2 b7 b8 hkt hk1 he0 he1 he2 hal hyW
  refine wp_region_heldZ (fun w' => w'.cell? ⟨g, 1, none⟩ = some (.slice (some ⟨b, off, none⟩) n cs)) 19 (by kernel_rfl) ?_
  have hS0 := HK.out W.drew (Chg.drew (Chg.refl _ _))
  refine wpAnyZ_take (i := 0) (v := ?_) (List.getElem?_toArray.trans rfl) (by kernel_rfl) (by kernel_rfl) (by kernel_rfl) (by kernel_rfl) (fun _ _ _ h => h) (Or.inl ⟨by rfl, ?_⟩) hS0 ?_; rotate_left; · intro w hSw; (try dsimp only at hSw); go_simp; (try with_reducible rfl)
  try simp only [puts]
  refine wpAnyZ_take (i := 2) (v := ?_) (List.getElem?_toArray.trans rfl) (by kernel_rfl) (by kernel_rfl) (by kernel_rfl) (by kernel_rfl) (fun _ _ _ h => h) (Or.inl ⟨by rfl, ?_⟩) hS0 ?_; rotate_left; · intro w hSw; (try dsimp only at hSw); go_simp; (try with_reducible rfl)
  try simp only [puts]
  refine wpAnyZ_take (i := 3) (v := ?_) (List.getElem?_toArray.trans rfl) (by kernel_rfl) (by kernel_rfl) (by kernel_rfl) (by kernel_rfl) (fun _ _ _ h => h) (Or.inl ⟨by rfl, ?_⟩) hS0 ?_; rotate_left; · intro w hSw; (try dsimp only at hSw); go_simp; (try with_reducible rfl)
  try simp only [puts]
  refine wpAnyZ_take (i := 4) (v := ?_) (List.getElem?_toArray.trans rfl) (by kernel_rfl) (by kernel_rfl) (by kernel_rfl) (by kernel_rfl) (fun _ _ _ h => h) (Or.inl ⟨by rfl, ?_⟩) hS0 ?_; rotate_left; · intro w hSw; (try dsimp only at hSw); go_simp; (try with_reducible rfl)
  try simp only [puts]
  refine wpAnyZ_take (i := 5) (v := ?_) (List.getElem?_toArray.trans rfl) (by kernel_rfl) (by kernel_rfl) (by kernel_rfl) (by kernel_rfl) (fun _ _ _ h => h) (Or.inl ⟨by rfl, ?_⟩) hS0 ?_; rotate_left; · intro w hSw; (try dsimp only at hSw); go_simp; (try with_reducible rfl)
  try simp only [puts]
  refine wpAnyZ_take (i := 6) (v := ?_) (List.getElem?_toArray.trans rfl) (by kernel_rfl) (by kernel_rfl) (by kernel_rfl) (by kernel_rfl) (fun _ _ _ h => h) (Or.inl ⟨by rfl, ?_⟩) hS0 ?_; rotate_left; · intro w hSw; (try dsimp only at hSw); go_simp; (try with_reducible rfl)
  try simp only [puts]
  refine wpAnyZ_take (i := 7) (v := ?_) (List.getElem?_toArray.trans rfl) (by kernel_rfl) (by kernel_rfl) (by kernel_rfl) (by kernel_rfl) (fun _ _ _ h => h) (Or.inl ⟨by rfl, ?_⟩) hS0 ?_; rotate_left; · intro w hSw; (try dsimp only at hSw); go_simp; (try with_reducible rfl)
  try simp only [puts]
  refine wpAnyZ_take (i := 9) (v := ?_) (List.getElem?_toArray.trans rfl) (by kernel_rfl) (by kernel_rfl) (by kernel_rfl) (by kernel_rfl) (fun _ _ _ h => h) (Or.inl ⟨by rfl, ?_⟩) hS0 ?_; rotate_left; · intro w hSw; (try dsimp only at hSw); go_simp; (try with_reducible rfl)
  try simp only [puts]
  refine wpAnyZ_take (i := 10) (v := ?_) (List.getElem?_toArray.trans rfl) (by kernel_rfl) (by kernel_rfl) (by kernel_rfl) (by kernel_rfl) (fun _ _ _ h => h) (Or.inl ⟨by rfl, ?_⟩) hS0 ?_; rotate_left; · intro w hSw; (try dsimp only at hSw); go_simp; (try with_reducible rfl)
  try simp only [puts]
  refine wpAnyZ_take (i := 11) (v := ?_) (List.getElem?_toArray.trans rfl) (by kernel_rfl) (by kernel_rfl) (by kernel_rfl) (by kernel_rfl) (fun _ _ _ h => h) (Or.inl ⟨by rfl, ?_⟩) hS0 ?_; rotate_left; · intro w hSw; (try dsimp only at hSw); go_simp; (try with_reducible rfl)
  try simp only [puts]
  refine wpAnyZ_take (i := 12) (v := ?_) (List.getElem?_toArray.trans rfl) (by kernel_rfl) (by kernel_rfl) (by kernel_rfl) (by kernel_rfl) (fun _ _ _ h => h) (Or.inl ⟨by rfl, ?_⟩) hS0 ?_; rotate_left; · intro w hSw; (try dsimp only at hSw); go_simp; (try with_reducible rfl)
  try simp only [puts]
  refine wpAnyZ_take (i := 13) (v := ?_) (List.getElem?_toArray.trans rfl) (by kernel_rfl) (by kernel_rfl) (by kernel_rfl) (by kernel_rfl) (fun _ _ _ h => h) (Or.inl ⟨by rfl, ?_⟩) hS0 ?_; rotate_left; · intro w hSw; (try dsimp only at hSw); go_simp; (try with_reducible rfl)
  try simp only [puts]
  refine wpAnyZ_take (i := 14) (v := ?_) (List.getElem?_toArray.trans rfl) (by kernel_rfl) (by kernel_rfl) (by kernel_rfl) (by kernel_rfl) (fun _ _ _ h => h) (Or.inl ⟨by rfl, ?_⟩) hS0 ?_; rotate_left; · intro w hSw; (try dsimp only at hSw); go_simp; (try with_reducible rfl)
  try simp only [puts]
  refine wpAnyZ_take (i := 15) (v := ?_) (List.getElem?_toArray.trans rfl) (by kernel_rfl) (by kernel_rfl) (by kernel_rfl) (by kernel_rfl) (fun _ _ _ h => h) (Or.inl ⟨by rfl, ?_⟩) hS0 ?_; rotate_left; · intro w hSw; (try dsimp only at hSw); go_simp; (try with_reducible rfl)
  try simp only [puts]
  refine wpAnyZ_one (i := 1) (by kernel_rfl) (List.getElem?_toArray.trans rfl) (fun K' hK => ?_)
  go_simp
  refine hK _ _ (fun _ => HK.out _ (Chg.alloc (Chg.drew (Chg.refl _ _)) _)) ?_
  try simp only [puts]
  clear hK
  refine wpAnyZ_one (i := 8) (by kernel_rfl) (List.getElem?_toArray.trans rfl) (fun K' hK => ?_)
  refine step_appS (by rfl) (.tmp 35) (.tmp 41) _ (by rfl) slS (by rfl) (base := W.heap.size) (by exact own_lit W.drew W.heap.size _ 3 #[] 0 (Nat.le_refl _) (by decide) rfl) (by rfl) B.out.2.2.1 (by exact Hrd1.out.alloc _) (one_is3 _) B.out.1 B.out.2.1 (by simp) ?_
  intro A5 c5 w5 hown5 hchg5 hat5
  have hcz : Same W w5 := ((Chg.alloc (Chg.drew (Chg.refl _ W)) _).trans hchg5 (by intro k hk h; simp [blkOf] at h; omega))
  have Hown5 := hide hown5
  have Hs5 := hide hcz
  clear hown5 hchg5 hat5 hcz
  refine hK _ _ (fun _ => HK.out _ Hs5.out) ?_
  try simp only [puts]
  clear hK
  refine wpAnyZ_one (i := 16) (by kernel_rfl) (List.getElem?_toArray.trans rfl) (fun K' hK => ?_)
  refine step_appS (by rfl) (.tmp 42) (.tmp 49) _ (by rfl) slS (by rfl) (base := W.heap.size) (by exact Hown5.out) (by rfl) B.out.2.2.2 (by exact Hrd2.out.same Hs5.out) (one_is3 _) (by omega) (by omega) (by exact Hs5.out.size) ?_
  intro A7 c7 w7 hown7 hchg7 hat7
  have hcz : Same W w7 := Hs5.out.app Hown5.out (Nat.le_refl _) hchg7
  have hg7 := (H.out.same (Same.trans HsW0.out hcz)).blk
  have hkg7 := hg7.cell
  have hzg7 := hg7.frozen
  have hS7 := HK.out _ hcz
  have Hown7 := hide hown7
  have Hs7 := hide hcz
  have Hb7 := hide (HbW.out.same hcz)
  clear hown7 hchg7 hat7 hcz hg7
  refine hK _ _ (fun _ => hS7) ?_
  try simp only [puts]
  clear hK
  refine wpAnyZ_one (i := 17) (by kernel_rfl) (List.getElem?_toArray.trans rfl) (fun K' hK => ?_)
  go_simp
  refine hK _ _ (fun _ => hS7) ?_
  try simp only [puts]
  clear hK
  refine wpAnyZ_one (i := 18) (by kernel_rfl) (List.getElem?_toArray.trans rfl) (fun K' hK => ?_)
  go_simp
  refine hK _ _ (fun _ => hS7) ?_
  try simp only [puts]
  clear hK
  refine wpAnyZ_one (i := 19) (by kernel_rfl) (List.getElem?_toArray.trans rfl) (fun K' hK => ?_)
  go_simp
  refine hK _ _ (fun h => absurd rfl h) ?_
  try simp only [puts]
  clear hK hS7 hS0
  refine wpAnyZ_done (by kernel_rfl) (NoPanic.normal ?_) _
  have hlb := HbW.out.lt
  have hlg := H.out.blk.lt
  obtain ⟨w8, hw8⟩ : ∃ w8, w8 = w7.setCell ⟨g, 1, none⟩ (.slice A7 (m + (n - (m + 1))) c7) := ⟨_, rfl⟩
  have hb8 := Hb7.out.far (p := ⟨g, 1, none⟩) (by show ¬ w.heap.size + 1 = g; omega) (.slice A7 (m + (n - (m + 1))) c7)
  have hy8 := (HyW.out.same Hs7.out).far (p := ⟨g, 1, none⟩) (by show ¬ w1.heap.size = g; omega) (.slice A7 (m + (n - (m + 1))) c7)
  rw [← hw8] at hb8 hy8 ⊢
  have hkb8 := hb8.cell
  have hzb8 := hb8.frozen
  have hky8 := hy8.cell
  have Hw8 := hide hw8
  clear hw8 hb8 hy8 hkg7 hzg7
  go_wp2_with fail
  have hw8 := Hw8.out
  subst hw8
  have h7 := Hown7.out
  try rw [Nat.zero_add] at h7
  have e7 : del3 si s = s.take m ++ s.drop (m + 1) := Hdel.out
  have hl7 : (del3 si s).length = m + (n - (m + 1)) := by rw [e7]; have := Hn.out; simp; omega
  have hE := doR_endS (base := W.heap.size) (l := del3 si s) H.out (Same.trans HsW0.out Hs7.out) Hb7.out (by omega) (by rw [e7, is3_append]; simpa using h7) (by omega) hl7 (.int .i64 3) (.int .i64 0) (.int .i64 0) (.int .i64 0) (.int .i64 y1) (.int .i64 y2) (.int .i64 y3)
  try simp only [Exit.inBlock, Exit.then]
  refine bodyPost_ret (results_cell2 rfl rfl hE.1 Tryz.underlying29 rfl (by kernel_rfl)) rfl ⟨rfl, A7, c7, hE.2.1, hE.2.2.1, hE.2.2.2⟩
end
end Go.Proofs.YtlimpepdelpogaaGreatDoor
/-! TcE -/
namespace Go.Proofs.YtlimpepdelpogaaGreatDoor
open Go.RowKit Go.Al
set_option linter.unusedVariables false
set_option maxHeartbeats 2000000
set_option maxRecDepth 100000
/-- a slice that came of another: it lies in the same block, or in a fresh one -/
def From3 (w : World) (A A' : Option Addr) : Prop := ∀ b, blkOf A' = some b → blkOf A = some b ∨ w.heap.size ≤ b
theorem doR_any {g cp cs : Nat} {AP AS : Option Addr} {most : Int} {p s : List P3} (c : Cg) (w : World) (h : SetR w g AP cp AS cs most p s) (hp : p.length ≤ 65535) (hs : s.length ≤ 65535) (sp : Srt p) (ss : Srt s) :
    Calls Tryz.prog 34 #[.pointer (some ⟨g, 0, none⟩), cgV c] w fun e w' => e = .returned (.tuple #[cgV (doB p s most c), .int .i64 (mayE p s most c)]) ∧
      ∃ AP' cp' AS' cs', SetR w' g AP' cp' AS' cs' most (doP' p s most c) (doS' p s most c) ∧ Chg (fun k => k = g) w w' ∧ From3 w AP AP' ∧ From3 w AS AS' := by
  unfold doB doP' doS'
  by_cases hm : mayE p s most c = 0
  · rw [if_pos hm, if_pos hm, if_pos hm, hm]
    obtain ⟨hk, _⟩ := may_zero hm
    obtain ⟨k, q, x⟩ := c
    simp only at hk
    rcases hk with rfl | rfl | rfl | rfl
    · exact (doR_1 q x w h hp hs hm).mono fun e w' ⟨he, A', c', h1, h2, h3⟩ => ⟨he, A', c', AS, cs, h1, h2, fun b hb => .inr (h3 b hb), fun b hb => .inl hb⟩
    · exact (doR_2 q x w h hp hs sp hm).mono fun e w' ⟨he, A', c', h1, h2, h3⟩ => ⟨he, A', c', AS, cs, h1, h2, fun b hb => .inr (h3 b hb), fun b hb => .inl hb⟩
    · exact (doR_3 q x w h hp hs hm).mono fun e w' ⟨he, A', c', h1, h2, h3⟩ => ⟨he, AP, cp, A', c', h1, h2, fun b hb => .inl hb, fun b hb => .inr (h3 b hb)⟩
    · exact (doR_4 q x w h hp hs ss hm).mono fun e w' ⟨he, A', c', h1, h2, h3⟩ => ⟨he, AP, cp, A', c', h1, h2, fun b hb => .inl hb, fun b hb => .inr (h3 b hb)⟩
  · rw [if_neg hm, if_neg hm, if_neg hm]
    exact (doR_bad c w h hp hs hm).mono fun e w' ⟨he, hs⟩ => ⟨he, AP, cp, AS, cs, h.same hs, hs.to, fun b hb => .inl hb, fun b hb => .inl hb⟩
/-- what is just what the set has is told so -/
theorem sameR_eq {g cp cs c1 c2 : Nat} {AP AS A1 A2 : Option Addr} {most : Int} {p s : List P3} (w : World) (h : SetR w g AP cp AS cs most p s) (h1 : Row3 w A1 p.length c1 p) (h2 : Row3 w A2 s.length c2 s) (hp : p.length ≤ 65535) (hs : s.length ≤ 65535) :
    Calls Tryz.prog 9 #[.pointer (some ⟨g, 0, none⟩), .slice A1 p.length c1, .slice A2 s.length c2] w fun e w' => e = .returned (.bool true) ∧ Same w w' := by
  have Hrp := hide h.rp
  have Hrs := hide h.rs
  have H1 := hide h1
  have H2 := hide h2
  have Hkt := hide (fun w' (hs : Same w w') => (h.same hs).blk.cell)
  have hkt := h.blk.cell
  obtain ⟨n, hn⟩ : ∃ n, p.length = n := ⟨_, rfl⟩
  obtain ⟨m, hm⟩ : ∃ m, s.length = m := ⟨_, rfl⟩
  rw [hn, hm] at hkt ⊢
  rw [hn, hm] at Hkt
  have Hn := hide hn
  have Hm := hide hm
  have hn6 : n ≤ 65535 := by omega
  have hm6 : m ≤ 65535 := by omega
  clear h h1 h2 hp hs hn hm
  go_enter Tryz.func9, Tryz.ntmps9
  go_wp2_with fail
  go_loopg [7] n (fun k vi wr => ∃ i : Nat, i ≤ n ∧ k = n - i ∧ vi = .int .i64 i ∧ Same w wr)
  case atStart => exact ⟨0, Nat.zero_le _, rfl, rfl, Chg.refl _ _⟩
  case round =>
    obtain ⟨i, hi, hkk, rfl, hsm⟩ := hrel
    have Hk := hide hkk
    have Hsm := hide hsm
    have hktr := Hkt.out _ hsm
    clear hkk
    by_cases hlt : i < n
    · have hil : i < p.length := by rw [Hn.out]; exact hlt
      obtain ⟨b, off, rfl, hbl, hc0, hc1, hc2⟩ := (H1.out.same hsm).at_ hil
      obtain ⟨b2, off2, rfl, hbl2, hd0, hd1, hd2⟩ := (Hrp.out.same hsm).at_ hil
      obtain ⟨y1, y2, y3, hy⟩ : ∃ y1 y2 y3, p[i] = (y1, y2, y3) := ⟨_, _, _, rfl⟩
      rw [hy] at hc0 hc1 hc2 hd0 hd1 hd2
      simp only at hc0 hc1 hc2 hd0 hd1 hd2
      clear hsm hy hkt
      go_wp2_with fail
      go_quiet (fail)
      go_wp2_with fail
      go_roundg (n - (i + 1))
      case measure => have := Hk.out; omega
      case rel => exact ⟨i + 1, by omega, rfl, by go_num, Hsm.out.trans (Same.of_drewN _ _)⟩
    · clear hsm hkt
      go_wp2_with fail
      go_loopg [8] m (fun k vi wr' => ∃ j : Nat, j ≤ m ∧ k = m - j ∧ vi = .int .i64 j ∧ Same w wr')
      case atStart => exact ⟨0, Nat.zero_le _, rfl, rfl, Hsm.out⟩
      case round =>
        obtain ⟨j, hj, hkk, rfl, hsm⟩ := hrel
        have Hk2 := hide hkk
        have Hsm2 := hide hsm
        have hktr2 := Hkt.out _ hsm
        clear hkk hktr
        by_cases hlt2 : j < m
        · have hjl : j < s.length := by rw [Hm.out]; exact hlt2
          obtain ⟨b, off, rfl, hbl, hc0, hc1, hc2⟩ := (H2.out.same hsm).at_ hjl
          obtain ⟨b2, off2, rfl, hbl2, hd0, hd1, hd2⟩ := (Hrs.out.same hsm).at_ hjl
          obtain ⟨y1, y2, y3, hy⟩ : ∃ y1 y2 y3, s[j] = (y1, y2, y3) := ⟨_, _, _, rfl⟩
          rw [hy] at hc0 hc1 hc2 hd0 hd1 hd2
          simp only at hc0 hc1 hc2 hd0 hd1 hd2
          clear hsm hy
          go_wp2_with fail
          go_quiet (fail)
          go_wp2_with fail
          go_roundg (m - (j + 1))
          case measure => have := Hk2.out; omega
          case rel => exact ⟨j + 1, by omega, rfl, by go_num, Hsm2.out.trans (Same.of_drewN _ _)⟩
        · clear hsm
          go_wp2_with fail
          go_ret
          exact ⟨rfl, Hsm2.out⟩
end Go.Proofs.YtlimpepdelpogaaGreatDoor
