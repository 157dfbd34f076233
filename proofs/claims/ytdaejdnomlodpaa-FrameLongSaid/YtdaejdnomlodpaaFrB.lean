/-
  The stream's methods: New, feed, Feed, Waits, Broken, Reset. Conditions: the stream's cells are known, lengths are below 2^20.
-/
import Derived.Test.YtdaejdnomlodpaaFrA
namespace Go.Proofs.Ytdaejdnomlodpaa
open Go.RowKit Go.Al Go.Al.Fr
set_option linter.unusedVariables false

set_option maxHeartbeats 400000 in
theorem new_bad (most : Int) (w : World) (h : most < 1 ∨ 65535 < most) :
    Calls Try.prog 10 #[.int .i64 most] w fun e w' => e = .returned (.tuple #[.pointer none, .int .i64 1]) ∧ w = w' := by
  by_cases h1 : most < 1
  · clear h
    go_enter Try.func10, Try.ntmps10
    go_wp2
    go_ret2
    exact ⟨rfl, rfl⟩
  · have h2 : 65535 < most := by omega
    clear h
    go_enter Try.func10, Try.ntmps10
    go_wp2
    go_ret2
    exact ⟨rfl, rfl⟩

set_option maxHeartbeats 400000 in
theorem new_ok (most : Int) (w : World) (h1 : 1 ≤ most) (h2 : most ≤ 65535) :
    Calls Try.prog 10 #[.int .i64 most] w fun e w' => e = .returned (.tuple #[.pointer (some ⟨w.heap.size, 0, none⟩), .int .i64 0]) ∧ Stm w' w.heap.size most.toNat false [] none 0 ∧ Same w w' := by
  go_enter Try.func10, Try.ntmps10
  go_wp2
  go_ret2
  refine ⟨rfl, ⟨?_, Nat.le_refl _, Rd.nil _ _, TyA.none_ _ _⟩, (Chg.refl _ w).alloc _⟩
  have e : ((most.toNat : Nat) : Int) = most := by omega
  rw [e]
  exact Blk.new w _ _

/-- the error that tells whether a frame was too long -/
def errOf (br : Bool) : Int := if br then 11 else 0
/-- slices whose arrays lie from block B on -/
def Fresh5 (B : Nat) (xs : List Value) : Prop := ∀ A n c, Value.slice A n c ∈ xs → ∀ b, blkOf A = some b → B ≤ b
theorem Fresh5.nil (B : Nat) : Fresh5 B [] := fun _ _ _ h => by simp at h
theorem Fresh5.push {B : Nat} {xs : List Value} (h : Fresh5 B xs) {A : Option Addr} {n c : Nat} (hA : ∀ b, blkOf A = some b → B ≤ b) : Fresh5 B (xs ++ [.slice A n c]) := fun A' n' c' hm b hb => by
  rcases List.mem_append.1 hm with hm | hm
  · exact h A' n' c' hm b hb
  · simp at hm
    rw [hm.1] at hb
    exact hA b hb
/-- what feed's loop holds at its head: the frames that are done, the one that was told last, what is left -/
def FeedRel (most : Nat) (w0 : World) (g : Nat) (l0 : List UInt8) (k : Nat) (out f ok : Value) (wr : World) : Prop :=
  ∃ (n : Nat) (xs : List Value) (done : List (List UInt8)) (l : List UInt8) (br : Bool) (A : Option Addr) (c : Nat),
    wr.ownsRow w0.heap.size 25 1 out n xs ∧ Rows2 0 5 wr xs (done.map bs) ∧ Stm wr g most br l A c ∧ Chg (· = g) w0 wr ∧ l.length ≤ l0.length ∧ 2 * n ≤ l0.length ∧ Fresh5 w0.heap.size xs ∧ (∀ b, blkOf A = some b → w0.heap.size ≤ b) ∧
    ((ok = .bool false ∧ k = 0 ∧ all most l0 = (done, l, br)) ∨
     (ok = .bool true ∧ k = l.length + 1 ∧ 2 * n + 2 + l.length ≤ l0.length ∧ br = false ∧ ∃ fr A' c', f = .slice A' fr.length c' ∧ fr.length ≤ c' ∧ Rd wr A' (bs fr) ∧ Sfe 0 5 wr A' ∧ (∀ b, blkOf A' = some b → w0.heap.size ≤ b) ∧
        all most l0 = (done ++ fr :: (all most l).1, (all most l).2.1, (all most l).2.2)))

/-- what the next call of next tells -/
def NextTold (most : Nat) (w0 : World) (g : Nat) (l : List UInt8) (br : Bool) (A0 : Option Addr) (e : Ending) (w' : World) : Prop :=
  ∃ f ok, e = .returned (.tuple #[f, .bool ok]) ∧ Chg (· = g) w0 w' ∧ ∃ l' br' A' c', Stm w' g most br' l' A' c' ∧ (∀ b, blkOf A' = some b → blkOf A0 = some b) ∧
    ((ok = false ∧ all most l = ([], l', if br' then true else false) ∧ (br' = false → l' = l) ∧ (br = true → br' = true)) ∨
     (ok = true ∧ br' = br ∧ l'.length + 2 ≤ l.length ∧ ∃ fr A c, f = .slice A fr.length c ∧ fr.length ≤ c ∧ Rd w' A (bs fr) ∧ TyA w' 5 A ∧ (∀ b, blkOf A = some b → w0.heap.size ≤ b) ∧ all most l = (fr :: (all most l').1, (all most l').2.1, (all most l').2.2)))

theorem next_any (g most c : Nat) (l : List UInt8) (A : Option Addr) (w : World) (hs : Stm w g most false l A c) (hm : l.length ≤ 1048576) :
    Calls Try.prog 21 #[.pointer (some ⟨g, 0, none⟩)] w (NextTold most w g l false A) := by
  by_cases h1 : l.length < 2
  · refine (next_short g most c false l A w hs h1).mono fun e w' ⟨he, hw⟩ => ?_
    subst he; subst hw
    exact ⟨_, false, rfl, Chg.refl _ _, l, false, A, c, hs, fun _ h => h, .inl ⟨rfl, by simp [all_short h1], fun _ => rfl, id⟩⟩
  · by_cases h2 : most < need l
    · refine (next_long g most c false l A w hs (by omega) hm h2).mono fun e w' ⟨he, hst, hc⟩ => ?_
      subst he
      exact ⟨_, false, rfl, hc, [], true, none, 0, hst, fun _ h => by simp [blkOf] at h, .inl ⟨rfl, by simp [all_long (show 2 ≤ l.length by omega) h2], (fun h => by cases h), fun _ => rfl⟩⟩
    · by_cases h3 : l.length < 2 + need l
      · refine (next_wait g most c false l A w hs (by omega) hm (by omega) h3).mono fun e w' ⟨he, k, hw⟩ => ?_
        subst he; subst hw
        exact ⟨_, false, rfl, (Chg.refl _ _).drewN k, l, false, A, c, hs.drewN k, fun _ h => h, .inl ⟨rfl, by simp [all_wait (show 2 ≤ l.length by omega) (show need l ≤ most by omega) h3], fun _ => rfl, id⟩⟩
      · refine (next_frame g most c false l A w hs (by omega) hm (by omega) (by omega)).mono fun e w' ⟨v, A', c', he, hown, hst, hc, hbA⟩ => ?_
        subst he
        obtain ⟨Av, cv, rfl, hle, hrd, hty, _, _, hfr⟩ := own_form hown
        have e1 : need l = ((l.drop 2).take (need l)).length := by simp; omega
        exact ⟨_, true, rfl, hc, _, false, A', c', hst, fun _ h => by rw [← hbA]; exact h, .inr ⟨rfl, rfl, by simp; omega, (l.drop 2).take (need l), Av, cv, by rw [← e1], by rw [← e1]; exact hle, hrd, hty, hfr, all_frame (by omega) (by omega)⟩⟩

theorem Stm.chg {S : Nat → Prop} {w w' : World} {g most c : Nat} {br : Bool} {l : List UInt8} {A : Option Addr} (h : Stm w g most br l A c) (hc : Chg S w w') (hg : ¬ S g) (hA : ∀ b, b < w.heap.size → ty w b = some 5 → ¬ S b) : Stm w' g most br l A c :=
  ⟨h.1.chg hc hg, h.2.1, h.2.2.1.chg hc (fun b hb hlt => hA b hlt (h.2.2.2 b hb)), h.2.2.2.chg hc⟩
theorem Stm.chgA {S : Nat → Prop} {w w' : World} {g most c : Nat} {br : Bool} {l : List UInt8} {A : Option Addr} (h : Stm w g most br l A c) (hc : Chg S w w') (hg : ¬ S g) (hA : ∀ b, blkOf A = some b → ¬ S b) : Stm w' g most br l A c :=
  ⟨h.1.chg hc hg, h.2.1, h.2.2.1.chg hc (fun b hb _ => hA b hb), h.2.2.2.chg hc⟩
theorem Stm.same {w w' : World} {g most c : Nat} {br : Bool} {l : List UInt8} {A : Option Addr} (h : Stm w g most br l A c) (hc : Same w w') : Stm w' g most br l A c :=
  h.chg hc (fun hf => hf) (fun _ _ _ hf => hf)

set_option maxHeartbeats 1000000 in
theorem feed_any (g most c cb nb : Nat) (l b : List UInt8) (A Ab : Option Addr) (w : World) (hs : Stm w g most false l A c) (hb : Rd w Ab (bs b)) (hn : b.length = nb) (hm : l.length + nb ≤ 1048576) :
    Calls Try.prog 19 #[.pointer (some ⟨g, 0, none⟩), .slice Ab nb cb] w fun e w' => ∃ Ao co n xs l' br A' c', e = .returned (.tuple #[.slice Ao n co, .int .i64 (errOf br)]) ∧
      w'.ownsRow w.heap.size 25 1 (.slice Ao n co) n xs ∧ Rows2 0 5 w' xs ((all most (l ++ b)).1.map bs) ∧ Stm w' g most br l' A' c' ∧ Chg (· = g) w w' ∧
      n = (all most (l ++ b)).1.length ∧ br = (all most (l ++ b)).2.2 ∧ l' = (all most (l ++ b)).2.1 ∧ Fresh5 w.heap.size xs ∧ ∀ b, blkOf A' = some b → w.heap.size ≤ b := by
  have Hb := hide hs.1
  have Hr := hide hs.2.2.1
  have hc := hs.1.cell 0
  have hf := hs.1.frozen
  have hlt := hs.1.lt
  have Hbb := hide hb
  have Hn := hide hn
  clear hs hb hn
  go_enter Try.func19, Try.ntmps19
  go_wp2_with (first
  | (go_at_call 20; refine (clone_any _ _ l _ l.length rfl (by omega) Hr.out).mono ?_; rintro e w1 ⟨A1, c1, rfl, hown1, hsame1⟩
     have Hown1 := hide hown1
     have Hsame1 := hide hsame1
     clear hown1
     have hf1 : ∀ i, w1.frozen? ⟨g, i, none⟩ = _ := fun i => (hsame1.frozen (p := ⟨g, i, none⟩) hlt (fun hf => hf)).trans (hf i)
     have hsz1 := hsame1.size
     clear hsame1)
  | (at_builtin; refine wpList_appS rfl (.tmp 14) (.tmp 15) _ rfl slB rfl Hown1.out rfl (by have := Hn.out; simpa using this) (Hbb.out.same Hsame1.out) (one_bs b) (by omega) (by omega) hsz1 ?_; intro A2 c2 w2 hown2 hchg2 hat2
     have hB2 := (Hb.out.same Hsame1.out).chg hchg2 (fun h => by have := (Hown1.out.lt g (by rw [ownBlock_slice]; exact h)).1; omega)
     have hk2 := hB2.cell
     have hf2 := hB2.frozen
     have HB2 := hide hB2
     have Hown2 := hide hown2
     have Hchg2 := hide hchg2
     clear hB2 hown2 hchg2 hat2))
  have hS3 : Stm (w2.setCell ⟨g, 0, none⟩ (.slice A2 (l.length + nb) c2)) g most false (l ++ b) A2 c2 := by
    obtain ⟨A2', c2', hv, hle, hrd, hty, _⟩ := own_form Hown2.out
    cases hv
    refine ⟨?_, ?_, ?_, hty.chg ((Chg.refl (· = g) w2).setCell (.inl rfl) _)⟩
    · have := HB2.out.set_ 0 (.slice A2 (l.length + nb) c2)
      rw [← Hn.out] at this ⊢
      simpa using this
    · rw [List.length_append, Hn.out]; exact hle
    · rw [bs_append]
      exact hrd.setCell (hty.ne HB2.out.ty (by decide)) _
  have hC3 : Chg (· = g) w (w2.setCell ⟨g, 0, none⟩ (.slice A2 (l.length + nb) c2)) :=
    Chg.set1 ((Hsame1.out.to).trans Hchg2.out (fun k hk h => by have := (Hown1.out.lt k (by rw [ownBlock_slice]; exact h)).1; omega)) _ _
  have HC3 := hide hC3
  have HA2 := hide (show ∀ b, blkOf A2 = some b → w.heap.size ≤ b from fun b hb => (Hown2.out.lt b (by rw [ownBlock_slice]; exact hb)).1)
  clear hC3 hk2 hf2
  generalize (w2.setCell ⟨g, 0, none⟩ (.slice A2 (l.length + nb) c2)) = w3 at *
  refine (next_any g most c2 (l ++ b) A2 w3 hS3 (by rw [List.length_append, Hn.out]; exact hm)).mono ?_
  rintro e w4 ⟨f, ok, rfl, hC4, hT⟩
  have HT := hide hT
  have HC4 := hide hC4
  clear hT hC4 hS3
  go_wp2_with fail
  go_loopg [6, 7, 8] (l.length + nb + 1) (fun k out f ok wr => ∃ k', k' ≤ k ∧ FeedRel most w g (l ++ b) k' out f ok wr)
  case atStart =>
    have hle : (l ++ b).length = l.length + nb := by rw [List.length_append, Hn.out]
    obtain ⟨l', br', A', c', hst, hbA, hT⟩ := HT.out
    have hbA' : ∀ b, blkOf A' = some b → w.heap.size ≤ b := fun b hb => HA2.out b (hbA b hb)
    have hC : Chg (· = g) w w4 := HC3.out.trans HC4.out fun _ _ h => h
    have hnil : w4.ownsRow w.heap.size 25 1 (.slice none 0 0) 0 [] := World.ownsRow_nil _ _ _ _
    rcases hT with ⟨rfl, hall, _, _⟩ | ⟨rfl, hbr, hlen, fr, Af, cf, rfl, h1, h2, h3, h4, hall⟩
    · refine ⟨0, by omega, 0, [], [], l', br', A', c', hnil, Rows2.nil _ _ _, hst, hC, ?_, by omega, Fresh5.nil _, hbA', .inl ⟨rfl, rfl, ?_⟩⟩
      · have := all_rest_le most (l ++ b)
        rw [hall] at this
        exact this
      · rw [hall]; cases br' <;> rfl
    · refine ⟨l'.length + 1, by omega, 0, [], [], l', br', A', c', hnil, Rows2.nil _ _ _, hst, hC, by omega, by omega, Fresh5.nil _, hbA', .inr ⟨rfl, rfl, by omega, hbr, fr, Af, cf, rfl, h1, h2, Sfe.of_ty h3 _, fun b hb => Nat.le_trans HC3.out.size (h4 b hb), hall⟩⟩
  case round =>
    obtain ⟨k', hk', n, xs, done, l', br, A', c', hown, hrows, hst, hC, hl1, hl2, hfr5, hbA, hcase⟩ := hrel
    have Hfr5 := hide hfr5
    have HbA := hide hbA
    clear hfr5 hbA
    rcases hcase with ⟨rfl, _, hall⟩ | ⟨rfl, hk, hlen, rfl, fr, Af, cf, rfl, h1, h2, h3, h4, hall⟩
    · have Hall := hide hall
      have Hown := hide hown
      have Hrows := hide hrows
      have Hst := hide hst
      have HC := hide hC
      have hk := hst.1.cell
      obtain ⟨Ao, co, rfl, hco⟩ := own_form hown
      clear hown hrows hst hC hall hco
      go_wp2_with fail
      all_goals
        go_ret2
        have e1 := Hall.out
        have e2 : n = done.length := by have h1 := Hrows.out.1; have h2 := Hown.out.1; simp at h1; omega
        refine ⟨Ao, co, n, xs, l', br, A', c', by simp [*, errOf], Hown.out, ?_, Hst.out, HC.out, ?_, ?_, ?_⟩
        · rw [e1]; exact Hrows.out
        · rw [e1]; exact e2
        · rw [e1]
        · exact ⟨by rw [e1], Hfr5.out, HbA.out⟩
    · have e2 : n = done.length := by have h1 := hrows.1; have h2 := hown.1; simp at h1; omega
      obtain ⟨Ao, co, rfl, hco⟩ := own_form hown
      have hle : (l ++ b).length = l.length + nb := by rw [List.length_append, Hn.out]
      have Hall := hide hall
      have Hown := hide hown
      have Hrows := hide hrows
      have Hst := hide hst
      have HC := hide hC
      have Hf := hide h2
      have Hs := hide h3
      have H4 := hide h4
      have Hk := hide hk
      have He2 := hide e2
      have Hle := hide hle
      have hsz := hC.size
      have hln : l'.length + 2 * n + 2 ≤ 1048576 := by omega
      have hgk : l'.length < gk := by omega
      clear hown hrows hst hC hall hco h2 h3 h4 hk e2 hle
      go_wp2_with (first
      | (at_builtin; refine wpList_appS rfl (.tmp 30) (.tmp 32) _ rfl slBB rfl (Hown.out.alloc _) rfl rfl (rd_new wr _ _) (one_slice _ _ _) (by omega) (by omega) (by simp; omega) ?_; intro A5 c5 w5 hown5 hchg5 hat5
         have Hown5 := hide hown5
         have Hchg5 := hide hchg5
         clear hown5 hchg5 hat5))
      have hrow : ∀ k, blkOf Ao = some k → w.heap.size ≤ k ∧ ty wr k = some 25 := fun k hk => by
        have hb := (Hown.out.lt k (by rw [ownBlock_slice]; exact hk)).1
        exact ⟨hb, own_ty Hown.out (by rw [ownBlock_slice]; exact hk)⟩
      have hC5 : Chg (fun k => blkOf Ao = some k) wr w5 := ((Chg.refl _ wr).alloc _).trans Hchg5.out fun _ _ h => h
      have hS5 : Stm w5 g most false l' A' c' := Hst.out.chg hC5 (fun h => by have := (hrow g h).1; omega) (fun b _ hb h => by rw [(hrow b h).2] at hb; exact absurd (Option.some.inj hb) (by decide))
      have hAw : Away (fun k => blkOf Ao = some k) 0 5 wr := fun k _ hk => ⟨Nat.zero_le _, by rw [(hrow k hk).2]; decide⟩
      have hR5 : Rows2 0 5 w5 (xs ++ [.slice Af fr.length cf]) ((done ++ [fr]).map bs) := by
        rw [List.map_append]
        exact (Hrows.out.away hC5 hAw).push (by simp) h1 (Hf.out.away Hs.out hC5 hAw) (Hs.out.chg hC5)
      have HR5 := hide hR5
      have HC5 := hide (HC.out.trans hC5 (fun k hk h => by have := (hrow k h).1; omega))
      clear hC5 hAw hR5 hrow
      refine (next_any g most c' l' A' w5 hS5 (by omega)).mono ?_
      rintro e w6 ⟨f', ok', rfl, hC6, hT⟩
      have HT := hide hT
      have HC6 := hide hC6
      have HS5 := hide hS5
      clear hT hC6 hS5
      go_wp2_with fail
      obtain ⟨l2, br2, A2', c2', hst2, hbA2, hT⟩ := HT.out
      have hbA2' : ∀ b, blkOf A2' = some b → w.heap.size ≤ b := fun b hb => HbA.out b (hbA2 b hb)
      have hC6 := HC6.out
      have hCw : Chg (· = g) w w6 := HC5.out.trans hC6 fun _ _ h => h
      have hown6 : w6.ownsRow w.heap.size 25 1 (.slice A5 (n + 1) c5) (n + 1) (xs ++ [.slice Af fr.length cf]) :=
        own_chg Hown5.out hC6 fun b hb h => by
          have h1 := (Hown5.out.lt b hb).1
          have h2 : b = g := h
          omega
      have hR6 := HR5.out.away hC6 (Away.one HS5.out.1.ty (Nat.zero_le _) (by decide))
      have hfr6 : Fresh5 w.heap.size (xs ++ [.slice Af fr.length cf]) := Hfr5.out.push H4.out
      rcases hT with ⟨rfl, hall2, hst3, _⟩ | ⟨rfl, hbr, hlen2, fr2, Af2, cf2, rfl, k1, k2, k3, k4, hall2⟩
      · go_roundg (0)
        case measure => omega
        case rel =>
          refine ⟨0, by omega, n + 1, _, done ++ [fr], l2, br2, A2', c2', hown6, hR6, hst2, hCw, ?_, ?_, hfr6, hbA2', .inl ⟨rfl, rfl, ?_⟩⟩
          · have h1 := all_rest_le most l'
            rw [hall2] at h1
            have := Hle.out
            simp at h1
            omega
          · have := Hle.out; omega
          · rw [Hall.out, hall2]
            cases br2 <;> simp
      · go_roundg (l2.length + 1)
        case measure => omega
        case rel =>
          subst hbr
          refine ⟨l2.length + 1, by omega, n + 1, _, done ++ [fr], l2, false, A2', c2', hown6, hR6, hst2, hCw, ?_, ?_, hfr6, hbA2', .inr ⟨rfl, rfl, ?_, rfl, fr2, Af2, cf2, rfl, k1, k2, Sfe.of_ty k3 _, fun b hb => Nat.le_trans HC5.out.size (k4 b hb), ?_⟩⟩
          · have := Hle.out; omega
          · have := Hle.out; omega
          · have := Hle.out; omega
          · rw [Hall.out, hall2]
            simp
end Go.Proofs.Ytdaejdnomlodpaa
