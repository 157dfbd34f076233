/-
  The law FramePieces, walked: it answers true for every bound and every list of pieces. Conditions: the list is read.
-/
import Derived.Test.YtdaejdnomlodpaaFrI
namespace Go.Proofs.Ytdaejdnomlodpaa
open Go.RowKit Go.Al Go.Al.Fr
set_option linter.unusedVariables false

/-- no slice of the row lies in this block -/
def FarFrom (o : Option Nat) (xs : List Value) : Prop := ∀ A n c, Value.slice A n c ∈ xs → n ≠ 0 → ∀ b, blkOf A = some b → o ≠ some b
theorem FarFrom.append {o : Option Nat} {xs ys : List Value} (h : FarFrom o xs) (h' : FarFrom o ys) : FarFrom o (xs ++ ys) := fun A n c hm => by
  rcases List.mem_append.1 hm with hm | hm
  · exact h A n c hm
  · exact h' A n c hm
theorem Rows2.farFrom {S : Nat → Prop} {B : Nat} {e : TypeId} {w w' : World} {xs : List Value} {ls : List (List Value)} {o : Option Nat} (h : Rows2 B e w xs ls) (hc : Chg S w w') (hf : FarFrom o xs) (hS : ∀ k, S k → o = some k) : Rows2 B e w' xs ls :=
  ⟨h.1, fun i x l hx hl => by
    obtain ⟨A, c, e1, e2, e3, e4⟩ := h.2 i x l hx hl
    refine ⟨A, c, e1, e2, ?_, fun hn => (e4 hn).chg hc⟩
    by_cases h0 : l = []
    · subst h0; exact Rd.nil _ _
    · exact e3.chg hc fun b hb _ hs => hf A l.length c (by rw [← e1]; exact List.mem_of_getElem? hx) (fun h => h0 (List.eq_nil_of_length_eq_zero h)) b hb (hS b hs)⟩
theorem Rows2.farNew {B : Nat} {e : TypeId} {w : World} {xs : List Value} {ls : List (List Value)} (h : Rows2 B e w xs ls) : FarFrom (some w.heap.size) xs := fun A n c hm hn b hb e0 => by
  obtain ⟨i, hi, he⟩ := List.getElem_of_mem hm
  obtain ⟨A', c', l, h1, _, _, h4, _⟩ := h.at_ hi
  rw [List.getElem?_eq_getElem hi, he] at h1
  cases h1
  obtain ⟨b', hb', hlt⟩ := h4.lt fun h0 => hn (by rw [h0]; rfl)
  rw [hb] at hb'
  cases hb'
  cases e0
  omega

theorem all_broken_rest (most : Nat) : ∀ l, (all most l).2.2 = true → (all most l).2.1 = [] := by
  refine frames_ind most ?_ ?_ ?_ ?_
  · intro l h hf; rw [all_short h] at hf; cases hf
  · intro l h h2 _; rw [all_long h h2]
  · intro l h h2 h3 hf; rw [all_wait h h2 h3] at hf; cases hf
  · intro l h2 h3 ih hf
    rw [all_frame h2 h3] at hf ⊢
    exact ih hf
theorem fresh_far {B : Nat} {xs : List Value} {o : Option Nat} (h : Fresh5 B xs) (ho : ∀ b, o = some b → b < B) : FarFrom o xs := fun A n c hm _ b hb e => by
  have := h A n c hm b hb
  have := ho b e
  omega

def PiecesRel (w : World) (ks : List (List UInt8)) (m g : Nat) (k : Nat) (vall vtold vbrk vi : Value) (wr : World) : Prop :=
  ∃ (i n8 : Nat) (sofar rest : List UInt8) (told : List (List UInt8)) (xst : List Value) (A7 A8 As : Option Addr) (c7 c8 cs : Nat) (brk : Bool),
    i ≤ ks.length ∧ k = ks.length - i ∧ vi = .int .i64 i ∧ vall = .slice A7 sofar.length c7 ∧ vtold = .slice A8 n8 c8 ∧ vbrk = .bool brk ∧
    wr.ownsRow w.heap.size 5 1 (.slice A7 sofar.length c7) sofar.length (bs sofar) ∧ wr.ownsRow w.heap.size 25 1 (.slice A8 n8 c8) n8 xst ∧ n8 = told.length ∧
    Rows2 0 5 wr xst (told.map bs) ∧ FarFrom (blkOf A7) xst ∧ Stm wr g m brk rest As cs ∧ (∀ b, blkOf As = some b → blkOf A7 ≠ some b) ∧ Chg (· = g) w wr ∧
    sofar.length ≤ 300 * i ∧ (brk = false → all m sofar = (told, rest, false)) ∧ (brk = true → rest = [])

set_option maxRecDepth 100000 in
set_option maxHeartbeats 2000000 in
theorem pieces_bad (B : Nat) (A : Option Addr) (n c : Nat) (xs : List Value) (ls : List (List UInt8)) (most : Int) (w : World) (hr : Rd w A xs) (hx : Rows2 B 5 w xs (ls.map bs)) (hn : ls.length = n) (hb : n ≤ 9223372036854775807) (hl : ∀ l ∈ ls, l.length ≤ 9223372036854775807) (hm : most < 1 ∨ 65535 < most) :
    Calls Try.prog 4 #[.int .i64 most, .slice A n c] w fun e w' => e = .returned (.bool true) ∧ Same w w' := by
  have Hm := hide hm
  have hF := Bytes_any B A n c 300 xs ls w (by omega) hr hx hn hb hl
  have HF := hide hF
  clear hr hx hn hl hF
  by_cases hm1 : most < 1
  all_goals
    first | clear hm | skip
    try (have hm2 : 65535 < most := by have := Hm.out; omega)
    go_enter Try.func4, Try.ntmps4
    go_wp2_with (first
      | (go_at_call 7
         refine HF.out.mono ?_
         rintro e w1 ⟨A1, n1, c1, xs1, rfl, hown1, hrows1, hs1, hn1⟩
         have Hs1 := hide hs1
         clear hown1 hrows1 hs1 hn1)
      | (go_at_call 10
         have hN := new_bad most w1 Hm.out
         with_reducible refine hN.mono ?_
         clear hN
         rintro e w2 ⟨rfl, rfl⟩)
      | (go_at_call 14
         refine (lives_any _).mono ?_
         rintro e wb ⟨rfl, hsb'⟩
         have Hsb := hide hsb'
         clear hsb'))
    go_ret
    exact ⟨by simp, Same.trans Hs1.out Hsb.out⟩

set_option maxRecDepth 100000 in
set_option maxHeartbeats 4000000 in
theorem pieces_ok (B : Nat) (A : Option Addr) (n c : Nat) (xs : List Value) (ls : List (List UInt8)) (m : Nat) (w : World) (hr : Rd w A xs) (hx : Rows2 B 5 w xs (ls.map bs)) (hn : ls.length = n) (hb : n ≤ 9223372036854775807) (hl : ∀ l ∈ ls, l.length ≤ 9223372036854775807) (hm1 : 1 ≤ (m : Int)) (hm2 : (m : Int) ≤ 65535) :
    Calls Try.prog 4 #[.int .i64 m, .slice A n c] w fun e w' => e = .returned (.bool true) ∧ Same w w' := by
  have hF := Bytes_any B A n c 300 xs ls w (by omega) hr hx hn hb hl
  have HF := hide hF
  obtain ⟨ks, hks⟩ : ∃ ks, ks = cutL 300 ls := ⟨_, rfl⟩
  have hk12 : ks.length ≤ 12 := by rw [hks]; exact cutL_count 300 ls
  have hk300 : ∀ l ∈ ks, l.length ≤ 300 := by rw [hks]; exact cutL_len 300 ls
  have Hks := hide hks
  have Hk300 := hide hk300
  have hE0 : errOf false = 0 := rfl
  have hE1 : errOf true = 11 := rfl
  clear hr hx hn hl hF hks hk300
  go_enter Try.func4, Try.ntmps4
  go_wp2_with (first
      | (go_at_call 7
         refine HF.out.mono ?_
         rintro e w1 ⟨A1, n1, c1, xs1, rfl, hown1, hrows1, hs1, hn1⟩
         rw [← Hks.out] at hrows1 hn1
         have Hown1 := hide hown1
         have Hrows1 := hide hrows1
         have Hs1 := hide hs1
         have Hn1 := hide hn1.symm
         have hn12 : n1 ≤ 12 := by omega
         clear hown1 hrows1 hs1 hn1)
      | (go_at_call 10
         have hN := new_ok (m : Int) w1 hm1 hm2
         with_reducible refine hN.mono ?_
         clear hN
         rintro e w2 ⟨rfl, hst2, hs2⟩
         rw [Int.toNat_natCast] at hst2
         have Hst2 := hide hst2
         have Hs2 := hide hs2
         clear hst2 hs2))
  have hg2 : w1.heap.size < w2.heap.size := Hst2.out.1.lt
  go_loopg [7, 8, 9, 10] n1 (fun k vall vtold vbrk vi wr => PiecesRel w2 ks m w1.heap.size k vall vtold vbrk vi wr)
  case atStart =>
    refine ⟨0, 0, [], [], [], [], _, _, none, _, _, 0, false, Nat.zero_le _, by rw [Hn1.out]; rfl, rfl, rfl, rfl, rfl, (own_lit w2 w2.heap.size _ 1 #[] 0 (Nat.le_refl _) (by decide) rfl).alloc _, by have := own_lit (w2.alloc (.cells #[] 5)) w2.heap.size 25 1 #[] 0 (by simp) (by decide) rfl; simpa using this, rfl, Rows2.nil _ _ _, fun A n c h => by simp at h, Hst2.out.same (((Chg.refl _ _).alloc _).alloc _), fun b hb => by simp [blkOf] at hb, ((Chg.refl _ _).alloc _).alloc _, Nat.zero_le _, fun _ => by rw [all_short (by simp)], fun h => by cases h⟩
  case round =>
    obtain ⟨i, n8, sofar, rest, told, xst, A7, A8, As, c7, c8, cs, brk, hi, hk, rfl, rfl, rfl, rfl, hown7, hown8, hn8, hrows, hfar, hst, hsep, hchg, hlen, hfalse, htrue⟩ := hrel
    rw [Hn1.out] at hi hk
    have Hk := hide hk
    have Hown7 := hide hown7
    have Hown8 := hide hown8
    have Hn8 := hide hn8
    have Hrows := hide hrows
    have Hfar := hide hfar
    have Hst := hide hst
    have Hsep := hide hsep
    have Hchg := hide hchg
    have Hfalse := hide hfalse
    have Htrue := hide htrue
    have hszr := hchg.size
    clear hk hown7 hown8 hn8 hrows hfar hst hsep hchg hfalse htrue
    by_cases hlt : i < n1
    · have hil : i < ks.length := by rw [Hn1.out]; exact hlt
      have hrow1 : Rows2 0 5 wr xs1 (ks.map bs) := (Hrows1.out.same Hs2.out).away Hchg.out (Away.one Hst2.out.1.ty (Nat.zero_le _) (by decide))
      have hrd1 : Rd wr A1 xs1 := ((own_rd Hown1.out).same Hs2.out).chg Hchg.out fun b hb _ h => by
        have h1 := (Hown1.out.lt b (by rw [ownBlock_slice]; exact hb)).2
        have h2 : b = w1.heap.size := h
        omega
      have hxl : i < xs1.length := by rw [hrow1.1]; simpa using hil
      obtain ⟨Ai, ci, li, hx, hl, hci, hri, hsi⟩ := hrow1.at_ hxl
      obtain ⟨bo, off, rfl, hcell⟩ := hrd1.at_ hxl
      rw [List.getElem?_eq_getElem hxl] at hx
      rw [Option.some.inj hx] at hcell
      rw [List.getElem?_map, List.getElem?_eq_getElem hil] at hl
      obtain rfl := Option.some.inj hl
      have hp := Hk300.out ks[i] (List.getElem_mem hil)
      rw [bs_length] at hcell hci
      have hbo : bo < w1.heap.size := (Hown1.out.lt bo (by rw [ownBlock_slice]; rfl)).2
      have hbr : bo < wr.heap.size := by omega
      have Hri := hide hri
      have Hsi := hide hsi
      have Hcell := hide hcell
      clear hx hl hri hsi hrow1 hrd1 hxl
      generalize ks[i] = p at *
      cases brk with
      | true =>
        have hrest := Htrue.out rfl
        subst hrest
        go_wp2_with (first
          | (at_builtin; refine wpList_appS rfl (.tmp 54) (.tmp 58) _ rfl slB rfl (own_lit wr wr.heap.size _ 1 #[] 0 (Nat.le_refl _) (by decide) rfl) rfl (by simp) (Hri.out.alloc _) (one_bs _) (by omega) (by omega) (by simp) ?_
             intro A5 c5 w5 hown5 hchg5 hat5
             have hs5 : Same wr w5 := ((Chg.refl _ wr).alloc _).trans hchg5 (by intro k hk h; simp [blkOf] at h; omega)
             have Hs5 := hide hs5
             clear hown5 hchg5 hat5 hs5)
          | (go_at_call 11
             have hF := Feed_broken w1.heap.size m cs [] As A5 p.length c5 w5 (Hst.out.same Hs5.out) (by omega)
             refine hF.mono ?_
             clear hF
             rintro e w' ⟨rfl, rfl⟩)
          | (go_at_call 13
             have hF := Waits_ok w1.heap.size m cs true [] As w5 (Hst.out.same Hs5.out)
             refine hF.mono ?_
             clear hF
             rintro e w' ⟨rfl, rfl⟩)
          | (go_at_call 15
             have hF := Broken_ok w1.heap.size m cs true [] As w5 (Hst.out.same Hs5.out)
             refine hF.mono ?_
             clear hF
             rintro e w' ⟨rfl, rfl⟩))
        go_roundg (n1 - (i + 1))
        case measure => have := Hk.out; omega
        case rel =>
          have hs5 := Hs5.out
          refine ⟨i + 1, n8, sofar, [], told, xst, A7, A8, As, c7, c8, cs, true, by rw [Hn1.out]; omega, by rw [Hn1.out], by go_num, rfl, rfl, rfl, own_chg Hown7.out hs5 fun _ _ h => h, own_chg Hown8.out hs5 fun _ _ h => h, Hn8.out, Hrows.out.same hs5, Hfar.out, Hst.out.same hs5, Hsep.out, Hchg.out.same hs5, by omega, fun h => (by cases h), fun _ => rfl⟩
      | false =>
        have hall := Hfalse.out rfl
        obtain ⟨F, R, br, hr⟩ : ∃ F R br, all m (rest ++ p) = (F, R, br) := ⟨_, _, _, rfl⟩
        have hall2 := all_append m p sofar (by rw [hall])
        rw [hall, hr] at hall2
        have hrl := all_rest_le m sofar
        rw [hall] at hrl
        have hFn := all_count m (rest ++ p)
        rw [hr] at hFn
        have hTn := all_count m sofar
        rw [hall] at hTn
        simp only [List.length_append] at hFn hrl hTn hall2
        have hbytes : br = false → bytesOf (told ++ F) + R.length = sofar.length + p.length := fun h => by
          have := all_bytes m (sofar ++ p) (by rw [hall2]; exact h)
          rw [hall2] at this
          simpa using this
        have hbl := all_bytes_le m (sofar ++ p)
        rw [hall2] at hbl
        simp only [List.length_append] at hbl
        have hRb : br = true → R = [] := fun h => by
          have := all_broken_rest m (sofar ++ p) (by rw [hall2]; exact h)
          rw [hall2] at this
          exact this
        have Hall2 := hide hall2
        have Hr := hide hr
        have Hbytes := hide hbytes
        have HRb := hide hRb
        have hn8 := Hn8.out
        have Hsb := hide (show sameB (told ++ F) (told ++ F) = true by simp [sameB])
        have hsz8 : n8 ≤ 2048 := by omega
        have hszF : F.length ≤ 2048 := by omega
        clear hall hall2 hr hbytes hRb hn8
        cases br
        all_goals
          go_wp2_with (first
            | (at_builtin; refine wpList_appS rfl (.tmp 54) (.tmp 58) _ rfl slB rfl (own_lit wr wr.heap.size _ 1 #[] 0 (Nat.le_refl _) (by decide) rfl) rfl (by simp) (Hri.out.alloc _) (one_bs _) (by omega) (by omega) (by simp) ?_
               intro A5 c5 w5 hown5 hchg5 hat5
               have hs5 : Same wr w5 := ((Chg.refl _ wr).alloc _).trans hchg5 (by intro k hk h; simp [blkOf] at h; omega)
               have Hs5 := hide hs5
               have Hown5 := hide (own_rd hown5)
               clear hown5 hchg5 hat5 hs5))
          have hF := Feed_ok w1.heap.size m cs c5 p.length rest p As A5 w5 (Hst.out.same Hs5.out) (by have := Hown5.out; simpa using this) rfl (by omega) (by omega)
          refine hF.mono ?_
          clear hF
          rintro e w6 ⟨Ao, co, no, xso, l', br', A', c', rfl, hownF, hrowsF, hstF, hcF, hnF, hbrF, hlF, hfrF, hasF⟩
          rw [Hr.out] at hrowsF hnF hbrF hlF
          dsimp only at hrowsF hnF hbrF hlF
          subst hbrF
          subst hlF
          have hcell6 : w6.cell? ⟨bo, off + i, none⟩ = _ := (hcF.cell (p := ⟨bo, off + i, none⟩) (Nat.lt_of_lt_of_le hbr Hs5.out.size) (fun h => by have h' : bo = w1.heap.size := h; omega)).trans ((Hs5.out.cell (p := ⟨bo, off + i, none⟩) hbr (fun h => h)).trans hcell)
          have hS6 : Chg (· = w1.heap.size) wr w6 := Hs5.out.to.trans hcF fun _ _ h => h
          have hge : ∀ (e : TypeId) (sz n : Nat) (v : Value) (xs : List Value), wr.ownsRow w2.heap.size e sz v n xs → w6.ownsRow w2.heap.size e sz v n xs := fun e sz n v xs ho => own_chg ho hS6 fun b hb h => by
            have h1 := (ho.lt b hb).1
            have h2 : b = w1.heap.size := h
            omega
          have Hown76 := hide (hge _ _ _ _ _ Hown7.out)
          have Hown86 := hide (hge _ _ _ _ _ Hown8.out)
          have Hri6 := hide (Hri.out.awayN Hsi.out hS6 (Away.one Hst.out.1.ty (Nat.zero_le _) (by decide)))
          have Hrows6 := hide (Hrows.out.away hS6 (Away.one Hst.out.1.ty (Nat.zero_le _) (by decide)))
          have hsz6 : wr.heap.size ≤ w6.heap.size := hS6.size
          have HS6 := hide hS6
          have HownF := hide hownF
          have HrowsF := hide hrowsF
          have HstF := hide hstF
          have HnF := hide hnF
          have HfrF := hide hfrF
          have HasF := hide hasF
          have hno : no ≤ 2048 := by omega
          clear hownF hrowsF hstF hcF hnF hfrF hasF hS6 hge
          go_wp2_with (first
            | (at_builtin; refine wpList_appS rfl (.tmp 81) (.tmp 85) _ rfl slB rfl Hown76.out rfl (by simp) Hri6.out (one_bs _) (by omega) (by omega) (by omega) ?_
               intro Aa ca w7 hown7' hchg7 hat7
               have Hown7' := hide hown7'
               have Hchg7 := hide hchg7
               have Hat7 := hide hat7
               have hsz7 := hchg7.size
               have hn87 : w7.ownsRow w2.heap.size 25 1 (.slice A8 n8 c8) n8 xst := own_chg Hown86.out hchg7 fun b hb h => by
                 have h1 := own_ty Hown86.out hb
                 have h2 := own_ty Hown76.out (b := b) (by rw [ownBlock_slice]; exact h)
                 rw [h1] at h2
                 exact absurd (Option.some.inj h2) (by decide)
               have hrF7 : Rd w7 Ao xso := (own_rd HownF.out).chg hchg7 fun b hb _ h => by
                 have h1 := own_ty HownF.out (b := b) (by rw [ownBlock_slice]; exact hb)
                 have h2 := own_ty Hown76.out (b := b) (by rw [ownBlock_slice]; exact h)
                 rw [h1] at h2
                 exact absurd (Option.some.inj h2) (by decide)
               have Hn87 := hide hn87
               have HrF7 := hide hrF7
               clear hown7' hchg7 hat7 hn87 hrF7)
            | (at_builtin; refine wpList_appS rfl (.tmp 87) (.tmp 88) _ rfl slBB rfl Hn87.out rfl (by have := HownF.out.1; simpa using this) HrF7.out (Rows2.one HrowsF.out) (by omega) (by omega) (by omega) ?_
               intro Ab cb w8 hown8' hchg8 hat8
               have Hown8' := hide hown8'
               have Hchg8 := hide hchg8
               have Hat8 := hide hat8
               clear hown8' hchg8 hat8))
        · have hneq : ∀ b, blkOf A8 = some b → ty w7 b = some 25 := fun b hb => own_ty Hn87.out (by rw [ownBlock_slice]; exact hb)
          have hty6 : ∀ b, blkOf A7 = some b → ty w6 b = some 5 := fun b hb => own_ty Hown76.out (by rw [ownBlock_slice]; exact hb)
          have hg6 : ty w6 w1.heap.size = some 48 := HstF.out.1.ty
          have hst7 : Stm w7 w1.heap.size m false l' A' c' := HstF.out.chgA Hchg7.out (fun h => by have := hty6 _ h; rw [hg6] at this; exact absurd (Option.some.inj this) (by decide)) fun b hb h => by
            have h1 := HasF.out b hb
            have h2 := (Hown7.out.lt b (by rw [ownBlock_slice]; exact h)).2
            have h3 := Hs5.out.size
            omega
          have hst8 : Stm w8 w1.heap.size m false l' A' c' := hst7.chg Hchg8.out (fun h => by have := hneq _ h; rw [hst7.1.ty] at this; exact absurd (Option.some.inj this) (by decide)) fun b _ hb h => by
            have := hneq _ h
            rw [hb] at this
            exact absurd (Option.some.inj this) (by decide)
          have haw8 : Away (fun k => blkOf A8 = some k) 0 5 w7 := fun k _ hk => ⟨Nat.zero_le _, by rw [hneq k hk]; decide⟩
          have hfarF : FarFrom (blkOf A7) xso := fresh_far HfrF.out fun b hb => by
            have h2 := (Hown7.out.lt b (by rw [ownBlock_slice]; exact hb)).2
            have h3 := Hs5.out.size
            omega
          have hrows7 : Rows2 0 5 w7 (xst ++ xso) ((told ++ F).map bs) := by
            rw [List.map_append]
            exact (Rows2.farFrom Hrows6.out Hchg7.out Hfar.out fun k h => h).append (Rows2.farFrom HrowsF.out Hchg7.out hfarF fun k h => h)
          have hrows8 : Rows2 0 5 w8 (xst ++ xso) ((told ++ F).map bs) := hrows7.away Hchg8.out haw8
          have hown78 : w8.ownsRow w2.heap.size 5 1 (.slice Aa (sofar.length + p.length) ca) (sofar.length + p.length) (bs sofar ++ bs p) := own_chg Hown7'.out Hchg8.out fun b hb h => by
            have h1 := own_ty Hown7'.out hb
            rw [hneq b h] at h1
            exact absurd (Option.some.inj h1) (by decide)
          have hC8 : Chg (· = w1.heap.size) w2 w8 := ((Hchg.out.trans HS6.out fun _ _ h => h).trans Hchg7.out fun k hk h => by have := (Hown7.out.lt k (by rw [ownBlock_slice]; exact h)).1; omega).trans Hchg8.out fun k hk h => by have := (Hown8.out.lt k (by rw [ownBlock_slice]; exact h)).1; omega
          have Hst8 := hide hst8
          have Hrows8 := hide hrows8
          have Hown78 := hide hown78
          have hfar8 : FarFrom (blkOf Aa) (xst ++ xso) := by
            rcases Hat7.out with h | h
            · rw [h]
              exact Hfar.out.append hfarF
            · rw [h]
              exact (Rows2.farNew Hrows6.out).append (Rows2.farNew HrowsF.out)
          have hsep8 : ∀ b, blkOf A' = some b → blkOf Aa ≠ some b := fun b hb h => by
            rcases Hat7.out with h7 | h7
            · rw [h7] at h
              have h1 := HasF.out b hb
              have h2 := (Hown7.out.lt b (by rw [ownBlock_slice]; exact h)).2
              have h3 := Hs5.out.size
              omega
            · rw [h7] at h
              have := ty_lt (HstF.out.2.2.2 b hb)
              cases h
              omega
          have Hfar8 := hide hfar8
          have HC8 := hide hC8
          have Hsep8 := hide hsep8
          obtain ⟨_, _, hv, hle78, hrd78, hty78, _⟩ := own_form hown78
          cases hv
          have hF := Frames_any 0 Aa (sofar.length + p.length) ca (sofar ++ p) m w8 (by omega) (by rw [bs_append]; exact hrd78) (fun _ => Sfe.of_ty hty78 0) (by simp) (by omega) hle78
          unfold RefTold at hF
          rw [Hall2.out] at hF
          dsimp only at hF
          have HF8 := hide hF
          have hb1 : l'.length + bytesOf (told ++ F) ≤ sofar.length + p.length := by have := Hbytes.out trivial; omega
          have hb2 : sofar.length + p.length ≤ l'.length + bytesOf (told ++ F) := by have := Hbytes.out trivial; omega
          clear hneq hty6 hg6 hst7 hst8 haw8 hfarF hrows7 hrows8 hown78 hC8 hfar8 hsep8 hle78 hrd78 hty78 hF
          go_wp2_with (first
            | (go_at_call 16
               refine HF8.out.mono ?_
               rintro e w9 ⟨Aw, cw, nw, xw, rfl, hownW, hrowsW, hsW, hnW⟩
               have HownW := hide hownW
               have HrowsW := hide hrowsW
               have HsW := hide hsW
               have HnW := hide hnW
               have hszW := hsW.size
               clear hownW hrowsW hsW hnW)
            | (go_at_call 12
               have hF := Same_any 0 5 Ab Aw (n8 + no) nw cb cw (xst ++ xso) xw (told ++ F) (told ++ F) w9 ((own_rd Hown8'.out).same HsW.out) (Hrows8.out.same HsW.out) (by rw [List.length_append, ← Hn8.out, ← HnF.out]) (own_rd HownW.out) HrowsW.out HnW.out.symm (by omega) (by have := HnW.out; simp at this; omega)
               rw [Hsb.out] at hF
               refine hF.mono ?_
               clear hF
               rintro e wa ⟨rfl, hsa⟩
               have Hsa := hide hsa
               clear hsa)
            | (go_at_call 15
               have hF := Broken_ok w1.heap.size m c' false l' A' wa ((Hst8.out.same HsW.out).same Hsa.out)
               refine hF.mono ?_
               clear hF
               rintro e w' ⟨rfl, rfl⟩)
            | (go_at_call 13
               have hF := Waits_ok w1.heap.size m c' false l' A' wa ((Hst8.out.same HsW.out).same Hsa.out)
               refine hF.mono ?_
               clear hF
               rintro e w' ⟨rfl, rfl⟩))
          go_roundg (n1 - (i + 1))
          case measure => have := Hk.out; omega
          case rel =>
            have hs9 := Same.trans HsW.out Hsa.out
            refine ⟨i + 1, n8 + no, sofar ++ p, l', told ++ F, xst ++ xso, Aa, Ab, A', ca, cb, c', false, by rw [Hn1.out]; omega, by rw [Hn1.out], by go_num, by rw [List.length_append], rfl, rfl, ?_, own_chg Hown8'.out hs9 fun _ _ h => h, by rw [List.length_append, ← Hn8.out, ← HnF.out], Hrows8.out.same hs9, Hfar8.out, Hst8.out.same hs9, Hsep8.out, HC8.out.same hs9, by rw [List.length_append]; omega, ?_, ?_⟩
            · rw [List.length_append, bs_append]
              exact own_chg Hown78.out hs9 fun _ _ h => h
            · exact fun _ => Hall2.out
            · exact fun h => by cases h
        · have hl0 := HRb.out trivial
          subst hl0
          have hneq : ∀ b, blkOf A8 = some b → ty w7 b = some 25 := fun b hb => own_ty Hn87.out (by rw [ownBlock_slice]; exact hb)
          have hty6 : ∀ b, blkOf A7 = some b → ty w6 b = some 5 := fun b hb => own_ty Hown76.out (by rw [ownBlock_slice]; exact hb)
          have hg6 : ty w6 w1.heap.size = some 48 := HstF.out.1.ty
          have hst7 : Stm w7 w1.heap.size m true [] A' c' := HstF.out.chgA Hchg7.out (fun h => by have := hty6 _ h; rw [hg6] at this; exact absurd (Option.some.inj this) (by decide)) fun b hb h => by
            have h1 := HasF.out b hb
            have h2 := (Hown7.out.lt b (by rw [ownBlock_slice]; exact h)).2
            have h3 := Hs5.out.size
            omega
          have hst8 : Stm w8 w1.heap.size m true [] A' c' := hst7.chg Hchg8.out (fun h => by have := hneq _ h; rw [hst7.1.ty] at this; exact absurd (Option.some.inj this) (by decide)) fun b _ hb h => by
            have := hneq _ h
            rw [hb] at this
            exact absurd (Option.some.inj this) (by decide)
          have haw8 : Away (fun k => blkOf A8 = some k) 0 5 w7 := fun k _ hk => ⟨Nat.zero_le _, by rw [hneq k hk]; decide⟩
          have hfarF : FarFrom (blkOf A7) xso := fresh_far HfrF.out fun b hb => by
            have h2 := (Hown7.out.lt b (by rw [ownBlock_slice]; exact hb)).2
            have h3 := Hs5.out.size
            omega
          have hrows7 : Rows2 0 5 w7 (xst ++ xso) ((told ++ F).map bs) := by
            rw [List.map_append]
            exact (Rows2.farFrom Hrows6.out Hchg7.out Hfar.out fun k h => h).append (Rows2.farFrom HrowsF.out Hchg7.out hfarF fun k h => h)
          have hrows8 : Rows2 0 5 w8 (xst ++ xso) ((told ++ F).map bs) := hrows7.away Hchg8.out haw8
          have hown78 : w8.ownsRow w2.heap.size 5 1 (.slice Aa (sofar.length + p.length) ca) (sofar.length + p.length) (bs sofar ++ bs p) := own_chg Hown7'.out Hchg8.out fun b hb h => by
            have h1 := own_ty Hown7'.out hb
            rw [hneq b h] at h1
            exact absurd (Option.some.inj h1) (by decide)
          have hC8 : Chg (· = w1.heap.size) w2 w8 := ((Hchg.out.trans HS6.out fun _ _ h => h).trans Hchg7.out fun k hk h => by have := (Hown7.out.lt k (by rw [ownBlock_slice]; exact h)).1; omega).trans Hchg8.out fun k hk h => by have := (Hown8.out.lt k (by rw [ownBlock_slice]; exact h)).1; omega
          have Hst8 := hide hst8
          have Hrows8 := hide hrows8
          have Hown78 := hide hown78
          have hfar8 : FarFrom (blkOf Aa) (xst ++ xso) := by
            rcases Hat7.out with h | h
            · rw [h]
              exact Hfar.out.append hfarF
            · rw [h]
              exact (Rows2.farNew Hrows6.out).append (Rows2.farNew HrowsF.out)
          have hsep8 : ∀ b, blkOf A' = some b → blkOf Aa ≠ some b := fun b hb h => by
            rcases Hat7.out with h7 | h7
            · rw [h7] at h
              have h1 := HasF.out b hb
              have h2 := (Hown7.out.lt b (by rw [ownBlock_slice]; exact h)).2
              have h3 := Hs5.out.size
              omega
            · rw [h7] at h
              have := ty_lt (HstF.out.2.2.2 b hb)
              cases h
              omega
          have Hfar8 := hide hfar8
          have HC8 := hide hC8
          have Hsep8 := hide hsep8
          obtain ⟨_, _, hv, hle78, hrd78, hty78, _⟩ := own_form hown78
          cases hv
          have hF := Frames_any 0 Aa (sofar.length + p.length) ca (sofar ++ p) m w8 (by omega) (by rw [bs_append]; exact hrd78) (fun _ => Sfe.of_ty hty78 0) (by simp) (by omega) hle78
          unfold RefTold at hF
          rw [Hall2.out] at hF
          dsimp only at hF
          have HF8 := hide hF
          clear hneq hty6 hg6 hst7 hst8 haw8 hfarF hrows7 hrows8 hown78 hC8 hfar8 hsep8 hle78 hrd78 hty78 hF
          go_wp2_with (first
            | (go_at_call 16
               refine HF8.out.mono ?_
               rintro e w9 ⟨Aw, cw, nw, xw, rfl, hownW, hrowsW, hsW, hnW⟩
               have HownW := hide hownW
               have HrowsW := hide hrowsW
               have HsW := hide hsW
               have HnW := hide hnW
               have hszW := hsW.size
               clear hownW hrowsW hsW hnW)
            | (go_at_call 12
               have hF := Same_any 0 5 Ab Aw (n8 + no) nw cb cw (xst ++ xso) xw (told ++ F) (told ++ F) w9 ((own_rd Hown8'.out).same HsW.out) (Hrows8.out.same HsW.out) (by rw [List.length_append, ← Hn8.out, ← HnF.out]) (own_rd HownW.out) HrowsW.out HnW.out.symm (by omega) (by have := HnW.out; simp at this; omega)
               rw [Hsb.out] at hF
               refine hF.mono ?_
               clear hF
               rintro e wa ⟨rfl, hsa⟩
               have Hsa := hide hsa
               clear hsa)
            | (go_at_call 15
               have hF := Broken_ok w1.heap.size m c' true [] A' wa ((Hst8.out.same HsW.out).same Hsa.out)
               refine hF.mono ?_
               clear hF
               rintro e w' ⟨rfl, rfl⟩)
            | (go_at_call 13
               have hF := Waits_ok w1.heap.size m c' true [] A' wa ((Hst8.out.same HsW.out).same Hsa.out)
               refine hF.mono ?_
               clear hF
               rintro e w' ⟨rfl, rfl⟩))
          go_roundg (n1 - (i + 1))
          case measure => have := Hk.out; omega
          case rel =>
            have hs9 := Same.trans HsW.out Hsa.out
            refine ⟨i + 1, n8 + no, sofar ++ p, [], told ++ F, xst ++ xso, Aa, Ab, A', ca, cb, c', true, by rw [Hn1.out]; omega, by rw [Hn1.out], by go_num, by rw [List.length_append], rfl, rfl, ?_, own_chg Hown8'.out hs9 fun _ _ h => h, by rw [List.length_append, ← Hn8.out, ← HnF.out], Hrows8.out.same hs9, Hfar8.out, Hst8.out.same hs9, Hsep8.out, HC8.out.same hs9, by rw [List.length_append]; omega, ?_, ?_⟩
            · rw [List.length_append, bs_append]
              exact own_chg Hown78.out hs9 fun _ _ h => h
            · exact fun h => by cases h
            · exact fun _ => rfl
    · go_wp2_with (first
          | (go_at_call 17
             have hF := Reset_ok w1.heap.size m cs brk rest As wr Hst.out
             refine hF.mono ?_
             clear hF
             rintro e w' ⟨rfl, hstR, hcR⟩
             have HstR := hide hstR
             have HcR := hide hcR
             clear hstR hcR)
          | (go_at_call 13
             have hF := Waits_ok w1.heap.size m 0 false [] none _ HstR.out
             refine hF.mono ?_
             clear hF
             rintro e w' ⟨rfl, rfl⟩)
          | (go_at_call 15
             have hF := Broken_ok w1.heap.size m 0 false [] none _ HstR.out
             refine hF.mono ?_
             clear hF
             rintro e w' ⟨rfl, rfl⟩)
          | (go_at_call 14
             refine (lives_any _).mono ?_
             rintro e wb ⟨rfl, hsb'⟩
             have Hsb := hide hsb'
             clear hsb'))
      go_ret
      refine ⟨by simp, Same.trans (Same.trans Hs1.out ?_) Hsb.out⟩
      exact ((Hs2.out.to.trans Hchg.out fun _ _ h => h).trans HcR.out fun _ _ h => h).fresh fun k hk => Nat.le_of_eq (Eq.symm hk)
end Go.Proofs.Ytdaejdnomlodpaa
