/-
  ScriptLong's walk. Conditions: what Go's library has laid.
-/
import Derived.Test.YtlodanjpkjfjiaaGreatDoorPrA
import Derived.Test.YtlodanjpkjfjiaaGreatDoorLvA
import Derived.Test.YtlodanjpkjfjiaaGreatDoorReB
import Derived.Test.YtlodanjpkjfjiaaGreatDoorTxA
import Derived.Test.YtlodanjpkjfjiaaGreatDoorSaE
import Derived.Lib.AppendStr
namespace Go.Proofs.YtlodanjpkjfjiaaGreatDoor
open Go.RowKit Go.Al
set_option linter.unusedVariables false

/-- the act that is written over and over -/
def abA : Ac := ⟨3, 0, 0, rqz, []⟩
def abT : List UInt8 := [97, 98, 111, 114, 116, 32, 48, 10]
def abL : La := ⟨abA, none, 0⟩
theorem abA_good : goodA abA = true := rfl
theorem abA_wf : WfA abA := ⟨inI_lit _ (by decide), inI_lit _ (by decide), wf_rqz⟩
theorem abA_show : showB abA ++ [10] = abT := by
  have e : showW abA = [wordAt wordsA 3, Lib.itoa 0] := rfl
  unfold showB
  rw [e, itoa_0]
  rfl
theorem ab_text (n : Nat) : textA (List.replicate (n + 1) abA) = textA (List.replicate n abA) ++ abT := by
  rw [List.replicate_succ', textA_snoc, abA_show]
theorem ab_len : ∀ n : Nat, (textA (List.replicate n abA)).length = 8 * n
  | 0 => rfl
  | n + 1 => by rw [ab_text, List.length_append, ab_len n]; simp [abT]; omega
theorem ab_all (n : Nat) : ∀ a ∈ List.replicate n abA, goodA a = true ∧ WfA a := fun a ha => by
  rw [(List.mem_replicate.1 ha).2]
  exact ⟨abA_good, abA_wf⟩
theorem own_grown {w w' : World} {base size n : Nat} {e : TypeId} {v : Value} {xs : List Value} {row : Option Nat} (h : w.ownsRow base e size v n xs) (hg : w.grownBy w' row) (hr : ∀ b, v.ownBlock = some b → row ≠ some b) : w'.ownsRow base e size v n xs := by
  refine ⟨h.1, ?_⟩
  rcases h.2 with h2 | ⟨g, cap, cur, rfl, h3, h4, h5⟩
  · exact .inl h2
  · exact .inr ⟨g, cap, cur, rfl, h3, (hg.block g (Array.getElem?_eq_some_iff.1 h4).1 (Ne.symm (hr g rfl))).trans h4, h5⟩
theorem same_grown {w0 w w' : World} {row : Option Nat} (h : Same w0 w) (hg : w.grownBy w' row) (hr : ∀ b, row = some b → w0.heap.size ≤ b) : Same w0 w' :=
  ⟨hg.os.trans h.os, hg.tape.trans h.tape, hg.output.trans h.output, Nat.le_trans h.size hg.size, fun k hk => by
    have h1 := h.size
    rw [ty_of_heap (hg.block k (by omega) (fun e => by have := hr k e.symm; omega))]
    exact h.tys k hk, fun k hk _ => by
    have h1 := h.size
    exact (hg.block k (by omega) (fun e => by have := hr k e.symm; omega)).trans (h.block k hk (fun h => h))⟩
theorem rd_bytes {w : World} {base n : Nat} {A : Option Addr} {c : Nat} {l : List UInt8} (h : w.ownsRow base 5 1 (.slice A n c) n (Lib.byteCells l)) : Rd w A (bs l) := own_rd h
set_option maxRecDepth 100000 in
set_option maxHeartbeats 2000000 in
theorem Read_long (s : List UInt8) (w : World) (hl : s.length ≤ 1000000) (hc : 10000 < Lib.countByte s 10) :
    Calls Tryz.prog 16 #[strV s] w fun e w' => e = .returned (.tuple #[.slice none 0 0, .int .i64 0, .int .i64 11]) ∧ w = w' := by
  have HCo := hide (countS_any s)
  have hsz : (⟨s.toArray⟩ : ByteArray).size = s.length := rfl
  have hl2 : ¬ (1048576 : Int) < (s.length : Int) := by omega
  generalize s.length = sl at *
  obtain ⟨cn, hcn⟩ : ∃ n, Lib.countByte s 10 = n := ⟨_, rfl⟩
  rw [hcn] at HCo hc
  have hc2 : (10000 : Int) < (cn : Int) := by omega
  clear hcn
  unfold strV
  go_enter Tryz.func16, Tryz.ntmps16
  go_wp2_with (first
    | (go_at_call 28; (with_reducible refine (HCo.out _).mono ?_); rintro e w1 ⟨rfl, rfl⟩)
    | fail)
  go_ret3
  exact ⟨rfl, rfl⟩
theorem infoU8 : (Tryz.prog.info? 5).map (fun i => (i.zero, i.size, i.bytes)) = some (some (.int .u8 0), 1, 1) := by kernel_rfl
set_option maxRecDepth 100000 in
set_option maxHeartbeats 32000000 in
theorem scriptLong_any (k0 : Int) (hk : 0 ≤ k0 ∧ k0 ≤ 255) (w : World) (ha : Amb w) :
    Calls Tryz.prog 6 #[.int .u8 k0] w fun e w' => e = .returned (.bool true) ∧ Same w w'  := by
  obtain ⟨m, hm⟩ : ∃ m : Nat, (m : Int) = k0 % 10 := ⟨(k0 % 10).toNat, by omega⟩
  have hm9 : m < 10 := by omega
  obtain ⟨n, hn⟩ : ∃ n, n = 9995 + m := ⟨_, rfl⟩
  have hn1 : 9995 ≤ n := by omega
  have hn2 : n ≤ 10004 := by omega
  have hmod : IntKind.u8.wrap (k0 % 10) = (m : Int) := by rw [← hm]; simp [IntKind.wrap, IntKind.signed, IntKind.bits]; omega
  have hmod2 : k0.tmod 10 = (m : Int) := by rw [Int.tmod_eq_emod_of_nonneg (by omega), hm]
  have hmod3 : k0 % 10 = (m : Int) := hm.symm
  have hwm : IntKind.i64.wrap (m : Int) = (m : Int) := IntWalk.i64_in _ (by omega)
  have hadd : (9995 : Int) + (m : Int) = (n : Int) := by omega
  have hwn : IntKind.i64.wrap (n : Int) = (n : Int) := IntWalk.i64_in _ (by omega)
  have HO0 := hide (show OwnA w ((w.alloc (.cells #[] 38)).alloc (.cells #[] 5)) (some ⟨w.heap.size, 0, none⟩) 0 0 [] from (acts_lit w).same ((Chg.refl _ _).alloc _))
  have hob := own_lit (w.alloc (.cells #[] 38)) w.heap.size 5 1 #[] 0 (by simp) (by decide) rfl
  rw [World.size_alloc] at hob
  have HB0 := hide hob
  have HL := hide (fun w' (hs : Same w w') => lives_any w' (ha.same hs))
  have Ha := hide ha
  have HDl := hide (laL_len abL)
  have HD1 := hide (one_laL abL)
  have HR := hide (RowL.lit rfl rfl : RowL [Value.int .i64 3, .int .i64 0, .int .i64 0, .int .i64 0, .int .i64 0, .int .i64 0, .int .i64 0, .int .i64 0, .int .i64 0, .int .i64 0, .int .i64 0, .int .i64 0, .int .i64 0, .int .i64 0, .int .i64 0, .int .i64 0, .int .i64 0, .int .i64 0, .int .i64 0, .int .i64 0, .int .i64 0, .slice none 0 0] 22)
  obtain ⟨iu, hiu, hzu, hsu, hbu⟩ := info_parts infoU8
  have Hn := hide hn
  clear ha hob hm hn
  go_enter Tryz.func6, Tryz.ntmps6
  go_wp2_with fail
  go_loopg [4, 5, 6] n (fun g v4 v5 v6 wr => ∃ (j : Nat) (A B : Option Addr) (c d : Nat), j ≤ n ∧ g = n - j ∧ v6 = .int .i64 j ∧ v4 = .slice A j c ∧ v5 = .slice B (8 * j) d ∧ OwnA w wr A j c (List.replicate j abL) ∧ wr.ownsRow w.heap.size 5 1 (.slice B (8 * j) d) (8 * j) (Lib.byteCells (textA (List.replicate j abA))))
  case atStart => exact ⟨0, _, _, 0, 0, Nat.zero_le _, rfl, rfl, rfl, rfl, HO0.out, HB0.out⟩
  case round =>
    obtain ⟨j, A, B, c, d, hj, hg, rfl, rfl, rfl, hown, hob⟩ := hrel
    have Hg := hide hg
    have Hown := hide hown
    have Hob := hide hob
    clear hg hown hob
    by_cases hlt : j < n
    · have hlt1 : ((j : Nat) : Int) < ((n : Nat) : Int) := by omega
      go_wp2_with (first
        | (refine wpList_bs1 (by rfl) 48 38 _ rfl [Value.int .i64 3, .int .i64 0, .int .i64 0, .int .i64 0, .int .i64 0, .int .i64 0, .int .i64 0, .int .i64 0, .int .i64 0, .int .i64 0, .int .i64 0, .int .i64 0, .int .i64 0, .int .i64 0, .int .i64 0, .int .i64 0, .int .i64 0, .int .i64 0, .int .i64 0, .int .i64 0, .int .i64 0, .slice none 0 0] rfl _ 22 192 Tryz.underlying48 infoA3 HR.out.len (by decide) (by decide) ?_)
        | (at_builtin; refine wpList_appS (by rfl) (.tmp 24) (.tmp 26) _ (by rfl) slAc (by rfl) (base := w.heap.size) (by exact own_chg Hown.out.own ((Chg.refl _ _).alloc _) (fun _ _ h => h)) (by rfl) (show ([Value.int .i64 3, .int .i64 0, .int .i64 0, .int .i64 0, .int .i64 0, .int .i64 0, .int .i64 0, .int .i64 0, .int .i64 0, .int .i64 0, .int .i64 0, .int .i64 0, .int .i64 0, .int .i64 0, .int .i64 0, .int .i64 0, .int .i64 0, .int .i64 0, .int .i64 0, .int .i64 0, .int .i64 0, .slice none 0 0]).length = 1 * 22 from HR.out.len) (by exact rd_lit _ _ _ _ _ rfl) HR.out.one (by omega) (by omega) (by have := Hown.out.sm.size; simp; omega) ?_; intro A6 c6 w6 hown6 hc6 hb6; have Hown6 := hide hown6; have Hc6 := hide hc6; have Hb6 := hide hb6; have Hob6 := hide (own_chg (own_chg Hob.out ((Chg.refl (fun _ => False) wr).alloc (.cells #[Value.int .i64 3, .int .i64 0, .int .i64 0, .int .i64 0, .int .i64 0, .int .i64 0, .int .i64 0, .int .i64 0, .int .i64 0, .int .i64 0, .int .i64 0, .int .i64 0, .int .i64 0, .int .i64 0, .int .i64 0, .int .i64 0, .int .i64 0, .int .i64 0, .int .i64 0, .int .i64 0, .int .i64 0, .slice none 0 0] 38)) (fun _ _ h => h)) hc6 (fun b hb e => (by have h1 := own_ty Hob.out hb; have h2 := own_ty Hown.out.own (b := b) (by rw [ownBlock_slice]; exact e); rw [h1] at h2; exact absurd (Option.some.inj h2) (by decide)))); clear hown6 hc6 hb6)
        | (refine Lib.wpList_append_own_string _ rfl (.tmp 28) _ _ _ rfl w.heap.size 5 iu Tryz.underlying36 Tryz.underlying9 hiu hzu hsu hbu _ _ _ rfl Hob6.out ⟨abT.toArray⟩ rfl (by unfold maxLen; rw [ba_size]; simp [abT]; omega) (by rw [ba_size]; simp [abT]; omega) (by have := Hown.out.sm.size; have := Hc6.out.size; simp at this; omega) ?_; intro v9 w9 hob9 hg9 _; obtain ⟨B9, d9, rfl, _⟩ := own_form hob9; have Hob9 := hide hob9; have Hg9 := hide hg9; clear hob9 hg9)
        | fail)
      go_roundg (n - (j + 1))
      case measure => have := Hg.out; omega
      case rel =>
        have hrow := (Hown.out.same ((Chg.refl (fun _ => False) wr).alloc (.cells #[Value.int .i64 3, .int .i64 0, .int .i64 0, .int .i64 0, .int .i64 0, .int .i64 0, .int .i64 0, .int .i64 0, .int .i64 0, .int .i64 0, .int .i64 0, .int .i64 0, .int .i64 0, .int .i64 0, .int .i64 0, .int .i64 0, .int .i64 0, .int .i64 0, .int .i64 0, .int .i64 0, .int .i64 0, .slice none 0 0] 38))).snoc (d := abL) ⟨Rd.nil _ _, Nat.zero_le _, Nat.zero_le _⟩ (fun h0 => absurd rfl h0) (by exact Hown6.out) Hc6.out Hb6.out
        have hbt : ∀ b, (Value.slice B (8 * j) d).ownBlock = some b → w.heap.size ≤ b := fun b hb => (Hob6.out.lt b hb).1
        have hne : ∀ b, (Value.slice A6 (j + 1) c6).ownBlock = some b → (Value.slice B (8 * j) d).ownBlock ≠ some b := fun b hb e => by
          have h1 := own_ty Hob6.out e
          have h2 := own_ty Hown6.out hb
          rw [h1] at h2
          exact absurd (Option.some.inj h2) (by decide)
        refine ⟨j + 1, A6, B9, c6, d9, by omega, rfl, by go_num, rfl, ?_, ?_, ?_⟩
        · rfl
        · rw [show List.replicate (j + 1) abL = List.replicate j abL ++ [abL] from List.replicate_succ']
          exact ⟨hrow.len, own_grown hrow.own Hg9.out hne, fun x hx => (by
            have hx2 : x = abL := by rcases List.mem_append.1 hx with h | h; exact (List.mem_replicate.1 h).2; simpa using h
            subst hx2; exact ⟨Rd.nil _ _, Nat.zero_le _, Nat.zero_le _⟩), fun x hx h0 => (by
            have hx2 : x = abL := by rcases List.mem_append.1 hx with h | h; exact (List.mem_replicate.1 h).2; simpa using h
            subst hx2; exact absurd rfl h0), same_grown hrow.sm Hg9.out hbt⟩
        · have h9 := Hob9.out
          rw [byteCells_app, ← ab_text] at h9
          exact h9
    · have hjn : j = n := by omega
      subst hjn
      have hlt1 : ¬ ((j : Nat) : Int) < ((j : Nat) : Int) := by omega
      have HL2 := hide (fun w' (hs : Same wr w') => HL.out w' (Same.trans Hown.out.sm hs))
      have htl := ab_len j
      have Hrd := hide (rd_bytes Hob.out)
      have Hcv := hide (fun (w' : World) (hs : Same wr w') => (by have h := conv_b (c := d) (Hrd.out.same hs); rw [htl] at h; exact h : (convert 36 9 (.slice B (8 * j) d)).run Tryz.prog w' = .ok (.string ⟨(textA (List.replicate j abA)).toArray⟩) w'))
      have hcnt := count10 (List.replicate j abA)
      rw [List.length_replicate] at hcnt
      have Hrm := hide (show (List.replicate j abL).map (·.a) = List.replicate j abA from by simp [abL])
      have Hrl := hide (show (List.replicate j abL).length = j from List.length_replicate)
      by_cases hbig : 10000 < j
      · have hb1 : (10000 : Int) < ((j : Nat) : Int) := by omega
        have HPr := hide (fun (w' : World) => Print_long (A := A) (c := c) w' hbig (by unfold maxLen; omega))
        have HRd := hide (fun (w' : World) => Read_long (textA (List.replicate j abA)) w' (by omega) (by omega))
        unfold strV at HRd
        clear htl hcnt
        obtain ⟨TX, hTX⟩ : ∃ TX, textA (List.replicate j abA) = TX := ⟨_, rfl⟩
        rw [hTX] at HRd Hcv
        clear hTX
        have hcv := Hcv.out wr (Chg.refl _ _)
        go_wp2_with (first
          | (go_at_call 17; ((with_reducible refine (HPr.out _).mono ?_); rintro e w1 ⟨rfl, rfl⟩))
          | (go_at_call 16; ((with_reducible refine (HRd.out _).mono ?_); rintro e w1 ⟨rfl, rfl⟩))
          | (go_at_call 13; ((with_reducible refine (HL2.out _ (Chg.refl _ _)).mono ?_); rintro e w9 ⟨rfl, hs9⟩; have Hs9 := hide hs9; clear hs9))
          | fail)
        go_ret
        exact ⟨rfl, Same.trans Hown.out.sm Hs9.out⟩
      · have hb1 : ¬ (10000 : Int) < ((j : Nat) : Int) := by omega
        have HPr := hide (Print_any (A := A) (c := c) (List.replicate j abL) wr (Ha.out.same Hown.out.sm) Hown.out.acts (fun d hd => (by rw [(List.mem_replicate.1 hd).2]; exact abA_wf)) (by rw [Hrl.out]; omega))
        rw [Hrm.out, Hrl.out] at HPr
        unfold PrintEnd at HPr
        rw [if_pos (badAt_all fun a h => (ab_all j a h).1)] at HPr
        have HRd := hide (fun w' (hs : Same wr w') => read_any (textA (List.replicate j abA)) w' (Ha.out.same (Same.trans Hown.out.sm hs)) (fit_text (ab_all j) (by omega)) (by omega))
        have HRt := hide (read_text ones_W (List.replicate j abA) 1 (ab_all j))
        unfold ReadEnd at HRd
        rw [HRt.out] at HRd
        have HRe : Hid (∀ w', Same wr w' → Calls Tryz.prog 16 #[strV (textA (List.replicate j abA))] w' fun e w'' => (∃ (A : Option Addr) (c : Nat), e = .returned (.tuple #[.slice A j c, .int .i64 0, .int .i64 0])) ∧ Same w' w'') := hide fun w' hs => (HRd.out w' hs).mono fun e w'' ⟨h1, h2⟩ => ⟨(by
          rcases h1 with ⟨l, A, c, h3, h4, h5⟩ | ⟨m, h3, _⟩
          · have h6 := (Except.ok.inj h3).symm
            have h7 : l.length = j := by have := congrArg List.length h6; rw [List.length_map, List.length_map, List.length_replicate] at this; exact this
            rw [h7] at h4
            exact ⟨A, c, h4⟩
          · cases h3), h2⟩
        unfold strV at HPr HRe
        clear htl hcnt HRd HRt
        obtain ⟨TX, hTX⟩ : ∃ TX, textA (List.replicate j abA) = TX := ⟨_, rfl⟩
        rw [hTX] at HPr HRe Hcv
        clear hTX
        go_wp2_with (first
          | (go_at_call 17; ((with_reducible refine HPr.out.mono ?_); rintro e w1 ⟨rfl, hs1⟩; have Hs1 := hide hs1; have hcv := Hcv.out w1 hs1; clear hs1))
          | (go_at_call 16; ((with_reducible refine (HRe.out _ Hs1.out).mono ?_); rintro e w2 ⟨⟨Ax, cx, rfl⟩, hs2⟩; have Hs2 := hide (Same.trans Hs1.out hs2); have hcv2 := Hcv.out w2 Hs2.out; clear hs2))
          | (go_at_call 13; ((with_reducible refine (HL2.out _ Hs2.out).mono ?_); rintro e w9 ⟨rfl, hs9⟩; have Hs9 := hide (Same.trans Hs2.out hs9); clear hs9))
          | fail)
        go_ret
        exact ⟨rfl, Same.trans Hown.out.sm Hs9.out⟩
end Go.Proofs.YtlodanjpkjfjiaaGreatDoor
