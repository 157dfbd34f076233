/-
  The document's Show: a good act's line. Conditions: bytes as they lie; numbers that an int holds.
-/
import Derived.Test.YtlodanjpkjfjiaaGreatDoorHeR
import Derived.Test.YtlodanjpkjfjiaaGreatDoorScQ
namespace Go.Proofs.YtlodanjpkjfjiaaGreatDoor
open Go.RowKit Go.Al
set_option linter.unusedVariables false

theorem join2 (a b : List UInt8) : Lib.join [a, b] [32] = a ++ [32] ++ b := by simp [Lib.join]
theorem join3 (a b c : List UInt8) : Lib.join [a, b, c] [32] = a ++ [32] ++ b ++ [32] ++ c := by simp [Lib.join]
def tailN (l : List Int) : List UInt8 := l.flatMap fun n => 32 :: Lib.itoa n
theorem tailN_snoc {l : List Int} {j : Nat} (h : j < l.length) : tailN (l.take (j + 1)) = tailN (l.take j) ++ [32] ++ Lib.itoa l[j] := by
  unfold tailN
  rw [List.take_succ_eq_append_getElem h, List.flatMap_append]
  simp
theorem join_tail (ws : List (List UInt8)) (l : List Int) (h : ws ≠ []) : Lib.join (ws ++ l.map Lib.itoa) [32] = Lib.join ws [32] ++ tailN l := by
  obtain ⟨x, r, rfl⟩ := List.exists_cons_of_ne_nil h
  rw [List.cons_append, Lib.join_cons, Lib.join_cons]
  simp [Lib.joinTail, tailN, List.flatMap, Function.comp_def]
theorem tailN_len : ∀ {l : List Int}, (∀ n ∈ l, inI' n) → (tailN l).length ≤ 22 * l.length
  | [], _ => by simp [tailN]
  | n :: l, h => by
    have h1 := tailN_len (l := l) fun m hm => h m (List.mem_cons_of_mem _ hm)
    have h2 := itoa_len n (h n (List.mem_cons_self)).1 (h n (List.mem_cons_self)).2
    unfold tailN at h1 ⊢
    simp only [List.flatMap_cons, List.length_append, List.length_cons]
    omega
def words12 : List Value := [Value.string ⟨#[]⟩, Value.string ⟨#[97, 100, 100, 45, 112, 111, 105, 110, 116]⟩, Value.string ⟨#[100, 114, 111, 112, 45, 112, 111, 105, 110, 116]⟩, Value.string ⟨#[97, 100, 100, 45, 115, 112, 97, 110]⟩, Value.string ⟨#[100, 114, 111, 112, 45, 115, 112, 97, 110]⟩, Value.string ⟨#[98, 111, 120]⟩, Value.string ⟨#[99, 111, 117, 110, 116]⟩, Value.string ⟨#[119, 105, 110]⟩, Value.string ⟨#[119, 105, 110, 45, 99, 111, 117, 110, 116]⟩, Value.string ⟨#[115, 116, 97, 98]⟩, Value.string ⟨#[111, 118, 101, 114, 108, 97, 112]⟩, Value.string ⟨#[111, 118, 101, 114, 108, 97, 112, 45, 99, 111, 117, 110, 116]⟩]
theorem word12 (m : Nat) (h1 : 1 ≤ m) (h2 : m ≤ 11) : words12[m]? = some (.string ⟨(wordAt wordsR (m : Int)).toArray⟩) := by
  have : ∀ k : Fin 11, words12[k.val + 1]? = some (.string ⟨(wordAt wordsR ((k.val + 1 : Nat) : Int)).toArray⟩) := by
    intro ⟨k, hk⟩
    have : k = 0 ∨ k = 1 ∨ k = 2 ∨ k = 3 ∨ k = 4 ∨ k = 5 ∨ k = 6 ∨ k = 7 ∨ k = 8 ∨ k = 9 ∨ k = 10 := by omega
    rcases this with rfl | rfl | rfl | rfl | rfl | rfl | rfl | rfl | rfl | rfl | rfl <;> rfl
  have h3 := this ⟨m - 1, by omega⟩
  rw [show (m - 1) + 1 = m by omega] at h3
  exact h3
set_option maxRecDepth 100000 in
set_option maxHeartbeats 4000000 in
theorem rshow_2 (a : Ac) {A : Option Addr} {c : Nat} (w : World) (h : Rd w A (bs a.b)) (hg : goodA a = true) (hw : WfA a) (hk : a.k = 2) :
    Calls Tryz.prog 12 #[acV a A c] w fun e w' => e = .returned (strV (showB a)) ∧ Same w w'  := by
  have HI1 := hide (int_is a.id hw.id.1 hw.id.2)
  have HI2 := hide (int_is a.n hw.n.1 hw.n.2)
  have n1 := itoa_len a.id hw.id.1 hw.id.2
  have n2 := itoa_len a.n hw.n.1 hw.n.2
  have hb := Blk.new w 38 (acL a A c).toArray
  have Hs := hide ((Chg.refl (fun _ => False) w).alloc (.cells (acL a A c).toArray 38))
  have l0 : (acL a A c)[0]? = some (.int .i64 a.k) := rfl
  have l1 : (acL a A c)[1]? = some (.int .i64 a.id) := rfl
  have l2 : (acL a A c)[2]? = some (.int .i64 a.n) := rfl
  have l3 : (acL a A c)[3]? = some (.int .i64 a.r.k) := rfl
  have l4 : (acL a A c)[4]? = some (.int .i64 a.r.c.k) := rfl
  have l11 : (acL a A c)[11]? = some (.int .i64 a.r.q.k) := rfl
  have l21 : (acL a A c)[21]? = some (.slice A a.b.length c) := rfl
  have hkw := hb.cell
  have Hsh := hide (show showB a = [115, 116, 101, 112] ++ [32] ++ Lib.itoa a.id ++ [32] ++ Lib.itoa a.n from by
    unfold showB
    rw [show showW a = [wordAt wordsA 2, Lib.itoa a.id, Lib.itoa a.n] from by unfold showW; rw [hk]; simp, join3, show wordAt wordsA 2 = [115, 116, 101, 112] from rfl])
  rw [Hsh.out]
  clear hb h hg hw Hsh
  unfold acV
  unfold strV at HI1 HI2
  generalize Lib.itoa a.id = S1 at *
  generalize Lib.itoa a.n = S2 at *
  obtain ⟨id, hid⟩ : ∃ k, a.id = k := ⟨_, rfl⟩
  obtain ⟨n, hn⟩ : ∃ k, a.n = k := ⟨_, rfl⟩
  rw [hk] at l0
  rw [hid] at l1 HI1
  rw [hn] at l2 HI2
  clear hid hn
  clear hk
  generalize acL a A c = L at *
  have q0 : ¬ 9223372036854775807 < 5 + S1.length := by omega
  have q1 : ¬ 9223372036854775807 < 5 + S1.length + 1 := by omega
  have q2 : ¬ 9223372036854775807 < 5 + S1.length + 1 + S2.length := by omega
  go_enter Tryz.func12, Tryz.ntmps12
  go_wp2_with (first
    | (go_at_call 25; (with_reducible refine (HI1.out _).mono ?_); rintro _ w2 ⟨rfl, rfl⟩)
    | (go_at_call 25; (with_reducible refine (HI2.out _).mono ?_); rintro _ w2 ⟨rfl, rfl⟩)
    | fail)
  go_ret
  refine ⟨ret_eq (show Value.string _ = strV _ from ?_), Hs.out.alloc _⟩
  unfold strV
  simp only [bapp]
  rfl
set_option maxRecDepth 100000 in
set_option maxHeartbeats 4000000 in
theorem rshow_3 (a : Ac) {A : Option Addr} {c : Nat} (w : World) (h : Rd w A (bs a.b)) (hg : goodA a = true) (hw : WfA a) (hk : a.k = 3) :
    Calls Tryz.prog 12 #[acV a A c] w fun e w' => e = .returned (strV (showB a)) ∧ Same w w'  := by
  have HI1 := hide (int_is a.id hw.id.1 hw.id.2)
  have HI2 := hide (int_is a.n hw.n.1 hw.n.2)
  have n1 := itoa_len a.id hw.id.1 hw.id.2
  have n2 := itoa_len a.n hw.n.1 hw.n.2
  have hb := Blk.new w 38 (acL a A c).toArray
  have Hs := hide ((Chg.refl (fun _ => False) w).alloc (.cells (acL a A c).toArray 38))
  have l0 : (acL a A c)[0]? = some (.int .i64 a.k) := rfl
  have l1 : (acL a A c)[1]? = some (.int .i64 a.id) := rfl
  have l2 : (acL a A c)[2]? = some (.int .i64 a.n) := rfl
  have l3 : (acL a A c)[3]? = some (.int .i64 a.r.k) := rfl
  have l4 : (acL a A c)[4]? = some (.int .i64 a.r.c.k) := rfl
  have l11 : (acL a A c)[11]? = some (.int .i64 a.r.q.k) := rfl
  have l21 : (acL a A c)[21]? = some (.slice A a.b.length c) := rfl
  have hkw := hb.cell
  have Hsh := hide (show showB a = [97, 98, 111, 114, 116] ++ [32] ++ Lib.itoa a.id from by
    unfold showB
    rw [show showW a = [wordAt wordsA 3, Lib.itoa a.id] from by unfold showW; rw [hk]; simp, join2, show wordAt wordsA 3 = [97, 98, 111, 114, 116] from rfl])
  rw [Hsh.out]
  clear hb h hg hw Hsh
  unfold acV
  unfold strV at HI1 HI2
  generalize Lib.itoa a.id = S1 at *
  generalize Lib.itoa a.n = S2 at *
  obtain ⟨id, hid⟩ : ∃ k, a.id = k := ⟨_, rfl⟩
  obtain ⟨n, hn⟩ : ∃ k, a.n = k := ⟨_, rfl⟩
  rw [hk] at l0
  rw [hid] at l1 HI1
  rw [hn] at l2 HI2
  clear hid hn
  clear hk
  generalize acL a A c = L at *
  have q0 : ¬ 9223372036854775807 < 6 + S1.length := by omega
  go_enter Tryz.func12, Tryz.ntmps12
  go_wp2_with (first
    | (go_at_call 25; (with_reducible refine (HI1.out _).mono ?_); rintro _ w2 ⟨rfl, rfl⟩)
    | (go_at_call 25; (with_reducible refine (HI2.out _).mono ?_); rintro _ w2 ⟨rfl, rfl⟩)
    | fail)
  go_ret
  refine ⟨ret_eq (show Value.string _ = strV _ from ?_), Hs.out.alloc _⟩
  unfold strV
  simp only [bapp]
  rfl
set_option maxRecDepth 100000 in
set_option maxHeartbeats 4000000 in
theorem rshow_4 (a : Ac) {A : Option Addr} {c : Nat} (w : World) (h : Rd w A (bs a.b)) (hg : goodA a = true) (hw : WfA a) (hk : a.k = 4) :
    Calls Tryz.prog 12 #[acV a A c] w fun e w' => e = .returned (strV (showB a)) ∧ Same w w'  := by
  have HI1 := hide (int_is a.id hw.id.1 hw.id.2)
  have HI2 := hide (int_is a.n hw.n.1 hw.n.2)
  have n1 := itoa_len a.id hw.id.1 hw.id.2
  have n2 := itoa_len a.n hw.n.1 hw.n.2
  have hb := Blk.new w 38 (acL a A c).toArray
  have Hs := hide ((Chg.refl (fun _ => False) w).alloc (.cells (acL a A c).toArray 38))
  have l0 : (acL a A c)[0]? = some (.int .i64 a.k) := rfl
  have l1 : (acL a A c)[1]? = some (.int .i64 a.id) := rfl
  have l2 : (acL a A c)[2]? = some (.int .i64 a.n) := rfl
  have l3 : (acL a A c)[3]? = some (.int .i64 a.r.k) := rfl
  have l4 : (acL a A c)[4]? = some (.int .i64 a.r.c.k) := rfl
  have l11 : (acL a A c)[11]? = some (.int .i64 a.r.q.k) := rfl
  have l21 : (acL a A c)[21]? = some (.slice A a.b.length c) := rfl
  have hkw := hb.cell
  have Hsh := hide (show showB a = [99, 108, 101, 97, 110] ++ [32] ++ Lib.itoa a.n from by
    unfold showB
    rw [show showW a = [wordAt wordsA 4, Lib.itoa a.n] from by unfold showW; rw [hk]; simp, join2, show wordAt wordsA 4 = [99, 108, 101, 97, 110] from rfl])
  rw [Hsh.out]
  clear hb h hg hw Hsh
  unfold acV
  unfold strV at HI1 HI2
  generalize Lib.itoa a.id = S1 at *
  generalize Lib.itoa a.n = S2 at *
  obtain ⟨id, hid⟩ : ∃ k, a.id = k := ⟨_, rfl⟩
  obtain ⟨n, hn⟩ : ∃ k, a.n = k := ⟨_, rfl⟩
  rw [hk] at l0
  rw [hid] at l1 HI1
  rw [hn] at l2 HI2
  clear hid hn
  clear hk
  generalize acL a A c = L at *
  have q0 : ¬ 9223372036854775807 < 6 + S2.length := by omega
  go_enter Tryz.func12, Tryz.ntmps12
  go_wp2_with (first
    | (go_at_call 25; (with_reducible refine (HI1.out _).mono ?_); rintro _ w2 ⟨rfl, rfl⟩)
    | (go_at_call 25; (with_reducible refine (HI2.out _).mono ?_); rintro _ w2 ⟨rfl, rfl⟩)
    | fail)
  go_ret
  refine ⟨ret_eq (show Value.string _ = strV _ from ?_), Hs.out.alloc _⟩
  unfold strV
  simp only [bapp]
  rfl
set_option maxRecDepth 100000 in
set_option maxHeartbeats 4000000 in
theorem rshow_5 (a : Ac) {A : Option Addr} {c : Nat} (w : World) (h : Rd w A (bs a.b)) (hg : goodA a = true) (hw : WfA a) (hk : a.k = 5) :
    Calls Tryz.prog 12 #[acV a A c] w fun e w' => e = .returned (strV (showB a)) ∧ Same w w'  := by
  have HI1 := hide (int_is a.id hw.id.1 hw.id.2)
  have HI2 := hide (int_is a.n hw.n.1 hw.n.2)
  have n1 := itoa_len a.id hw.id.1 hw.id.2
  have n2 := itoa_len a.n hw.n.1 hw.n.2
  have hb := Blk.new w 38 (acL a A c).toArray
  have Hs := hide ((Chg.refl (fun _ => False) w).alloc (.cells (acL a A c).toArray 38))
  have l0 : (acL a A c)[0]? = some (.int .i64 a.k) := rfl
  have l1 : (acL a A c)[1]? = some (.int .i64 a.id) := rfl
  have l2 : (acL a A c)[2]? = some (.int .i64 a.n) := rfl
  have l3 : (acL a A c)[3]? = some (.int .i64 a.r.k) := rfl
  have l4 : (acL a A c)[4]? = some (.int .i64 a.r.c.k) := rfl
  have l11 : (acL a A c)[11]? = some (.int .i64 a.r.q.k) := rfl
  have l21 : (acL a A c)[21]? = some (.slice A a.b.length c) := rfl
  have hkw := hb.cell
  have hbl : a.b.length ≤ 1000 := by
    rcases goodA_cases hg with ⟨h1, _⟩ | ⟨h1, _⟩ | h1 | ⟨h1, _⟩ | ⟨_, h1⟩ <;> first | omega | exact h1
  have HH := hide (fun w' (hs : Same w w') => rHex_any (c := c) a.b w' (h.same hs) (by omega))
  have n3 := hexB_len a.b
  have Hsh := hide (show showB a = [115, 101, 110, 100] ++ [32] ++ Lib.itoa a.id ++ [32] ++ hexB a.b from by
    unfold showB
    rw [show showW a = [wordAt wordsA 5, Lib.itoa a.id, hexB a.b] from by unfold showW; rw [hk]; simp, join3, show wordAt wordsA 5 = [115, 101, 110, 100] from rfl])
  rw [Hsh.out]
  clear hb h hg hw Hsh
  unfold acV
  unfold strV at HI1 HI2
  generalize Lib.itoa a.id = S1 at *
  generalize Lib.itoa a.n = S2 at *
  obtain ⟨id, hid⟩ : ∃ k, a.id = k := ⟨_, rfl⟩
  obtain ⟨n, hn⟩ : ∃ k, a.n = k := ⟨_, rfl⟩
  rw [hk] at l0
  rw [hid] at l1 HI1
  rw [hn] at l2 HI2
  clear hid hn
  unfold strV at HH
  generalize hexB a.b = S3 at *
  generalize a.b.length = bl at *
  clear hk
  generalize acL a A c = L at *
  have q0 : ¬ 9223372036854775807 < 5 + S1.length := by omega
  have q1 : ¬ 9223372036854775807 < 5 + S1.length + 1 := by omega
  have q2 : ¬ 9223372036854775807 < 5 + S1.length + 1 + S3.length := by omega
  go_enter Tryz.func12, Tryz.ntmps12
  go_wp2_with (first
    | (go_at_call 25; (with_reducible refine (HI1.out _).mono ?_); rintro _ w2 ⟨rfl, rfl⟩)
    | (go_at_call 25; (with_reducible refine (HI2.out _).mono ?_); rintro _ w2 ⟨rfl, rfl⟩)
    | (go_at_call 21; (with_reducible refine (HH.out _ (Hs.out.alloc _)).mono ?_); rintro _ w2 ⟨rfl, hs2⟩; have Hs2 := hide (Same.trans (Hs.out.alloc _) hs2); clear hs2)
    | fail)
  go_ret
  refine ⟨ret_eq (show Value.string _ = strV _ from ?_), Hs2.out⟩
  unfold strV
  simp only [bapp]
  rfl
set_option maxRecDepth 100000 in
set_option maxHeartbeats 8000000 in
theorem rshow_1c (a : Ac) {A : Option Addr} {c : Nat} (w : World) (h : Rd w A (bs a.b)) (hg : goodA a = true) (hw : WfA a) (hk : a.k = 1) (hr : a.r.k = 1) :
    Calls Tryz.prog 12 #[acV a A c] w fun e w' => e = .returned (strV (showB a)) ∧ Same w w'  := by
  have HI1 := hide (int_is a.id hw.id.1 hw.id.2)
  have HI2 := hide (int_is a.n hw.n.1 hw.n.2)
  have n1 := itoa_len a.id hw.id.1 hw.id.2
  have n2 := itoa_len a.n hw.n.1 hw.n.2
  have hb := Blk.new w 38 (acL a A c).toArray
  have Hs := hide ((Chg.refl (fun _ => False) w).alloc (.cells (acL a A c).toArray 38))
  have l0 : (acL a A c)[0]? = some (.int .i64 a.k) := rfl
  have l1 : (acL a A c)[1]? = some (.int .i64 a.id) := rfl
  have l2 : (acL a A c)[2]? = some (.int .i64 a.n) := rfl
  have l3 : (acL a A c)[3]? = some (.int .i64 a.r.k) := rfl
  have l4 : (acL a A c)[4]? = some (.int .i64 a.r.c.k) := rfl
  have l11 : (acL a A c)[11]? = some (.int .i64 a.r.q.k) := rfl
  have l21 : (acL a A c)[21]? = some (.slice A a.b.length c) := rfl
  have hbX := hide hb
  have hkw := hb.cell
  have hgr : goodR a.r = true := by
    rcases goodA_cases hg with ⟨_, h1⟩ | ⟨h1, _⟩ | h1 | ⟨h1, _⟩ | ⟨h1, _⟩ <;> first | exact h1 | omega
  have HNm := hide (fun w' => nums_any a.r w' hgr)
  have hkr := kindR_good hgr
  obtain ⟨m, hm⟩ : ∃ m : Nat, kindR a.r = (m : Int) := ⟨(kindR a.r).toNat, by omega⟩
  have hw12 := word12 m (by omega) (by omega)
  have hm12 : m < 12 := by omega
  have hm12i : (m : Int) < 12 := by omega
  have nw : (wordAt wordsR (m : Int)).length ≤ 20 := wordR_len _
  have Hra := hide (fun (w' : World) (hs' : Same (w.alloc (.cells (acL a A c).toArray 38)) w') => (acW_range (hb.same hs') : w'.rangeAt w.heap.size 3 (rqL a.r)))
  have Hrl := hide (rqL_len a.r)
  have Htl := hide (fun (j : Nat) => tailN_len (l := (numsR a.r).take j) fun n hn => hw.r.nums n (List.mem_of_mem_take hn))
  have Htk := hide (fun (j : Nat) (hj : j < (numsR a.r).length) => tailN_snoc hj)
  have HIn := hide (fun (j : Nat) (hj : j < (numsR a.r).length) => hw.r.nums _ (List.getElem_mem hj))
  have hnl := (numsR_len hgr).2
  have Hsh := hide (show showB a = [119, 97, 110, 116] ++ [32] ++ Lib.itoa a.id ++ [32] ++ wordAt wordsR (m : Int) ++ tailN (numsR a.r) from by
    unfold showB
    rw [show showW a = [wordAt wordsA 1, Lib.itoa a.id, wordAt wordsR (m : Int)] ++ (numsR a.r).map Lib.itoa from by unfold showW; rw [hk, ← hm]; simp, join_tail _ _ (by simp), join3, show wordAt wordsA 1 = [119, 97, 110, 116] from rfl])
  rw [Hsh.out]
  have hck : a.r.c.k = (m : Int) := by have := hm; unfold kindR at this; rw [if_pos hr] at this; exact this
  rw [hr] at l3
  rw [hck] at l4
  clear hb h hg hw Hsh hgr hkr hm
  unfold acV
  unfold strV at HI1 HI2
  generalize Lib.itoa a.id = S1 at *
  generalize Lib.itoa a.n = S2 at *
  obtain ⟨id, hid⟩ : ∃ k, a.id = k := ⟨_, rfl⟩
  obtain ⟨n, hn⟩ : ∃ k, a.n = k := ⟨_, rfl⟩
  rw [hk] at l0
  rw [hid] at l1 HI1
  rw [hn] at l2 HI2
  clear hid hn
  clear hk hr hck
  have hcw := (Blk.new ((w.alloc (.cells (acL a A c).toArray 38)).alloc (.cells #[Value.string ⟨#[]⟩, Value.string ⟨#[119, 97, 110, 116]⟩, Value.string ⟨#[115, 116, 101, 112]⟩, Value.string ⟨#[97, 98, 111, 114, 116]⟩, Value.string ⟨#[99, 108, 101, 97, 110]⟩, Value.string ⟨#[115, 101, 110, 100]⟩] 9)) 9 words12.toArray).cell m
  simp only [World.size_alloc, List.getElem?_toArray, hw12] at hcw
  unfold words12 at hcw
  unfold rqV at HNm
  generalize rqL a.r = RL at *
  generalize numsR a.r = Ns at *
  generalize wordAt wordsR (m : Int) = SW at *
  generalize acL a A c = L at *
  obtain ⟨N, hN⟩ : ∃ N, Ns.length = N := ⟨_, rfl⟩
  rw [hN] at hnl
  have HN := hide hN
  clear hN hw12
  have q0 : ¬ 9223372036854775807 < 5 + S1.length := by omega
  have q1 : ¬ 9223372036854775807 < 5 + S1.length + 1 := by omega
  have q2 : ¬ 9223372036854775807 < 5 + S1.length + 1 + SW.length := by omega
  obtain ⟨S0, hS0⟩ : ∃ S, S = [119, 97, 110, 116, 32] ++ S1 ++ [32] ++ SW := ⟨_, rfl⟩
  have HS0 := hide (show [119, 97, 110, 116] ++ [32] ++ S1 ++ [32] ++ SW = S0 from by rw [hS0]; rfl)
  have HS0b := hide (show ((⟨#[119, 97, 110, 116]⟩ : ByteArray) ++ ⟨#[32]⟩ ++ ⟨S1.toArray⟩ ++ ⟨#[32]⟩ ++ ⟨SW.toArray⟩) = ⟨S0.toArray⟩ from by simp only [bapp]; rw [hS0]; rfl)
  have hS0l : S0.length ≤ 100 := by rw [hS0]; simp; omega
  clear hS0
  rw [HS0.out]
  go_enter Tryz.func12, Tryz.ntmps12
  go_wp2_with (first
    | (go_at_call 25; (with_reducible refine (HI1.out _).mono ?_); rintro _ w2 ⟨rfl, rfl⟩)
    | ((with_reducible refine ldR 35 w.heap.size 3 18 RL rowReq Hrl.out (Hra.out _ (((Chg.refl _ _).alloc _).alloc _)) ?_ ?_ ?_); rfl; rfl)
    | (go_at_call 26; (with_reducible refine (HNm.out _).mono ?_); rintro _ w4 ⟨⟨b9, rfl, hrd⟩, hs4⟩; have hs5 := Same.trans ((Hs.out.alloc _).alloc _) hs4; have Hs4 := hide hs5; have Hrd := hide hrd; have k0 := (((hbX.out.alloc _).alloc _).same hs4).cell 0; simp only [List.getElem?_toArray, l0] at k0; rw [HN.out]; clear hs4 hrd hs5)
    | fail)
  go_loopg [4, 7] N (fun g v4 v7 wr => ∃ j : Nat, j ≤ N ∧ g = N - j ∧ v7 = .int .i64 j ∧ v4 = .string ⟨(S0 ++ tailN (Ns.take j)).toArray⟩ ∧ w4 = wr)
  case atStart => exact ⟨0, Nat.zero_le _, rfl, rfl, by rw [HS0b.out]; simp [tailN], rfl⟩
  case round =>
    obtain ⟨j, hj, hg, rfl, rfl, rfl⟩ := hrel
    have Hg := hide hg
    clear hg
    by_cases hlt : j < N
    · have hjl : j < Ns.length := by rw [HN.out]; exact hlt
      obtain ⟨b8, o8, h8, hc8⟩ := Hrd.out.at_ (i := j) (by simp [is]; exact hjl)
      cases h8
      have hcx : w4.cell? ⟨b9, j, none⟩ = some (.int .i64 Ns[j]) := by rw [Nat.zero_add] at hc8; rw [hc8]; simp [is]
      have hin := HIn.out j hjl
      have HIj := hide (int_is Ns[j] hin.1 hin.2)
      have nj := itoa_len Ns[j] hin.1 hin.2
      have Htk1 := hide (Htk.out j hjl)
      have hle := Htl.out j
      rw [List.length_take] at hle
      unfold strV at HIj
      clear hc8 hin
      generalize Lib.itoa Ns[j] = D at *
      generalize Ns[j] = x at *
      generalize hTT : tailN (Ns.take j) = TT at *
      clear hTT
      have p0 : ¬ 9223372036854775807 < S0.length + TT.length + 1 := by omega
      have p1 : ¬ 9223372036854775807 < S0.length + TT.length + 1 + D.length := by omega
      go_wp2_with (first
        | (go_at_call 25; (with_reducible refine (HIj.out _).mono ?_); rintro _ w2 ⟨rfl, rfl⟩)
        | fail)
      go_roundg (N - (j + 1))
      case measure => have := Hg.out; omega
      case rel => exact ⟨j + 1, by omega, rfl, by go_num, by rw [Htk1.out]; simp only [bapp, List.append_assoc], rfl⟩
    · have hjN : j = N := by omega
      subst hjN
      have htk : Ns.take j = Ns := List.take_of_length_le (by rw [HN.out]; exact Nat.le_refl _)
      rw [htk]
      obtain ⟨TT, hTT⟩ : ∃ TT, tailN Ns = TT := ⟨_, rfl⟩
      rw [hTT]
      have HTT := hide hTT
      clear hTT htk
      go_wp2_with fail
      go_ret
      refine ⟨?_, Hs4.out⟩
      rw [HTT.out]
      rfl
set_option maxRecDepth 100000 in
set_option maxHeartbeats 8000000 in
theorem rshow_1q (a : Ac) {A : Option Addr} {c : Nat} (w : World) (h : Rd w A (bs a.b)) (hg : goodA a = true) (hw : WfA a) (hk : a.k = 1) (hr : a.r.k = 2) :
    Calls Tryz.prog 12 #[acV a A c] w fun e w' => e = .returned (strV (showB a)) ∧ Same w w'  := by
  have HI1 := hide (int_is a.id hw.id.1 hw.id.2)
  have HI2 := hide (int_is a.n hw.n.1 hw.n.2)
  have n1 := itoa_len a.id hw.id.1 hw.id.2
  have n2 := itoa_len a.n hw.n.1 hw.n.2
  have hb := Blk.new w 38 (acL a A c).toArray
  have Hs := hide ((Chg.refl (fun _ => False) w).alloc (.cells (acL a A c).toArray 38))
  have l0 : (acL a A c)[0]? = some (.int .i64 a.k) := rfl
  have l1 : (acL a A c)[1]? = some (.int .i64 a.id) := rfl
  have l2 : (acL a A c)[2]? = some (.int .i64 a.n) := rfl
  have l3 : (acL a A c)[3]? = some (.int .i64 a.r.k) := rfl
  have l4 : (acL a A c)[4]? = some (.int .i64 a.r.c.k) := rfl
  have l11 : (acL a A c)[11]? = some (.int .i64 a.r.q.k) := rfl
  have l21 : (acL a A c)[21]? = some (.slice A a.b.length c) := rfl
  have hbX := hide hb
  have hkw := hb.cell
  have hgr : goodR a.r = true := by
    rcases goodA_cases hg with ⟨_, h1⟩ | ⟨h1, _⟩ | h1 | ⟨h1, _⟩ | ⟨h1, _⟩ <;> first | exact h1 | omega
  have HNm := hide (fun w' => nums_any a.r w' hgr)
  have hkr := kindR_good hgr
  obtain ⟨m, hm⟩ : ∃ m : Nat, kindR a.r = (m : Int) := ⟨(kindR a.r).toNat, by omega⟩
  have hw12 := word12 m (by omega) (by omega)
  have hm12 : m < 12 := by omega
  have hm12i : (m : Int) < 12 := by omega
  have nw : (wordAt wordsR (m : Int)).length ≤ 20 := wordR_len _
  have Hra := hide (fun (w' : World) (hs' : Same (w.alloc (.cells (acL a A c).toArray 38)) w') => (acW_range (hb.same hs') : w'.rangeAt w.heap.size 3 (rqL a.r)))
  have Hrl := hide (rqL_len a.r)
  have Htl := hide (fun (j : Nat) => tailN_len (l := (numsR a.r).take j) fun n hn => hw.r.nums n (List.mem_of_mem_take hn))
  have Htk := hide (fun (j : Nat) (hj : j < (numsR a.r).length) => tailN_snoc hj)
  have HIn := hide (fun (j : Nat) (hj : j < (numsR a.r).length) => hw.r.nums _ (List.getElem_mem hj))
  have hnl := (numsR_len hgr).2
  have Hsh := hide (show showB a = [119, 97, 110, 116] ++ [32] ++ Lib.itoa a.id ++ [32] ++ wordAt wordsR (m : Int) ++ tailN (numsR a.r) from by
    unfold showB
    rw [show showW a = [wordAt wordsA 1, Lib.itoa a.id, wordAt wordsR (m : Int)] ++ (numsR a.r).map Lib.itoa from by unfold showW; rw [hk, ← hm]; simp, join_tail _ _ (by simp), join3, show wordAt wordsA 1 = [119, 97, 110, 116] from rfl])
  rw [Hsh.out]
  have hck : 4 + a.r.q.k = (m : Int) := by have := hm; unfold kindR at this; rw [if_neg (by omega)] at this; exact this
  obtain ⟨qk, hqk⟩ : ∃ k, a.r.q.k = k := ⟨_, rfl⟩
  rw [hr] at l3
  rw [hqk] at l11 hck
  have hwq : IntKind.i64.wrap (4 + qk) = (m : Int) := by rw [hck]; exact IntWalk.i64_in _ (by omega)
  clear hqk
  clear hb h hg hw Hsh hgr hkr hm
  unfold acV
  unfold strV at HI1 HI2
  generalize Lib.itoa a.id = S1 at *
  generalize Lib.itoa a.n = S2 at *
  obtain ⟨id, hid⟩ : ∃ k, a.id = k := ⟨_, rfl⟩
  obtain ⟨n, hn⟩ : ∃ k, a.n = k := ⟨_, rfl⟩
  rw [hk] at l0
  rw [hid] at l1 HI1
  rw [hn] at l2 HI2
  clear hid hn
  clear hk hr
  have hcw := (Blk.new ((w.alloc (.cells (acL a A c).toArray 38)).alloc (.cells #[Value.string ⟨#[]⟩, Value.string ⟨#[119, 97, 110, 116]⟩, Value.string ⟨#[115, 116, 101, 112]⟩, Value.string ⟨#[97, 98, 111, 114, 116]⟩, Value.string ⟨#[99, 108, 101, 97, 110]⟩, Value.string ⟨#[115, 101, 110, 100]⟩] 9)) 9 words12.toArray).cell m
  simp only [World.size_alloc, List.getElem?_toArray, hw12] at hcw
  unfold words12 at hcw
  unfold rqV at HNm
  generalize rqL a.r = RL at *
  generalize numsR a.r = Ns at *
  generalize wordAt wordsR (m : Int) = SW at *
  generalize acL a A c = L at *
  obtain ⟨N, hN⟩ : ∃ N, Ns.length = N := ⟨_, rfl⟩
  rw [hN] at hnl
  have HN := hide hN
  clear hN hw12
  have q0 : ¬ 9223372036854775807 < 5 + S1.length := by omega
  have q1 : ¬ 9223372036854775807 < 5 + S1.length + 1 := by omega
  have q2 : ¬ 9223372036854775807 < 5 + S1.length + 1 + SW.length := by omega
  obtain ⟨S0, hS0⟩ : ∃ S, S = [119, 97, 110, 116, 32] ++ S1 ++ [32] ++ SW := ⟨_, rfl⟩
  have HS0 := hide (show [119, 97, 110, 116] ++ [32] ++ S1 ++ [32] ++ SW = S0 from by rw [hS0]; rfl)
  have HS0b := hide (show ((⟨#[119, 97, 110, 116]⟩ : ByteArray) ++ ⟨#[32]⟩ ++ ⟨S1.toArray⟩ ++ ⟨#[32]⟩ ++ ⟨SW.toArray⟩) = ⟨S0.toArray⟩ from by simp only [bapp]; rw [hS0]; rfl)
  have hS0l : S0.length ≤ 100 := by rw [hS0]; simp; omega
  clear hS0
  rw [HS0.out]
  go_enter Tryz.func12, Tryz.ntmps12
  go_wp2_with (first
    | (go_at_call 25; (with_reducible refine (HI1.out _).mono ?_); rintro _ w2 ⟨rfl, rfl⟩)
    | ((with_reducible refine ldR 35 w.heap.size 3 18 RL rowReq Hrl.out (Hra.out _ (((Chg.refl _ _).alloc _).alloc _)) ?_ ?_ ?_); rfl; rfl)
    | (go_at_call 26; (with_reducible refine (HNm.out _).mono ?_); rintro _ w4 ⟨⟨b9, rfl, hrd⟩, hs4⟩; have hs5 := Same.trans ((Hs.out.alloc _).alloc _) hs4; have Hs4 := hide hs5; have Hrd := hide hrd; have k0 := (((hbX.out.alloc _).alloc _).same hs4).cell 0; simp only [List.getElem?_toArray, l0] at k0; rw [HN.out]; clear hs4 hrd hs5)
    | fail)
  go_loopg [4, 7] N (fun g v4 v7 wr => ∃ j : Nat, j ≤ N ∧ g = N - j ∧ v7 = .int .i64 j ∧ v4 = .string ⟨(S0 ++ tailN (Ns.take j)).toArray⟩ ∧ w4 = wr)
  case atStart => exact ⟨0, Nat.zero_le _, rfl, rfl, by rw [HS0b.out]; simp [tailN], rfl⟩
  case round =>
    obtain ⟨j, hj, hg, rfl, rfl, rfl⟩ := hrel
    have Hg := hide hg
    clear hg
    by_cases hlt : j < N
    · have hjl : j < Ns.length := by rw [HN.out]; exact hlt
      obtain ⟨b8, o8, h8, hc8⟩ := Hrd.out.at_ (i := j) (by simp [is]; exact hjl)
      cases h8
      have hcx : w4.cell? ⟨b9, j, none⟩ = some (.int .i64 Ns[j]) := by rw [Nat.zero_add] at hc8; rw [hc8]; simp [is]
      have hin := HIn.out j hjl
      have HIj := hide (int_is Ns[j] hin.1 hin.2)
      have nj := itoa_len Ns[j] hin.1 hin.2
      have Htk1 := hide (Htk.out j hjl)
      have hle := Htl.out j
      rw [List.length_take] at hle
      unfold strV at HIj
      clear hc8 hin
      generalize Lib.itoa Ns[j] = D at *
      generalize Ns[j] = x at *
      generalize hTT : tailN (Ns.take j) = TT at *
      clear hTT
      have p0 : ¬ 9223372036854775807 < S0.length + TT.length + 1 := by omega
      have p1 : ¬ 9223372036854775807 < S0.length + TT.length + 1 + D.length := by omega
      go_wp2_with (first
        | (go_at_call 25; (with_reducible refine (HIj.out _).mono ?_); rintro _ w2 ⟨rfl, rfl⟩)
        | fail)
      go_roundg (N - (j + 1))
      case measure => have := Hg.out; omega
      case rel => exact ⟨j + 1, by omega, rfl, by go_num, by rw [Htk1.out]; simp only [bapp, List.append_assoc], rfl⟩
    · have hjN : j = N := by omega
      subst hjN
      have htk : Ns.take j = Ns := List.take_of_length_le (by rw [HN.out]; exact Nat.le_refl _)
      rw [htk]
      obtain ⟨TT, hTT⟩ : ∃ TT, tailN Ns = TT := ⟨_, rfl⟩
      rw [hTT]
      have HTT := hide hTT
      clear hTT htk
      go_wp2_with fail
      go_ret
      refine ⟨?_, Hs4.out⟩
      rw [HTT.out]
      rfl
theorem rshow_any (a : Ac) {A : Option Addr} {c : Nat} (w : World) (h : Rd w A (bs a.b)) (hg : goodA a = true) (hw : WfA a) :
    Calls Tryz.prog 12 #[acV a A c] w fun e w' => e = .returned (strV (showB a)) ∧ Same w w' := by
  rcases goodA_cases hg with ⟨hk, hr⟩ | ⟨hk, _⟩ | hk | ⟨hk, _⟩ | ⟨hk, _⟩
  · rcases good_cases hr with ⟨h1, _⟩ | ⟨h1, _⟩
    · exact rshow_1c a w h hg hw hk h1
    · exact rshow_1q a w h hg hw hk h1
  · exact rshow_2 a w h hg hw hk
  · exact rshow_3 a w h hg hw hk
  · exact rshow_4 a w h hg hw hk
  · exact rshow_5 a w h hg hw hk
end Go.Proofs.YtlodanjpkjfjiaaGreatDoor
