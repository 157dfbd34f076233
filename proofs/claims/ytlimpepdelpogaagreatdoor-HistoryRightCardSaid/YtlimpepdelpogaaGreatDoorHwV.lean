/-
  history's reader: take, in one contract. Conditions: 64 events at most; numbers that an int holds.
  trap.Catch over a closure; history.deeds: all events gone over. Conditions: 64 events at most; numbers that an int holds.
  history.deeds: all events gone over. Conditions: 64 events at most; numbers that an int holds.
-/
import Derived.Test.YtlimpepdelpogaaGreatDoorHwB
import Derived.Test.YtlimpepdelpogaaGreatDoorHwC
import Derived.Test.YtlimpepdelpogaaGreatDoorHwD
import Derived.Test.YtlimpepdelpogaaGreatDoorHwE
import Derived.Test.YtlimpepdelpogaaGreatDoorHwG
/-! HwT -/
namespace Go.Proofs.YtlimpepdelpogaaGreatDoor
open Go.RowKit Go.Al
set_option linter.unusedVariables false
/-- how take ends -/
def TakeEnd (u0 u1 : World) (g : Nat) (A0 : Option Addr) (N C : Nat) (st : Int) (r : Option (List Dd)) (e : Ending) (w' : World) : Prop :=
  match r with
  | none => TakeBad u0 u1 g e w'
  | some ds => TakeOk u0 u1 g A0 N C st ds e w'
theorem placeP_k {all : List Ev} {i : Nat} {x : Ev} {d : Dd} (h : x.k < 1 ∨ 5 < x.k) : placeP all i x d = none := by
  unfold placeP
  rw [if_pos h]
theorem placeP_c {all : List Ev} {i : Nat} {x : Ev} {d : Dd} (hk : 1 ≤ x.k ∧ x.k ≤ 5) (h : ¬ (timeD d x.k < 0 ∧ d.ss = x.ss ∧ eqR d.r x.r = true ∧ goodR x.r = true)) : placeP all i x d = none := by
  unfold placeP
  rw [if_neg (by omega), if_pos h]
theorem placeP_14 {all : List Ev} {i : Nat} {x : Ev} {d : Dd} (hk : x.k = 1 ∨ x.k = 4) (h : timeD d x.k < 0 ∧ d.ss = x.ss ∧ eqR d.r x.r = true ∧ goodR x.r = true) : placeP all i x d = some (setD d x.k i) := by
  unfold placeP
  rw [if_neg (by omega), if_neg (fun h' => h' h), if_neg (by omega), if_neg (by omega)]
theorem placeP_5 {all : List Ev} {i : Nat} {x : Ev} {d : Dd} (hk : x.k = 5) (h : timeD d x.k < 0 ∧ d.ss = x.ss ∧ eqR d.r x.r = true ∧ goodR x.r = true) : placeP all i x d = some { setD d x.k i with t := x.t } := by
  unfold placeP
  rw [if_neg (by omega), if_neg (fun h' => h' h), if_neg (by omega), if_pos hk]
theorem placeP_23 {all : List Ev} {i : Nat} {x : Ev} {d : Dd} (hk : x.k = 2 ∨ x.k = 3) (h : timeD d x.k < 0 ∧ d.ss = x.ss ∧ eqR d.r x.r = true ∧ goodR x.r = true) : placeP all i x d = if likeD all (setD d x.k i) = true then some { setD d x.k i with t := x.t } else none := by
  unfold placeP
  rw [if_neg (by omega), if_neg (fun h' => h' h), if_pos hk]
theorem likeD_a {all : List Ev} {d : Dd} (h : d.tk < 0) : likeD all d = true := by
  unfold likeD
  simp [h]
theorem likeD_b {all : List Ev} {d : Dd} (h : d.rp < 0) : likeD all d = true := by
  unfold likeD
  simp [h]
theorem repAt_get {all : List Ev} {a : Nat} (h : a < all.length) : repAt all (a : Int) = all[a].t.ans := by
  unfold repAt
  rw [Int.toNat_natCast, List.getElem?_map, List.getElem?_eq_getElem h]
  rfl
theorem likeD_c {all : List Ev} {d : Dd} {a b : Nat} (h1 : d.tk = (a : Int)) (h2 : d.rp = (b : Int)) (ha : a < all.length) (hb : b < all.length) : likeD all d = sameA all[a].t.ans all[b].t.ans := by
  unfold likeD
  rw [h1, h2, repAt_get ha, repAt_get hb, decide_eq_false (show ¬ (a : Int) < 0 by omega), decide_eq_false (show ¬ (b : Int) < 0 by omega)]
  rfl
theorem setD_tk {d : Dd} {k i : Int} {m : Int} (h : d.tk < m) (hi : i < m) : (setD d k i).tk < m := by
  unfold setD
  repeat' split
  all_goals first | exact h | exact hi
theorem setD_rp {d : Dd} {k i : Int} {m : Int} (h : d.rp < m) (hi : i < m) : (setD d k i).rp < m := by
  unfold setD
  repeat' split
  all_goals first | exact h | exact hi
theorem take_any {u0 u1 : World} {g : Nat} {A0 Ad : Option Addr} {N C n c : Nat} {st : Int} {all : List Ev} {ds : List Dd} (i : Nat) (x : Ev) (w : World) (hN : all.length = N) (hN4 : N ≤ 64) (hn : n ≤ 64) (hi : i < N) (hg0 : u0.heap.size ≤ g) (hg1 : g < u1.heap.size) (hs : RSt u0 u1 w g A0 N C st Ad n c ds) (ha : Evs u0 A0 all) (he : RpAt u0 x.t) (hv : ∀ d ∈ ds, InvD all i d) (hx : WfX x) :
    Calls Tryz.prog 41 #[.pointer (some ⟨g, 0, none⟩), .int .i64 (i : Int), evV x] w (TakeEnd u0 u1 g A0 N C x.st (takeP all i x st ds)) := by
  have hlen := hs.len
  unfold takeP
  by_cases h1 : st ≤ x.st
  · by_cases h2 : 0 ≤ x.op
    · by_cases h3 : x.op ≤ (n : Int) + 1
      · rw [if_neg (by rw [hlen]; omega)]
        by_cases h0 : x.op = 0
        · rw [if_pos h0]
          by_cases h5 : x.k = 5
          · by_cases h8 : x.t.e = 8
            · rw [if_pos ⟨h5, h8⟩]
              exact take_d3 i x w hN hN4 hn hi hg0 hg1 hs ha he hv hx h1 h0 h5 h8
            · rw [if_neg (fun h => h8 h.2)]
              exact take_d2 i x w hN hN4 hn hi hg0 hg1 hs ha he hv hx h1 h0 h5 h8
          · rw [if_neg (fun h => h5 h.1)]
            exact take_d1 i x w hN hN4 hn hi hg0 hg1 hs ha he hv hx h1 h0 h5
        · rw [if_neg h0]
          by_cases hnew : x.op = (n : Int) + 1
          · rw [if_pos (by rw [hlen]; exact hnew)]
            have hc : ∀ g : goodR x.r = true, timeD (freshD x) x.k < 0 ∧ (freshD x).ss = x.ss ∧ eqR (freshD x).r x.r = true ∧ goodR x.r = true := fun g => ⟨fresh_time x x.k, rfl, eqR_refl _, g⟩
            by_cases k1 : x.k = 1
            · rw [if_pos (.inl k1)]
              by_cases hgd : goodR x.r = true
              · rw [placeP_14 (.inl k1) (hc hgd)]
                exact take_e5_1 i x w hN hN4 hn hi hg0 hg1 hs ha he hv hx h1 hnew k1 hgd
              · rw [placeP_c (by omega) (fun h => hgd h.2.2.2)]
                exact take_e4_1 i x w hN hN4 hn hi hg0 hg1 hs ha he hv hx h1 hnew (.inl k1) hgd
            · by_cases k5 : x.k = 5
              · rw [if_pos (.inr k5)]
                by_cases hgd : goodR x.r = true
                · rw [placeP_5 k5 (hc hgd)]
                  exact take_e5_5 i x w hN hN4 hn hi hg0 hg1 hs ha he hv hx h1 hnew k5 hgd
                · rw [placeP_c (by omega) (fun h => hgd h.2.2.2)]
                  exact take_e4_1 i x w hN hN4 hn hi hg0 hg1 hs ha he hv hx h1 hnew (.inr k5) hgd
              · rw [if_neg (by omega)]
                exact take_e0 i x w hN hN4 hn hi hg0 hg1 hs ha he hv hx h1 hnew k1 k5
          · rw [if_neg (by rw [hlen]; exact hnew)]
            obtain ⟨j, hj⟩ : ∃ j : Nat, x.op = (j : Int) + 1 := ⟨(x.op - 1).toNat, by omega⟩
            have hjn : j < ds.length := by omega
            rw [show (x.op - 1).toNat = j by omega, show ds.getD j (freshD x) = ds[j] by rw [List.getD_eq_getElem?_getD, List.getElem?_eq_getElem hjn]; rfl]
            by_cases hk : x.k < 1 ∨ 5 < x.k
            · rw [placeP_k hk]
              exact take_f0 i x w hN hN4 hn hi hg0 hg1 hs ha he hv hx j h1 hj hjn hk
            · have hk' : 1 ≤ x.k ∧ x.k ≤ 5 := by omega
              by_cases c1 : timeD ds[j] x.k < 0
              · by_cases c2 : ds[j].ss = x.ss
                · by_cases c3 : eqR ds[j].r x.r = true
                  · by_cases c4 : goodR x.r = true
                    · have hc : timeD ds[j] x.k < 0 ∧ ds[j].ss = x.ss ∧ eqR ds[j].r x.r = true ∧ goodR x.r = true := ⟨c1, c2, c3, c4⟩
                      by_cases k1 : x.k = 1
                      · rw [placeP_14 (.inl k1) hc]
                        exact take_f5_1 i x w hN hN4 hn hi hg0 hg1 hs ha he hv hx j h1 hj hjn hk' c1 c2 c3 c4 k1
                      · by_cases k4 : x.k = 4
                        · rw [placeP_14 (.inr k4) hc]
                          exact take_f5_4 i x w hN hN4 hn hi hg0 hg1 hs ha he hv hx j h1 hj hjn hk' c1 c2 c3 c4 k4
                        · by_cases k5 : x.k = 5
                          · rw [placeP_5 k5 hc]
                            exact take_f5_5 i x w hN hN4 hn hi hg0 hg1 hs ha he hv hx j h1 hj hjn hk' c1 c2 c3 c4 k5
                          · have k23 : x.k = 2 ∨ x.k = 3 := by omega
                            rw [placeP_23 k23 hc]
                            have hiv := hv _ (List.getElem_mem hjn)
                            have htk := setD_tk (d := ds[j]) (k := x.k) (i := (i : Int)) (m := (i : Int) + 1) (by have := hiv.tk; omega) (by omega)
                            have hrp := setD_rp (d := ds[j]) (k := x.k) (i := (i : Int)) (m := (i : Int) + 1) (by have := hiv.rp; omega) (by omega)
                            by_cases l1 : (setD ds[j] x.k (i : Int)).tk < 0
                            · rw [if_pos (likeD_a l1)]
                              rcases k23 with k2 | k3
                              · exact take_f6_2 i x w hN hN4 hn hi hg0 hg1 hs ha he hv hx j h1 hj hjn hk' c1 c2 c3 c4 (.inl k2) _ _ rfl rfl l1
                              · exact take_f6_2 i x w hN hN4 hn hi hg0 hg1 hs ha he hv hx j h1 hj hjn hk' c1 c2 c3 c4 (.inr k3) _ _ rfl rfl l1
                            · by_cases l2 : (setD ds[j] x.k (i : Int)).rp < 0
                              · rw [if_pos (likeD_b l2)]
                                rcases k23 with k2 | k3
                                · exact take_f7_2 i x w hN hN4 hn hi hg0 hg1 hs ha he hv hx j h1 hj hjn hk' c1 c2 c3 c4 (.inl k2) _ _ rfl rfl l1 l2
                                · exact take_f7_2 i x w hN hN4 hn hi hg0 hg1 hs ha he hv hx j h1 hj hjn hk' c1 c2 c3 c4 (.inr k3) _ _ rfl rfl l1 l2
                              · obtain ⟨a, hta⟩ : ∃ a : Nat, (setD ds[j] x.k (i : Int)).tk = (a : Int) := ⟨(setD ds[j] x.k (i : Int)).tk.toNat, by omega⟩
                                obtain ⟨b, hrb⟩ : ∃ b : Nat, (setD ds[j] x.k (i : Int)).rp = (b : Int) := ⟨(setD ds[j] x.k (i : Int)).rp.toNat, by omega⟩
                                have ha' : a < all.length := by omega
                                have hb' : b < all.length := by omega
                                rw [likeD_c hta hrb ha' hb']
                                cases hsm : sameA all[a].t.ans all[b].t.ans
                                · rw [if_neg (by decide)]
                                  rcases k23 with k2 | k3
                                  · exact take_f9_2 i x w hN hN4 hn hi hg0 hg1 hs ha he hv hx j h1 hj hjn hk' c1 c2 c3 c4 (.inl k2) a b _ _ rfl rfl hta hrb ha' hb' hsm
                                  · exact take_f9_2 i x w hN hN4 hn hi hg0 hg1 hs ha he hv hx j h1 hj hjn hk' c1 c2 c3 c4 (.inr k3) a b _ _ rfl rfl hta hrb ha' hb' hsm
                                · rw [if_pos rfl]
                                  rcases k23 with k2 | k3
                                  · exact take_f8_2 i x w hN hN4 hn hi hg0 hg1 hs ha he hv hx j h1 hj hjn hk' c1 c2 c3 c4 (.inl k2) a b _ _ rfl rfl hta hrb ha' hb' hsm
                                  · exact take_f8_2 i x w hN hN4 hn hi hg0 hg1 hs ha he hv hx j h1 hj hjn hk' c1 c2 c3 c4 (.inr k3) a b _ _ rfl rfl hta hrb ha' hb' hsm
                    · rw [placeP_c hk' (fun h => c4 h.2.2.2)]
                      exact take_f4 i x w hN hN4 hn hi hg0 hg1 hs ha he hv hx j h1 hj hjn hk' c1 c2 c3 c4
                  · rw [placeP_c hk' (fun h => c3 h.2.2.1)]
                    exact take_f3 i x w hN hN4 hn hi hg0 hg1 hs ha he hv hx j h1 hj hjn hk' c1 c2 c3
                · rw [placeP_c hk' (fun h => c2 h.2.1)]
                  exact take_f2 i x w hN hN4 hn hi hg0 hg1 hs ha he hv hx j h1 hj hjn hk' c1 c2
              · rw [placeP_c hk' (fun h => c1 h.1)]
                exact take_f1 i x w hN hN4 hn hi hg0 hg1 hs ha he hv hx j h1 hj hjn hk' c1
      · rw [if_pos (by rw [hlen]; omega)]
        exact take_c i x w hN hN4 hn hi hg0 hg1 hs ha he hv hx h1 h2 h3
    · rw [if_pos (by omega)]
      exact take_b i x w hN hN4 hn hi hg0 hg1 hs ha he hv hx h1 h2
  · rw [if_pos (by omega)]
    exact take_a i x w hN hN4 hn hi hg0 hg1 hs ha he hv hx h1
end Go.Proofs.YtlimpepdelpogaaGreatDoor
/-! HwU -/
namespace Go.Proofs.YtlimpepdelpogaaGreatDoor
open Go.RowKit Go.Al
set_option linter.unusedVariables false
set_option maxHeartbeats 2000000
set_option maxRecDepth 100000
/-! the same as catch_bad, whatever the code -/
theorem catch_bade {K : Nat} {caps : Array Value} (eK : ∀ args w, (callFunc K args).run Tryz.prog w = .ok (.enter K args) w) {S : Nat → Prop} (Q : World → World → Prop) (w : World) (hS : ∀ k, S k → k < w.heap.size)
    (hf : ∀ w1, Same w w1 → Calls Tryz.prog K caps w1 fun e w2 => (∃ c, e = .panicked (fault 0 c)) ∧ Chg S w1 w2 ∧ Q w1 w2) :
    Calls Tryz.prog 70 #[.func (.func K) #[] caps] w fun e w' => (∃ c, e = .returned (.tuple #[.agg #[.int .i64 0, .int .i64 c], .bool true])) ∧ ∃ w1 w2, Same w w1 ∧ Chg S w1 w2 ∧ Q w1 w2 ∧ Chg (fun k => w.heap.size ≤ k ∧ k < w1.heap.size) w2 w' := by
  have HF := hide hf
  have HS := hide hS
  clear hf hS
  have hmf : ∀ (fn : Fn) (first cap : Array Value) (w : World), (Instr.makeFunc fn first cap).run Tryz.prog w = .ok (.func fn first cap) w := fun _ _ _ _ => rfl
  go_enter_defers Tryz.func70, Tryz.ntmps70
  go_wp2_with fail
  have hs1 : Same w ((w.alloc (.cells #[.int .i64 0, .int .i64 0] 110)).alloc (.cells #[.bool false] 4)) := ((Chg.refl _ w).alloc _).alloc _
  have hb1 := (Blk.new w 110 #[.int .i64 0, .int .i64 0]).alloc (.cells #[.bool false] 4)
  have hb2 := Blk.new (w.alloc (.cells #[.int .i64 0, .int .i64 0] 110)) 4 #[.bool false]
  have hz : ((w.alloc (.cells #[.int .i64 0, .int .i64 0] 110)).alloc (.cells #[.bool false] 4)).heap.size = w.heap.size + 2 := by simp
  simp only [World.size_alloc] at hb2
  have Hs1 := hide hs1
  have Hb1 := hide hb1
  have Hb2 := hide hb2
  have Hz := hide hz
  clear hs1 hb1 hb2 hz
  refine (HF.out _ Hs1.out).mono ?_
  rintro e w2 ⟨⟨c, rfl⟩, hc, hq⟩
  have Hc := hide hc
  have Hq := hide hq
  have HB1 := hide (Hb1.out.chg hc fun h => by have := HS.out _ h; omega)
  have HB2 := hide (Hb2.out.chg hc fun h => by have := HS.out _ h; omega)
  clear hc hq
  go_wp2_with fail
  refine leaves_cons (f := 95) (args := #[.pointer (some ⟨w.heap.size, 0, none⟩), .pointer (some ⟨w.heap.size + 1, 0, none⟩)]) (by simp) (by simp [go_sem]) ?_
  refine (catch1_bad 0 c _ _ _ HB1.out HB2.out (by omega)).mono ?_
  rintro e u w3 ⟨rfl, rfl, h1, h2, h3⟩
  have hd := h2.cell 0
  simp at hd
  refine ⟨_, results_cc rfl rfl h1 Tryz.underlying110 rfl (by kernel_rfl) rfl (v2 := .bool true) (by simp [go_sem, hd]), ⟨c, rfl⟩, _, w2, Hs1.out, Hc.out, Hq.out, h3.mono fun k _ hk => ?_⟩
  have := Hz.out
  omega
theorem Catch_ok {K : Nat} {caps : Array Value} (eK : ∀ args w, (callFunc K args).run Tryz.prog w = .ok (.enter K args) w) {S : Nat → Prop} (Q : World → World → Prop) (w : World) (hS : ∀ k, S k → k < w.heap.size)
    (hf : ∀ w1, Same w w1 → Calls Tryz.prog K caps w1 fun e w2 => e = .returned (.tuple #[]) ∧ Chg S w1 w2 ∧ Q w1 w2) :
    Calls Tryz.prog 39 #[.func (.func K) #[] caps] w fun e w' => e = .returned (.tuple #[.agg #[.int .i64 0, .int .i64 0], .bool false]) ∧ ∃ w1 w2, Same w w1 ∧ Chg S w1 w2 ∧ Q w1 w2 ∧ Chg (fun k => w.heap.size ≤ k ∧ k < w1.heap.size) w2 w' := by
  have hs1 : Same w (w.alloc (.cells #[.int .i64 0, .int .i64 0] 110)) := (Chg.refl _ w).alloc _
  have HF := hide (catch_ok eK Q (w.alloc (.cells #[.int .i64 0, .int .i64 0] 110)) (S := S) (caps := caps) (fun k h => Nat.lt_of_lt_of_le (hS k h) hs1.size) (fun w1 h => hf w1 (Same.trans hs1 h)))
  have hb1 := Blk.new w 110 #[.int .i64 0, .int .i64 0]
  have hz : (w.alloc (.cells #[.int .i64 0, .int .i64 0] 110)).heap.size = w.heap.size + 1 := by simp
  have Hb1 := hide hb1
  have Hs1 := hide hs1
  have Hz := hide hz
  have HS := hide hS
  clear hf hS hb1 hs1 hz
  go_enter Tryz.func39, Tryz.ntmps39
  go_wp2_with fail
  go_at_call 70
  (with_reducible refine HF.out.mono ?_)
  rintro e w' ⟨rfl, w1, w2, h1, h2, h3, h4⟩
  have hcc : Chg (fun k => S k ∨ w.heap.size + 1 ≤ k) (w.alloc (.cells #[.int .i64 0, .int .i64 0] 110)) w' := (h1.to.trans h2 (S := fun k => S k ∨ w.heap.size + 1 ≤ k) fun _ _ e => .inl e).trans h4 fun k _ e => .inr (by have := Hz.out; omega)
  have Hb2 := hide (Hb1.out.chg hcc (fun e => by rcases e with e | e; exact absurd (HS.out _ e) (by omega); omega))
  have Hw4 : Hid (Chg (fun k => w.heap.size ≤ k ∧ k < w1.heap.size) w2 w') := hide (h4.mono fun k _ e => by have := Hz.out; omega)
  have Hw1 := hide (show w.heap.size < w1.heap.size by have := h1.size; have := Hz.out; omega)
  have H1 := hide (Same.trans Hs1.out h1)
  have H2 := hide h2
  have H3 := hide h3
  have hkb := Hb2.out.cell
  have hkf := Hb2.out.frozen
  clear h1 h2 h3 h4 hcc
  go_wp2_with fail
  have hb3 := (Hb2.out.set_ 0 (.int .i64 0)).set_ 1 (.int .i64 0)
  exact bodyPost_ret (results_cell2 rfl rfl hb3 Tryz.underlying110 rfl (by kernel_rfl)) rfl ⟨rfl, w1, w2, H1.out, H2.out, H3.out, (Hw4.out.setCell (p := ⟨w.heap.size, 0, none⟩) (.inl ⟨Nat.le_refl _, Hw1.out⟩) _).setCell (p := ⟨w.heap.size, 1, none⟩) (.inl ⟨Nat.le_refl _, Hw1.out⟩) _⟩
theorem Catch_bad {K : Nat} {caps : Array Value} (eK : ∀ args w, (callFunc K args).run Tryz.prog w = .ok (.enter K args) w) {S : Nat → Prop} (Q : World → World → Prop) (w : World) (hS : ∀ k, S k → k < w.heap.size)
    (hf : ∀ w1, Same w w1 → Calls Tryz.prog K caps w1 fun e w2 => (∃ c, e = .panicked (fault 0 c)) ∧ Chg S w1 w2 ∧ Q w1 w2) :
    Calls Tryz.prog 39 #[.func (.func K) #[] caps] w fun e w' => (∃ c, e = .returned (.tuple #[.agg #[.int .i64 0, .int .i64 c], .bool true])) ∧ ∃ w1 w2, Same w w1 ∧ Chg S w1 w2 ∧ Q w1 w2 ∧ Chg (fun k => w.heap.size ≤ k ∧ k < w1.heap.size) w2 w' := by
  have hs1 : Same w (w.alloc (.cells #[.int .i64 0, .int .i64 0] 110)) := (Chg.refl _ w).alloc _
  have HF := hide (catch_bade eK Q (w.alloc (.cells #[.int .i64 0, .int .i64 0] 110)) (S := S) (caps := caps) (fun k h => Nat.lt_of_lt_of_le (hS k h) hs1.size) (fun w1 h => hf w1 (Same.trans hs1 h)))
  have hb1 := Blk.new w 110 #[.int .i64 0, .int .i64 0]
  have hz : (w.alloc (.cells #[.int .i64 0, .int .i64 0] 110)).heap.size = w.heap.size + 1 := by simp
  have Hb1 := hide hb1
  have Hs1 := hide hs1
  have Hz := hide hz
  have HS := hide hS
  clear hf hS hb1 hs1 hz
  go_enter Tryz.func39, Tryz.ntmps39
  go_wp2_with fail
  go_at_call 70
  (with_reducible refine HF.out.mono ?_)
  rintro e w' ⟨⟨c, rfl⟩, w1, w2, h1, h2, h3, h4⟩
  have hcc : Chg (fun k => S k ∨ w.heap.size + 1 ≤ k) (w.alloc (.cells #[.int .i64 0, .int .i64 0] 110)) w' := (h1.to.trans h2 (S := fun k => S k ∨ w.heap.size + 1 ≤ k) fun _ _ e => .inl e).trans h4 fun k _ e => .inr (by have := Hz.out; omega)
  have Hb2 := hide (Hb1.out.chg hcc (fun e => by rcases e with e | e; exact absurd (HS.out _ e) (by omega); omega))
  have Hw4 : Hid (Chg (fun k => w.heap.size ≤ k ∧ k < w1.heap.size) w2 w') := hide (h4.mono fun k _ e => by have := Hz.out; omega)
  have Hw1 := hide (show w.heap.size < w1.heap.size by have := h1.size; have := Hz.out; omega)
  have H1 := hide (Same.trans Hs1.out h1)
  have H2 := hide h2
  have H3 := hide h3
  have hkb := Hb2.out.cell
  have hkf := Hb2.out.frozen
  clear h1 h2 h3 h4 hcc
  go_wp2_with fail
  have hb3 := (Hb2.out.set_ 0 (.int .i64 0)).set_ 1 (.int .i64 c)
  exact bodyPost_ret (results_cell2 rfl rfl hb3 Tryz.underlying110 rfl (by kernel_rfl)) rfl ⟨⟨c, rfl⟩, w1, w2, H1.out, H2.out, H3.out, (Hw4.out.setCell (p := ⟨w.heap.size, 0, none⟩) (.inl ⟨Nat.le_refl _, Hw1.out⟩) _).setCell (p := ⟨w.heap.size, 1, none⟩) (.inl ⟨Nat.le_refl _, Hw1.out⟩) _⟩
end Go.Proofs.YtlimpepdelpogaaGreatDoor
/-! HwV -/
namespace Go.Proofs.YtlimpepdelpogaaGreatDoor
open Go.RowKit Go.Al
set_option linter.unusedVariables false
set_option maxHeartbeats 8000000
set_option maxRecDepth 100000
theorem goP_step {all : List Ev} {i : Nat} {st : Int} {ds : List Dd} (h : i < all.length) : goP all i st ds (all.drop i) = match takeP all i all[i] st ds with | none => none | some ds' => goP all (i + 1) all[i].st ds' (all.drop (i + 1)) := by
  rw [List.drop_eq_getElem_cons h]
  rfl
theorem goP_end {all : List Ev} {i : Nat} {st : Int} {ds : List Dd} (h : all.length ≤ i) : goP all i st ds (all.drop i) = some ds := by
  rw [List.drop_eq_nil_of_le h]
  rfl
/-- how the events begin -/
def st0 (all : List Ev) (i : Nat) (st : Int) : Int := if i = 0 then (all.map (·.st)).headD 0 else st
theorem st0_zero {all : List Ev} (h : 0 < all.length) (st : Int) : st0 all 0 st = all[0].st := by
  unfold st0
  rw [if_pos rfl]
  cases all with
  | nil => simp at h
  | cons x r => rfl
theorem st0_pos {all : List Ev} {i : Nat} (h : i ≠ 0) (st : Int) : st0 all i st = st := if_neg h
theorem take_len {all : List Ev} {i : Nat} {x : Ev} {st : Int} {ds ds' : List Dd} (h : takeP all i x st ds = some ds') : ds'.length ≤ ds.length + 1 := by
  unfold takeP at h
  split at h
  · cases h
  · split at h
    · split at h
      · cases h; omega
      · cases h
    · split at h
      · split at h
        · rw [Option.map_eq_some_iff] at h
          obtain ⟨d, _, rfl⟩ := h
          simp
        · cases h
      · rw [Option.map_eq_some_iff] at h
        obtain ⟨d, _, rfl⟩ := h
        simp
theorem wrapN {i : Nat} (h : i ≤ 64) : wrap64 ((i : Int) + 1) = ((i + 1 : Nat) : Int) := by
  unfold wrap64
  omega
theorem ev_set {w : World} {A : Option Addr} {l : List Ev} (h : Evs w A l) {i : Nat} (hi : i < l.length) : RpAt w l[i].t := h.rep _ (List.getElem_mem hi)
theorem deeds1_ok {u0 u1 : World} {bl br g : Nat} {A0 : Option Addr} {N C : Nat} {all : List Ev} {dsf : List Dd} (hN : all.length = N) (hN4 : N ≤ 64) (hg0 : u0.heap.size ≤ g) (hg1 : g < u1.heap.size) (hl : Blk u1 bl 22 #[.slice A0 N C]) (hr : Blk u1 br 106 #[.pointer (some ⟨g, 0, none⟩)])
    (hs : RSt u0 u1 u1 g A0 N C 0 none 0 0 []) (ha : Evs u0 A0 all) (hx : ∀ x ∈ all, WfX x) (hG : goP all 0 (st0 all 0 0) [] all = some dsf) :
    Calls Tryz.prog 40 #[.pointer (some ⟨bl, 0, none⟩), .pointer (some ⟨br, 0, none⟩)] u1 (fun e w' => e = .returned (.tuple #[]) ∧ ∃ st Ad n c, RSt u0 u1 w' g A0 N C st Ad n c dsf) := by
  have hbl : ¬ bl = g := fun e => by have h1 := hl.ty; rw [e, hs.blk.ty] at h1; exact absurd h1 (by decide)
  have hbr : ¬ br = g := fun e => by have h1 := hr.ty; rw [e, hs.blk.ty] at h1; exact absurd h1 (by decide)
  have Hl := hide (fun (w' : World) (h : Chg (· = g) u1 w') => (hl.chg h hbl).cell 0)
  have Hr := hide (fun (w' : World) (h : Chg (· = g) u1 w') => (hr.chg h hbr).cell 0)
  have HN := hide hN
  have HN4 := hide hN4
  have Hg0 := hide hg0
  have Hg1 := hide hg1
  have Ha := hide ha
  have Hx := hide hx
  have HG := hide hG
  have Hs := hide hs
  have hk0 := Hl.out u1 (Chg.refl _ _)
  clear hbl hbr hl hr hN hN4 hg0 hg1 ha hx hG hs
  go_enter Tryz.func40, Tryz.ntmps40
  go_wp2_with fail
  go_loopg [2, 3, 6] N (fun kk v2 v3 vi wr => ∃ (i : Nat) (st : Int) (Ad : Option Addr) (n c : Nat) (ds : List Dd), i ≤ N ∧ kk = N - i ∧ vi = .int .i64 i ∧ n ≤ i ∧ RSt u0 u1 wr g A0 N C st Ad n c ds ∧ goP all i (st0 all i st) ds (all.drop i) = some dsf ∧ ∀ d ∈ ds, InvD all i d)
  case atStart => exact ⟨0, 0, none, 0, 0, [], Nat.zero_le _, rfl, rfl, Nat.le_refl _, Hs.out, HG.out, fun d hd => by cases hd⟩
  case round =>
    obtain ⟨i, st, Ad, n, c, ds, hi, hk, rfl, hni, hst, hgo, hinv⟩ := hrel
    have Hk := hide hk
    have Hst := hide hst
    have Hni := hide hni
    have Hgo := hide hgo
    have Hinv := hide hinv
    clear hk hst hgo hinv
    by_cases hlt : i < N
    · have hil : i < all.length := by rw [HN.out]; exact hlt
      obtain ⟨b, off, rfl, hbl, hra, hrp⟩ := (Ha.out.same Hst.out.same).at_ hil
      have Hra := hide hra
      obtain ⟨x, hxx⟩ : ∃ x, all[i] = x := ⟨_, rfl⟩
      have Hxx := hide hxx
      rw [hxx] at Hra
      have HLc := hide (RowL.mk (evL_length x) (one_evL x))
      have c1 : (evL x)[1]? = some (.int .i64 x.st) := rfl
      have hb1 := Blk.new wr 45 (evL x).toArray
      have Hb1 := hide hb1
      have hgw : g < wr.heap.size := Hst.out.blk.lt
      have hgne : ¬ g = wr.heap.size := by omega
      have hgne' : ¬ wr.heap.size = g := by omega
      have hbrc := Hr.out wr Hst.out.frm
      have hiI : (i : Int) < (N : Int) := by omega
      clear hra hrp hxx hb1
      have hstep := Hgo.out
      rw [goP_step hil, Hxx.out] at hstep
      obtain ⟨xs, hxs⟩ : ∃ v, x.st = v := ⟨_, rfl⟩
      have HTk := hide (fun (w' : World) (st' : Int) (Ad' : Option Addr) (n' c' : Nat) (h : RSt u0 u1 w' g (some ⟨b, off, none⟩) N C st' Ad' n' c' ds) (hn : n' ≤ 64) => take_any i x w' HN.out HN4.out hn hlt Hg0.out Hg1.out h Ha.out (by have := ev_set Ha.out hil; rw [Hxx.out] at this; exact this) Hinv.out (Hx.out x (by rw [← Hxx.out]; exact List.getElem_mem hil)))
      have HLb := hide (fun (w' : World) (h : Blk w' wr.heap.size 45 (evL x).toArray) => blk_range h)
      have Hxs := hide hxs
      rw [hxs] at c1
      unfold evV at HTk
      clear hxs
      generalize evL x = L at *
      by_cases hz : i = 0
      · rw [show st0 all i st = x.st by subst hz; rw [st0_zero hil, Hxx.out]] at hstep
        cases htk : takeP all i x x.st ds with
        | none => rw [htk] at hstep; cases hstep
        | some ds4 =>
          rw [htk] at hstep
          have Hnx := hide hstep
          have Htk := hide htk
          clear hstep htk
          have HTk2 : Hid (∀ (w' : World) (st' : Int) (Ad' : Option Addr) (n' c' : Nat), RSt u0 u1 w' g (some ⟨b, off, none⟩) N C x.st Ad' n' c' ds → n' ≤ 64 → Calls Tryz.prog 41 #[.pointer (some ⟨g, 0, none⟩), .int .i64 (i : Int), .agg L.toArray] w' (TakeOk u0 u1 g (some ⟨b, off, none⟩) N C x.st ds4)) := hide fun w' st' Ad' n' c' h hn => by have h5 := HTk.out w' x.st Ad' n' c' h hn; rw [Htk.out] at h5; exact h5
          clear HTk
          subst hz
          have Hra0 : Hid (wr.rangeAt b off L) := hide (by have := Hra.out; rw [Nat.zero_mul, Nat.add_zero] at this; exact this)
          go_wp2_with (first
            | ((with_reducible refine ldR 45 b off 27 L rowEvt HLc.out.len Hra0.out ?_ ?_ ?_); rfl; rfl)
            | ((with_reducible refine stNg 45 27 L 45 _ rowEvt HLc.out.len ?_ HLc.out.one ?_ ?_ ?_); rfl; rfl; rfl; intro w3 hs3 hz3 hb3; have Hs3 := hide hs3; have Hb3 := hide hb3; have hkb3 := hb3.cell; have hkr3 := (Hst.out.blk.same hs3).cell; have hkf3 := (Hst.out.blk.same hs3).frozen; have hbr3 := Hr.out w3 (Hst.out.frm.same hs3); have HR2 := hide (HLb.out _ (hb3.far (p := ⟨g, 2, none⟩) hgne' (.int .i64 xs))); clear hs3 hz3)
            | ((with_reducible refine ldR 45 wr.heap.size 0 27 L rowEvt HLc.out.len HR2.out ?_ ?_ ?_); rfl; rfl)
            | fail)
          go_at_call 41
          have hR : RSt u0 u1 (w3.setCell ⟨g, 2, none⟩ (.int .i64 xs)) g (some ⟨b, off, none⟩) N C x.st Ad n c ds := (Hst.out.same2 Hs3.out).move Hg0.out Hg1.out ((Chg.refl _ w3).set1 _ _) (by have := (Hst.out.blk.same Hs3.out).set_ 2 (.int .i64 xs); rw [Hxs.out]; simpa using this)
          refine (HTk2.out _ x.st _ _ _ hR (by have := HN4.out; omega)).mono ?_
          rintro e w4 ⟨rfl, Ad4, n4, c4, hst4⟩
          have Hst4 := hide hst4
          clear hst4
          go_wp2_with fail
          go_roundg (N - (0 + 1))
          case measure => have := Hk.out; omega
          case rel =>
            have h4 := take_len Htk.out
            have hni4 := Hni.out
            have hN44 := HN4.out
            rw [Hst4.out.len, Hst.out.len] at h4
            exact ⟨0 + 1, x.st, Ad4, n4, c4, ds4, (by omega), rfl, (by first | go_num | exact congrArg (Value.int .i64) (wrapN (by omega))), (by omega), Hst4.out, (by rw [st0_pos (Nat.succ_ne_zero _)]; exact Hnx.out), take_inv Hinv.out Htk.out⟩
      · rw [st0_pos hz] at hstep
        cases htk : takeP all i x st ds with
        | none => rw [htk] at hstep; cases hstep
        | some ds4 =>
          rw [htk] at hstep
          have Hnx := hide hstep
          have Htk := hide htk
          clear hstep htk
          have HTk2 : Hid (∀ (w' : World) (st' : Int) (Ad' : Option Addr) (n' c' : Nat), RSt u0 u1 w' g (some ⟨b, off, none⟩) N C st Ad' n' c' ds → n' ≤ 64 → Calls Tryz.prog 41 #[.pointer (some ⟨g, 0, none⟩), .int .i64 (i : Int), .agg L.toArray] w' (TakeOk u0 u1 g (some ⟨b, off, none⟩) N C x.st ds4)) := hide fun w' st' Ad' n' c' h hn => by have h5 := HTk.out w' st Ad' n' c' h hn; rw [Htk.out] at h5; exact h5
          clear HTk
          have hz1 : ((i : Int) == 0) = false := by simp; omega
          have hz2 : ¬ (i : Int) = 0 := by omega
          go_wp2_with (first
            | ((with_reducible refine ldR 45 b (off + i * 27) 27 L rowEvt HLc.out.len Hra.out ?_ ?_ ?_); rfl; rfl)
            | ((with_reducible refine stNg 45 27 L 45 _ rowEvt HLc.out.len ?_ HLc.out.one ?_ ?_ ?_); rfl; rfl; rfl; intro w3 hs3 hz3 hb3; have Hs3 := hide hs3; have Hb3 := hide hb3; have hkb3 := hb3.cell; have hkr3 := (Hst.out.blk.same hs3).cell; have hkf3 := (Hst.out.blk.same hs3).frozen; have hbr3 := Hr.out w3 (Hst.out.frm.same hs3); have HR2 := hide (HLb.out _ hb3); clear hs3 hz3)
            | ((with_reducible refine ldR 45 wr.heap.size 0 27 L rowEvt HLc.out.len HR2.out ?_ ?_ ?_); rfl; rfl)
            | fail)
          go_at_call 41
          refine (HTk2.out _ st _ _ _ (Hst.out.same2 Hs3.out) (by have := HN4.out; omega)).mono ?_
          rintro e w4 ⟨rfl, Ad4, n4, c4, hst4⟩
          have Hst4 := hide hst4
          clear hst4
          go_wp2_with fail
          go_roundg (N - (i + 1))
          case measure => have := Hk.out; omega
          case rel =>
            have h4 := take_len Htk.out
            have hni4 := Hni.out
            have hN44 := HN4.out
            rw [Hst4.out.len, Hst.out.len] at h4
            exact ⟨i + 1, x.st, Ad4, n4, c4, ds4, (by omega), rfl, (by first | go_num | exact congrArg (Value.int .i64) (wrapN (by omega))), (by omega), Hst4.out, (by rw [st0_pos (Nat.succ_ne_zero _)]; exact Hnx.out), take_inv Hinv.out Htk.out⟩
    · have hie : i = N := by omega
      subst hie
      go_wp2_with fail
      go_end0
      have hfin := Hgo.out
      rw [goP_end (by rw [HN.out]; exact Nat.le_refl _)] at hfin
      cases hfin
      exact ⟨rfl, _, _, _, _, Hst.out⟩
theorem deeds1_bad {u0 u1 : World} {bl br g : Nat} {A0 : Option Addr} {N C : Nat} {all : List Ev} (hN : all.length = N) (hN4 : N ≤ 64) (hg0 : u0.heap.size ≤ g) (hg1 : g < u1.heap.size) (hl : Blk u1 bl 22 #[.slice A0 N C]) (hr : Blk u1 br 106 #[.pointer (some ⟨g, 0, none⟩)])
    (hs : RSt u0 u1 u1 g A0 N C 0 none 0 0 []) (ha : Evs u0 A0 all) (hx : ∀ x ∈ all, WfX x) (hG : goP all 0 (st0 all 0 0) [] all = none) :
    Calls Tryz.prog 40 #[.pointer (some ⟨bl, 0, none⟩), .pointer (some ⟨br, 0, none⟩)] u1 (fun e w' => (∃ c, e = .panicked (fault 0 c)) ∧ Same u0 w' ∧ Chg (· = g) u1 w') := by
  have hbl : ¬ bl = g := fun e => by have h1 := hl.ty; rw [e, hs.blk.ty] at h1; exact absurd h1 (by decide)
  have hbr : ¬ br = g := fun e => by have h1 := hr.ty; rw [e, hs.blk.ty] at h1; exact absurd h1 (by decide)
  have Hl := hide (fun (w' : World) (h : Chg (· = g) u1 w') => (hl.chg h hbl).cell 0)
  have Hr := hide (fun (w' : World) (h : Chg (· = g) u1 w') => (hr.chg h hbr).cell 0)
  have HN := hide hN
  have HN4 := hide hN4
  have Hg0 := hide hg0
  have Hg1 := hide hg1
  have Ha := hide ha
  have Hx := hide hx
  have HG := hide hG
  have Hs := hide hs
  have hk0 := Hl.out u1 (Chg.refl _ _)
  clear hbl hbr hl hr hN hN4 hg0 hg1 ha hx hG hs
  go_enter Tryz.func40, Tryz.ntmps40
  go_wp2_with fail
  go_loopg [2, 3, 6] N (fun kk v2 v3 vi wr => ∃ (i : Nat) (st : Int) (Ad : Option Addr) (n c : Nat) (ds : List Dd), i ≤ N ∧ kk = N - i ∧ vi = .int .i64 i ∧ n ≤ i ∧ RSt u0 u1 wr g A0 N C st Ad n c ds ∧ goP all i (st0 all i st) ds (all.drop i) = none ∧ ∀ d ∈ ds, InvD all i d)
  case atStart => exact ⟨0, 0, none, 0, 0, [], Nat.zero_le _, rfl, rfl, Nat.le_refl _, Hs.out, HG.out, fun d hd => by cases hd⟩
  case round =>
    obtain ⟨i, st, Ad, n, c, ds, hi, hk, rfl, hni, hst, hgo, hinv⟩ := hrel
    have Hk := hide hk
    have Hst := hide hst
    have Hni := hide hni
    have Hgo := hide hgo
    have Hinv := hide hinv
    clear hk hst hgo hinv
    by_cases hlt : i < N
    · have hil : i < all.length := by rw [HN.out]; exact hlt
      obtain ⟨b, off, rfl, hbl, hra, hrp⟩ := (Ha.out.same Hst.out.same).at_ hil
      have Hra := hide hra
      obtain ⟨x, hxx⟩ : ∃ x, all[i] = x := ⟨_, rfl⟩
      have Hxx := hide hxx
      rw [hxx] at Hra
      have HLc := hide (RowL.mk (evL_length x) (one_evL x))
      have c1 : (evL x)[1]? = some (.int .i64 x.st) := rfl
      have hb1 := Blk.new wr 45 (evL x).toArray
      have Hb1 := hide hb1
      have hgw : g < wr.heap.size := Hst.out.blk.lt
      have hgne : ¬ g = wr.heap.size := by omega
      have hgne' : ¬ wr.heap.size = g := by omega
      have hbrc := Hr.out wr Hst.out.frm
      have hiI : (i : Int) < (N : Int) := by omega
      clear hra hrp hxx hb1
      have hstep := Hgo.out
      rw [goP_step hil, Hxx.out] at hstep
      obtain ⟨xs, hxs⟩ : ∃ v, x.st = v := ⟨_, rfl⟩
      have HTk := hide (fun (w' : World) (st' : Int) (Ad' : Option Addr) (n' c' : Nat) (h : RSt u0 u1 w' g (some ⟨b, off, none⟩) N C st' Ad' n' c' ds) (hn : n' ≤ 64) => take_any i x w' HN.out HN4.out hn hlt Hg0.out Hg1.out h Ha.out (by have := ev_set Ha.out hil; rw [Hxx.out] at this; exact this) Hinv.out (Hx.out x (by rw [← Hxx.out]; exact List.getElem_mem hil)))
      have HLb := hide (fun (w' : World) (h : Blk w' wr.heap.size 45 (evL x).toArray) => blk_range h)
      have Hxs := hide hxs
      rw [hxs] at c1
      unfold evV at HTk
      clear hxs
      generalize evL x = L at *
      by_cases hz : i = 0
      · rw [show st0 all i st = x.st by subst hz; rw [st0_zero hil, Hxx.out]] at hstep
        cases htk : takeP all i x x.st ds with
        | none =>
          have Htk := hide htk
          clear hstep htk
          have HTk2 : Hid (∀ (w' : World) (st' : Int) (Ad' : Option Addr) (n' c' : Nat), RSt u0 u1 w' g (some ⟨b, off, none⟩) N C x.st Ad' n' c' ds → n' ≤ 64 → Calls Tryz.prog 41 #[.pointer (some ⟨g, 0, none⟩), .int .i64 (i : Int), .agg L.toArray] w' (TakeBad u0 u1 g)) := hide fun w' st' Ad' n' c' h hn => by have h5 := HTk.out w' x.st Ad' n' c' h hn; rw [Htk.out] at h5; exact h5
          clear HTk
          subst hz
          have Hra0 : Hid (wr.rangeAt b off L) := hide (by have := Hra.out; rw [Nat.zero_mul, Nat.add_zero] at this; exact this)
          go_wp2_with (first
            | ((with_reducible refine ldR 45 b off 27 L rowEvt HLc.out.len Hra0.out ?_ ?_ ?_); rfl; rfl)
            | ((with_reducible refine stNg 45 27 L 45 _ rowEvt HLc.out.len ?_ HLc.out.one ?_ ?_ ?_); rfl; rfl; rfl; intro w3 hs3 hz3 hb3; have Hs3 := hide hs3; have Hb3 := hide hb3; have hkb3 := hb3.cell; have hkr3 := (Hst.out.blk.same hs3).cell; have hkf3 := (Hst.out.blk.same hs3).frozen; have hbr3 := Hr.out w3 (Hst.out.frm.same hs3); have HR2 := hide (HLb.out _ (hb3.far (p := ⟨g, 2, none⟩) hgne' (.int .i64 xs))); clear hs3 hz3)
            | ((with_reducible refine ldR 45 wr.heap.size 0 27 L rowEvt HLc.out.len HR2.out ?_ ?_ ?_); rfl; rfl)
            | fail)
          go_at_call 41
          have hR : RSt u0 u1 (w3.setCell ⟨g, 2, none⟩ (.int .i64 xs)) g (some ⟨b, off, none⟩) N C x.st Ad n c ds := (Hst.out.same2 Hs3.out).move Hg0.out Hg1.out ((Chg.refl _ w3).set1 _ _) (by have := (Hst.out.blk.same Hs3.out).set_ 2 (.int .i64 xs); rw [Hxs.out]; simpa using this)
          refine (HTk2.out _ x.st _ _ _ hR (by have := HN4.out; omega)).mono ?_
          rintro e w4 ⟨⟨cc, rfl⟩, h1, h2⟩
          exact ⟨rfl, ⟨cc, rfl⟩, h1, h2⟩
        | some ds4 =>
          rw [htk] at hstep
          have Hnx := hide hstep
          have Htk := hide htk
          clear hstep htk
          have HTk2 : Hid (∀ (w' : World) (st' : Int) (Ad' : Option Addr) (n' c' : Nat), RSt u0 u1 w' g (some ⟨b, off, none⟩) N C x.st Ad' n' c' ds → n' ≤ 64 → Calls Tryz.prog 41 #[.pointer (some ⟨g, 0, none⟩), .int .i64 (i : Int), .agg L.toArray] w' (TakeOk u0 u1 g (some ⟨b, off, none⟩) N C x.st ds4)) := hide fun w' st' Ad' n' c' h hn => by have h5 := HTk.out w' x.st Ad' n' c' h hn; rw [Htk.out] at h5; exact h5
          clear HTk
          subst hz
          have Hra0 : Hid (wr.rangeAt b off L) := hide (by have := Hra.out; rw [Nat.zero_mul, Nat.add_zero] at this; exact this)
          go_wp2_with (first
            | ((with_reducible refine ldR 45 b off 27 L rowEvt HLc.out.len Hra0.out ?_ ?_ ?_); rfl; rfl)
            | ((with_reducible refine stNg 45 27 L 45 _ rowEvt HLc.out.len ?_ HLc.out.one ?_ ?_ ?_); rfl; rfl; rfl; intro w3 hs3 hz3 hb3; have Hs3 := hide hs3; have Hb3 := hide hb3; have hkb3 := hb3.cell; have hkr3 := (Hst.out.blk.same hs3).cell; have hkf3 := (Hst.out.blk.same hs3).frozen; have hbr3 := Hr.out w3 (Hst.out.frm.same hs3); have HR2 := hide (HLb.out _ (hb3.far (p := ⟨g, 2, none⟩) hgne' (.int .i64 xs))); clear hs3 hz3)
            | ((with_reducible refine ldR 45 wr.heap.size 0 27 L rowEvt HLc.out.len HR2.out ?_ ?_ ?_); rfl; rfl)
            | fail)
          go_at_call 41
          have hR : RSt u0 u1 (w3.setCell ⟨g, 2, none⟩ (.int .i64 xs)) g (some ⟨b, off, none⟩) N C x.st Ad n c ds := (Hst.out.same2 Hs3.out).move Hg0.out Hg1.out ((Chg.refl _ w3).set1 _ _) (by have := (Hst.out.blk.same Hs3.out).set_ 2 (.int .i64 xs); rw [Hxs.out]; simpa using this)
          refine (HTk2.out _ x.st _ _ _ hR (by have := HN4.out; omega)).mono ?_
          rintro e w4 ⟨rfl, Ad4, n4, c4, hst4⟩
          have Hst4 := hide hst4
          clear hst4
          go_wp2_with fail
          go_roundg (N - (0 + 1))
          case measure => have := Hk.out; omega
          case rel =>
            have h4 := take_len Htk.out
            have hni4 := Hni.out
            have hN44 := HN4.out
            rw [Hst4.out.len, Hst.out.len] at h4
            exact ⟨0 + 1, x.st, Ad4, n4, c4, ds4, (by omega), rfl, (by first | go_num | exact congrArg (Value.int .i64) (wrapN (by omega))), (by omega), Hst4.out, (by rw [st0_pos (Nat.succ_ne_zero _)]; exact Hnx.out), take_inv Hinv.out Htk.out⟩
      · rw [st0_pos hz] at hstep
        cases htk : takeP all i x st ds with
        | none =>
          have Htk := hide htk
          clear hstep htk
          have HTk2 : Hid (∀ (w' : World) (st' : Int) (Ad' : Option Addr) (n' c' : Nat), RSt u0 u1 w' g (some ⟨b, off, none⟩) N C st Ad' n' c' ds → n' ≤ 64 → Calls Tryz.prog 41 #[.pointer (some ⟨g, 0, none⟩), .int .i64 (i : Int), .agg L.toArray] w' (TakeBad u0 u1 g)) := hide fun w' st' Ad' n' c' h hn => by have h5 := HTk.out w' st Ad' n' c' h hn; rw [Htk.out] at h5; exact h5
          clear HTk
          have hz1 : ((i : Int) == 0) = false := by simp; omega
          have hz2 : ¬ (i : Int) = 0 := by omega
          go_wp2_with (first
            | ((with_reducible refine ldR 45 b (off + i * 27) 27 L rowEvt HLc.out.len Hra.out ?_ ?_ ?_); rfl; rfl)
            | ((with_reducible refine stNg 45 27 L 45 _ rowEvt HLc.out.len ?_ HLc.out.one ?_ ?_ ?_); rfl; rfl; rfl; intro w3 hs3 hz3 hb3; have Hs3 := hide hs3; have Hb3 := hide hb3; have hkb3 := hb3.cell; have hkr3 := (Hst.out.blk.same hs3).cell; have hkf3 := (Hst.out.blk.same hs3).frozen; have hbr3 := Hr.out w3 (Hst.out.frm.same hs3); have HR2 := hide (HLb.out _ hb3); clear hs3 hz3)
            | ((with_reducible refine ldR 45 wr.heap.size 0 27 L rowEvt HLc.out.len HR2.out ?_ ?_ ?_); rfl; rfl)
            | fail)
          go_at_call 41
          refine (HTk2.out _ st _ _ _ (Hst.out.same2 Hs3.out) (by have := HN4.out; omega)).mono ?_
          rintro e w4 ⟨⟨cc, rfl⟩, h1, h2⟩
          exact ⟨rfl, ⟨cc, rfl⟩, h1, h2⟩
        | some ds4 =>
          rw [htk] at hstep
          have Hnx := hide hstep
          have Htk := hide htk
          clear hstep htk
          have HTk2 : Hid (∀ (w' : World) (st' : Int) (Ad' : Option Addr) (n' c' : Nat), RSt u0 u1 w' g (some ⟨b, off, none⟩) N C st Ad' n' c' ds → n' ≤ 64 → Calls Tryz.prog 41 #[.pointer (some ⟨g, 0, none⟩), .int .i64 (i : Int), .agg L.toArray] w' (TakeOk u0 u1 g (some ⟨b, off, none⟩) N C x.st ds4)) := hide fun w' st' Ad' n' c' h hn => by have h5 := HTk.out w' st Ad' n' c' h hn; rw [Htk.out] at h5; exact h5
          clear HTk
          have hz1 : ((i : Int) == 0) = false := by simp; omega
          have hz2 : ¬ (i : Int) = 0 := by omega
          go_wp2_with (first
            | ((with_reducible refine ldR 45 b (off + i * 27) 27 L rowEvt HLc.out.len Hra.out ?_ ?_ ?_); rfl; rfl)
            | ((with_reducible refine stNg 45 27 L 45 _ rowEvt HLc.out.len ?_ HLc.out.one ?_ ?_ ?_); rfl; rfl; rfl; intro w3 hs3 hz3 hb3; have Hs3 := hide hs3; have Hb3 := hide hb3; have hkb3 := hb3.cell; have hkr3 := (Hst.out.blk.same hs3).cell; have hkf3 := (Hst.out.blk.same hs3).frozen; have hbr3 := Hr.out w3 (Hst.out.frm.same hs3); have HR2 := hide (HLb.out _ hb3); clear hs3 hz3)
            | ((with_reducible refine ldR 45 wr.heap.size 0 27 L rowEvt HLc.out.len HR2.out ?_ ?_ ?_); rfl; rfl)
            | fail)
          go_at_call 41
          refine (HTk2.out _ st _ _ _ (Hst.out.same2 Hs3.out) (by have := HN4.out; omega)).mono ?_
          rintro e w4 ⟨rfl, Ad4, n4, c4, hst4⟩
          have Hst4 := hide hst4
          clear hst4
          go_wp2_with fail
          go_roundg (N - (i + 1))
          case measure => have := Hk.out; omega
          case rel =>
            have h4 := take_len Htk.out
            have hni4 := Hni.out
            have hN44 := HN4.out
            rw [Hst4.out.len, Hst.out.len] at h4
            exact ⟨i + 1, x.st, Ad4, n4, c4, ds4, (by omega), rfl, (by first | go_num | exact congrArg (Value.int .i64) (wrapN (by omega))), (by omega), Hst4.out, (by rw [st0_pos (Nat.succ_ne_zero _)]; exact Hnx.out), take_inv Hinv.out Htk.out⟩
    · have hie : i = N := by omega
      subst hie
      go_wp2_with fail
      exfalso
      have hfin := Hgo.out
      rw [goP_end (by rw [HN.out]; exact Nat.le_refl _)] at hfin
      cases hfin
end Go.Proofs.YtlimpepdelpogaaGreatDoor
