/-
  codec.Decode: bytes as reader.request makes them. Condition: numbers that an int holds.
-/
import Derived.Test.YtlodanjpkjfjiaaGreatDoorCdK
import Derived.Test.YtlodanjpkjfjiaaGreatDoorTrV
namespace Go.Proofs.YtlodanjpkjfjiaaGreatDoor
open Go.RowKit Go.Al
set_option linter.unusedVariables false

set_option maxRecDepth 100000 in
set_option maxHeartbeats 4000000 in
theorem decode1_some {A : Option Addr} {n cc m : Nat} (r : Rq) (w : World) (hm : Blk w m 36 #[.slice A n cc]) (hf : ∀ w', Same w w' → Calls Tryz.prog 100 #[.slice A n cc] w' fun e w2 => e = .returned (rqV r) ∧ Same w' w2) :
    Calls Tryz.prog 99 #[.pointer (some ⟨m, 0, none⟩)] w (EndR (fun _ R _ => R = rqL r) w) := by
  have HF := hide hf
  have hs0 : Same w (w.alloc (.cells (rqL rqz).toArray 35)) := (Chg.refl _ w).alloc _
  have hb0 := Blk.new w 35 (rqL rqz).toArray
  have hk := (hm.alloc (.cells (rqL rqz).toArray 35)).cell 0
  simp at hk
  have Hs0 := hide hs0
  have Hb0 := hide hb0
  have HE : Hid (∀ R, rqL r = R → ∀ w', Same w w' → EndR (fun _ R _ => R = rqL r) w (.returned (.agg R.toArray)) w') := hide fun R hR w' hs => by
    subst hR
    exact ⟨_, rqL_len r, one_rqL r, rfl, rfl, hs⟩
  have Hr1 := hide (one_rqL r)
  have Hrl := hide (rqL_len r)
  clear hf hm hs0 hb0
  unfold rqV at HF
  obtain ⟨R, hR⟩ : ∃ R, rqL r = R := ⟨_, rfl⟩
  have HE2 := hide (HE.out R hR)
  rw [hR] at HF Hr1 Hrl
  clear HE hR
  simp only [rqL, cgL, qL, z3', qy0, cg0, rqz, List.cons_append, List.nil_append] at hk Hs0 Hb0
  generalize EndR (fun _ R _ => R = rqL r) w = Q at *
  go_enter Tryz.func99, Tryz.ntmps99
  go_wp2_with (first
    | (go_at_call 100; (refine (HF.out _ Hs0.out).mono ?_); rintro e w2 ⟨rfl, hs2⟩; have Hs2 := hide (Same.trans Hs0.out hs2); have Hb2 := hide (Hb0.out.same hs2); clear hs2)
    | (refine wpList_store_row (by rfl) 35 _ _ rfl w.heap.size R.toArray rfl rfl 35 _ Hb2.out (by rw [List.size_toArray, Hrl.out]; exact infoRqE) (show (18 : Nat) = R.toArray.size by rw [List.size_toArray, Hrl.out]) (all_oneCell_toArray Hr1.out) ?_)
    | fail)
  refine bodyPost_ret (results_cell_row rfl _ _ _ _ _ _ _ rfl (Blk.setRow_ Hb2.out _) Tryz.underlying35 rfl (by rw [List.size_toArray, Hrl.out]; exact infoRqE)) (by rfl) ?_
  exact HE2.out _ (Chg.setRow Hs2.out (.inr (Nat.le_refl _)) _)
set_option maxRecDepth 100000 in
set_option maxHeartbeats 4000000 in
theorem decode1_bad {A : Option Addr} {n cc m : Nat} (wh : Int) (w : World) (hm : Blk w m 36 #[.slice A n cc]) (hf : ∀ w', Same w w' → Calls Tryz.prog 100 #[.slice A n cc] w' fun e w2 => e = .panicked (fault wh 8) ∧ Same w' w2) :
    Calls Tryz.prog 99 #[.pointer (some ⟨m, 0, none⟩)] w fun e w' => e = .panicked (fault wh 8) ∧ Same w w' := by
  have HF := hide hf
  have hs0 : Same w (w.alloc (.cells (rqL rqz).toArray 35)) := (Chg.refl _ w).alloc _
  have hk := (hm.alloc (.cells (rqL rqz).toArray 35)).cell 0
  simp at hk
  have Hs0 := hide hs0
  clear hf hm hs0
  simp only [rqL, cgL, qL, z3', qy0, cg0, rqz, List.cons_append, List.nil_append] at hk Hs0
  go_enter Tryz.func99, Tryz.ntmps99
  go_wp2_with (first
    | (go_at_call 100; (refine (HF.out _ Hs0.out).mono ?_); rintro e w2 ⟨rfl, hs2⟩; have Hs2 := hide (Same.trans Hs0.out hs2); clear hs2)
    | fail)
  exact ⟨rfl, rfl, Hs2.out⟩
/-- how Decode ends -/
def DecodeEnd (c : Nat) (ns : List Int) (w : World) (e : Ending) (w' : World) : Prop :=
  ((∃ r, ofNums (wordK c) ns = some r ∧ e = .returned (.tuple #[rqV r, .int .i64 0])) ∨ (ofNums (wordK c) ns = none ∧ e = .returned (.tuple #[rqV rqz, .int .i64 8]))) ∧ Same w w'
set_option maxRecDepth 100000 in
set_option maxHeartbeats 4000000 in
theorem Decode_any {A : Option Addr} {n cc c : Nat} (ns : List Int) (w : World) (hc : c < 256) (hn : (c.toUInt8 :: encL ns).length = n) (hnc : n ≤ cc) (hcc : cc ≤ maxLen) (h0 : Rd w A (bs (c.toUInt8 :: encL ns))) (hin : ∀ x ∈ ns, inI' x) :
    Calls Tryz.prog 78 #[.slice A n cc] w (DecodeEnd c ns w) := by
  have eK : ∀ args w, (callFunc 99 args).run Tryz.prog w = .ok (.enter 99 args) w := enters_of Tryz.func99 (by kernel_rfl) rfl
  have hmf : ∀ (fn : Fn) (first cap : Array Value) (w : World), (Instr.makeFunc fn first cap).run Tryz.prog w = .ok (.func fn first cap) w := fun _ _ _ _ => rfl
  have hs0 : Same w ((w.alloc (.cells #[.slice A n cc] 36)).alloc (.cells (rqL rqz).toArray 35)) := ((Chg.refl _ w).alloc _).alloc _
  have hm := (Blk.new w 36 #[.slice A n cc]).alloc (.cells (rqL rqz).toArray 35)
  have hb := Blk.new (w.alloc (.cells #[.slice A n cc] 36)) 35 (rqL rqz).toArray
  simp only [World.size_alloc] at hb
  have hdec : ∀ w1, Same ((w.alloc (.cells #[.slice A n cc] 36)).alloc (.cells (rqL rqz).toArray 35)) w1 → Calls Tryz.prog 100 #[.slice A n cc] w1 (DecEnd c ns w1) := fun w1 hs => decoded_any ns w1 hc hn hnc hcc (h0.same (Same.trans hs0 hs)) hin
  have Hs0 := hide hs0
  have Hb := hide hb
  unfold DecodeEnd
  cases ho : ofNums (wordK c) ns with
  | some r =>
    have HV := hide (valueR_ok (caps := #[.pointer (some ⟨w.heap.size, 0, none⟩)]) eK (P := fun _ R _ => R = rqL r) (fun _ _ _ _ h _ => h) _ (fun w1 hs1 => decode1_some r w1 (hm.same hs1) (fun w' hs' => ((hdec w' (Same.trans hs1 hs')).mono (by
      rintro e w2 ⟨h, hs2⟩
      rcases h with ⟨r', h1, rfl⟩ | ⟨h1, _⟩
      · rw [ho] at h1
        cases h1
        exact ⟨rfl, hs2⟩
      · rw [ho] at h1
        cases h1)))))
    clear hs0 hm hb hdec h0 hin hc hn hnc hcc ho
    have Hr1 := hide (one_rqL r)
    have Hrl := hide (rqL_len r)
    unfold rqV
    have HE : Hid (∀ R w', R = rqL r → Same w w' → ((∃ r_1, some r = some r_1 ∧ Ending.returned (.tuple #[.agg R.toArray, .int .i64 0]) = .returned (.tuple #[.agg (rqL r_1).toArray, .int .i64 0])) ∨ (some r = none ∧ Ending.returned (.tuple #[.agg R.toArray, .int .i64 0]) = .returned (.tuple #[.agg (rqL rqz).toArray, .int .i64 8]))) ∧ Same w w') := hide fun R w' hR hs => ⟨.inl ⟨r, rfl, by rw [hR]⟩, hs⟩
    simp only [rqL, cgL, qL, z3', qy0, cg0, rqz, List.cons_append, List.nil_append] at Hs0 Hb HV
    go_enter Tryz.func78, Tryz.ntmps78
    go_wp2_with (first
      | (go_at_call 98; (refine HV.out.mono ?_); rintro e w4 ⟨R, b0, hl, h1, rfl, hp, _, hs4⟩; have Hl := hide hl; have H1 := hide h1; have Hp := hide (show R = rqL r from hp); have Hs4 := hide (Same.trans Hs0.out hs4); have Hb4 := hide (Hb.out.same hs4); have Hra := hide (show (w4.alloc (.cells R.toArray 35)).rangeAt w4.heap.size 0 R from fun j v hv => (by rw [Nat.zero_add, (Blk.new w4 35 R.toArray).cell]; simpa using hv)); clear hl h1 hp hs4)
      | (refine wpList_st (by rfl) 35 _ _ rfl rfl R rfl _ _ (by rw [Hl.out]; exact infoRqE) (by rw [Hl.out]; rfl) H1.out ?_)
      | (refine wpList_ld (by rfl) 35 _ rfl w4.heap.size 0 rfl R _ Hra.out Tryz.underlying35 rfl (by rw [Hl.out]; exact infoRqE) ?_)
      | (refine wpList_store_row (by rfl) 35 _ _ rfl (w.heap.size + 1) R.toArray rfl rfl 35 _ (Hb4.out.alloc _) (by rw [List.size_toArray, Hl.out]; exact infoRqE) (show (18 : Nat) = R.toArray.size by rw [List.size_toArray, Hl.out]) (all_oneCell_toArray H1.out) ?_)
      | fail)
    refine bodyPost_ret (results_cell2 rfl rfl (Blk.setRow_ (Hb4.out.alloc (.cells R.toArray 35)) R.toArray) Tryz.underlying35 rfl (by rw [List.size_toArray, Hl.out]; exact infoRqE)) (by rfl) ?_
    exact HE.out _ _ Hp.out (Chg.setRow (Hs4.out.alloc _) (.inr (by omega)) _)
  | none =>
    have HV := hide (valueR_bad (caps := #[.pointer (some ⟨w.heap.size, 0, none⟩)]) eK (whD c ns) 8 _ (fun w1 hs1 => decode1_bad (whD c ns) w1 (hm.same hs1) (fun w' hs' => ((hdec w' (Same.trans hs1 hs')).mono (by
      rintro e w2 ⟨h, hs2⟩
      rcases h with ⟨r', h1, rfl⟩ | ⟨h1, rfl⟩
      · rw [ho] at h1
        cases h1
      · exact ⟨rfl, hs2⟩)))))
    clear hs0 hm hb hdec h0 hin hc hn hnc hcc ho
    unfold rqV
    generalize whD c ns = wh at *
    simp only [rqL, cgL, qL, z3', qy0, cg0, rqz, List.cons_append, List.nil_append] at Hs0 Hb HV ⊢
    go_enter Tryz.func78, Tryz.ntmps78
    go_wp2_with (first
      | (go_at_call 98; (refine HV.out.mono ?_); rintro e w4 ⟨rfl, hs4⟩; have Hs4 := hide (Same.trans Hs0.out hs4); have Hb4 := hide (Hb.out.same hs4); clear hs4)
      | (refine wpList_st (by rfl) 35 _ _ rfl rfl [Value.int .i64 0, Value.int .i64 0, Value.int .i64 0, Value.int .i64 0, Value.int .i64 0, Value.int .i64 0, Value.int .i64 0, Value.int .i64 0, Value.int .i64 0, Value.int .i64 0, Value.int .i64 0, Value.int .i64 0, Value.int .i64 0, Value.int .i64 0, Value.int .i64 0, Value.int .i64 0, Value.int .i64 0, Value.int .i64 0] rfl _ _ infoRqE (by rfl) (by simp [Value.oneCell']) ?_)
      | (refine wpList_store_row (by rfl) 35 _ _ rfl (w.heap.size + 1) _ rfl rfl 35 _ (Hb4.out.alloc _) (by kernel_rfl) (by rfl) (all_oneCell_toArray (cs := [Value.int .i64 0, Value.int .i64 0, Value.int .i64 0, Value.int .i64 0, Value.int .i64 0, Value.int .i64 0, Value.int .i64 0, Value.int .i64 0, Value.int .i64 0, Value.int .i64 0, Value.int .i64 0, Value.int .i64 0, Value.int .i64 0, Value.int .i64 0, Value.int .i64 0, Value.int .i64 0, Value.int .i64 0, Value.int .i64 0]) (by simp [Value.oneCell'])) ?_)
      | fail)
    refine bodyPost_ret (results_cell2 rfl rfl (Blk.setRow_ (Hb4.out.alloc (.cells #[Value.int .i64 0, Value.int .i64 0, Value.int .i64 0, Value.int .i64 0, Value.int .i64 0, Value.int .i64 0, Value.int .i64 0, Value.int .i64 0, Value.int .i64 0, Value.int .i64 0, Value.int .i64 0, Value.int .i64 0, Value.int .i64 0, Value.int .i64 0, Value.int .i64 0, Value.int .i64 0, Value.int .i64 0, Value.int .i64 0] 35)) #[Value.int .i64 0, Value.int .i64 0, Value.int .i64 0, Value.int .i64 0, Value.int .i64 0, Value.int .i64 0, Value.int .i64 0, Value.int .i64 0, Value.int .i64 0, Value.int .i64 0, Value.int .i64 0, Value.int .i64 0, Value.int .i64 0, Value.int .i64 0, Value.int .i64 0, Value.int .i64 0, Value.int .i64 0, Value.int .i64 0]) Tryz.underlying35 rfl infoRqE) (by rfl) ?_
    exact ⟨.inr ⟨trivial, rfl⟩, Chg.setRow (Hs4.out.alloc _) (.inr (by omega)) _⟩
end Go.Proofs.YtlodanjpkjfjiaaGreatDoor
