/-
  The queue's Grant and Ahead; the law's own 'lives'; QueueNone's walk. Condition: at most 65536 wait.
-/
import Derived.Test.YtkakhpbeglkbnaaRqB
namespace Go.Proofs.Ytkakhpbeglkbnaa
open Go.RowKit Go.Al Go.Al.Rg
set_option linter.unusedVariables false

set_option maxHeartbeats 400000 in
theorem que_grant_held {F : Nat → Prop} {g most : Nat} {q : List Int} {id turns : Int} {w : World} (h : Que F w g most q id true turns) :
    Calls Try.prog 25 #[.pointer (some ⟨g, 0, none⟩)] w fun e w' => e = .returned (.tuple #[.int .i64 0, .bool false]) ∧ w = w' := by
  obtain ⟨gr, Fr, hb, hr, hg, rfl⟩ := h
  have hk := hb.cell
  clear hb hr hg
  go_enter Try.func25, Try.ntmps25
  go_wp2_with fail
  go_ret2
  exact ⟨rfl, rfl⟩
set_option maxHeartbeats 400000 in
theorem que_grant_none {F : Nat → Prop} {g most : Nat} {id turns : Int} {w : World} (h : Que F w g most [] id false turns) (hm : most ≤ 65536) :
    Calls Try.prog 25 #[.pointer (some ⟨g, 0, none⟩)] w fun e w' => e = .returned (.tuple #[.int .i64 0, .bool false]) ∧ ∃ F', Que F' w' g most [] id false turns ∧ Stp F w F' w' := by
  obtain ⟨gr, Fr, hb, hr, hg, rfl⟩ := h
  have hk := hb.cell
  have Hb := hide hb
  have Hr := hide hr
  have Hg := hide hg
  clear hb hr hg
  go_enter Try.func25, Try.ntmps25
  go_wp2_with (go_at_call 11; have hF := ring_pop Hr.out hm; rw [show headI [] = 0 from rfl, show someQ [] = false from rfl] at hF; refine hF.mono ?_; rintro e w2 ⟨rfl, F2, hr2, hs2⟩; have Hr2 := hide hr2; have Hs2 := hide hs2; clear hr2 hs2 hF)
  go_ret2
  have h := Que.ring Hb.out Hg.out Hr2.out Hs2.out
  exact ⟨rfl, _, h.1, h.2⟩
set_option maxHeartbeats 400000 in
theorem que_grant {F : Nat → Prop} {g most : Nat} {x : Int} {q : List Int} {id : Int} {t : Nat} {w : World} (h : Que F w g most (x :: q) id false t) (hm : most ≤ 65536) (ht : t ≤ 1048576) :
    Calls Try.prog 25 #[.pointer (some ⟨g, 0, none⟩)] w fun e w' => e = .returned (.tuple #[.int .i64 x, .bool true]) ∧ ∃ F', Que F' w' g most q x true ((t : Int) + 1) ∧ Stp F w F' w' := by
  obtain ⟨gr, Fr, hb, hr, hg, rfl⟩ := h
  have hk := hb.cell
  have Hb := hide hb
  have Hr := hide hr
  have Hg := hide hg
  clear hb hr hg
  go_enter Try.func25, Try.ntmps25
  go_wp2_with (go_at_call 11
               have hF := ring_pop Hr.out hm
               rw [show headI (x :: q) = x from rfl, show someQ (x :: q) = true from rfl] at hF
               refine hF.mono ?_
               rintro e w2 ⟨rfl, F2, hr2, hs2⟩
               have hb2 := Hb.out.chg hs2.chg Hg.out
               have Hb2 := hide hb2
               have hk2 := hb2.cell
               have hz2 := hb2.frozen
               have Hr2 := hide hr2
               have Hs2 := hide hs2
               clear hr2 hs2 hF hb2)
  go_ret2
  have h1 := Que.ring Hb.out Hg.out Hr2.out Hs2.out
  have h2 := Que.own (w' := ((w2.setCell ⟨g, 1, none⟩ (.int .i64 x)).setCell ⟨g, 2, none⟩ (.bool true)).setCell ⟨g, 3, none⟩ (.int .i64 ((t : Int) + 1))) (id := x) (held := true) (turns := (t : Int) + 1)
    (by have := ((Hb2.out.set_ 1 (.int .i64 x)).set_ 2 (.bool true)).set_ 3 (.int .i64 ((t : Int) + 1)); simpa using this) (Hs2.out.out Hb.out.lt Hg.out) Hr2.out ((((Chg.refl _ w2).set1 1 _).set1 2 _).set1 3 _)
  exact ⟨rfl, _, h2.1, h1.2.trans h2.2⟩

set_option maxRecDepth 100000 in
set_option maxHeartbeats 2000000 in
theorem qlives_any (w : World) :
    Calls Try.prog 29 #[] w fun e w' => e = .returned (.bool true) ∧ Same w w' := by
  go_enter Try.func29, Try.ntmps29
  go_wp2_with (first
    | (go_at_call 22
       have hF := que_new 3 w (by decide) (by decide)
       refine hF.mono ?_
       rintro e w1 ⟨g, rfl, hs1, F1, hr1, hf1⟩
       have Hr1 := hide hr1; have Hs1 := hide hs1; have Hf1 := hide hf1; clear hr1 hs1 hF hf1)
    | (go_at_call_of 23 (Value.int IntKind.i64 (5 : Int))
       have hF := que_want 5 Hr1.out (by decide)
       rw [show wantE [] 3 0 false 5 = 0 from rfl, show wantQ [] 3 0 false 5 = [5] from rfl] at hF
       refine hF.mono ?_
       rintro e w2 ⟨rfl, F2, hr2, hs2⟩
       have Hr2 := hide hr2; have Hs2 := hide hs2; clear hr2 hs2 hF)
    | (go_at_call_of 23 (Value.int IntKind.i64 (7 : Int))
       have hF := que_want 7 Hr2.out (by decide)
       rw [show wantE [5] 3 0 false 7 = 0 from rfl, show wantQ [5] 3 0 false 7 = [5, 7] from rfl] at hF
       refine hF.mono ?_
       rintro e w3 ⟨rfl, F3, hr3, hs3⟩
       have Hr3 := hide hr3; have Hs3 := hide hs3; clear hr3 hs3 hF)
    | (go_at_call 27
       have hF := que_release_yes Hr4.out
       refine hF.mono ?_
       rintro e w5 ⟨rfl, F5, hr5, hs5⟩
       have Hr5 := hide hr5; have Hs5 := hide hs5; clear hr5 hs5 hF)
    | (go_at_call 25
       first
       | (have hF := que_grant (t := 1) Hr5.out (by decide) (by decide)
          refine hF.mono ?_
          rintro e w6 ⟨rfl, F6, hr6, hs6⟩
          have Hr6 := hide hr6; have Hs6 := hide hs6; clear hr6 hs6 hF)
       | (have hF := que_grant (t := 0) Hr3.out (by decide) (by decide)
          refine hF.mono ?_
          rintro e w4 ⟨rfl, F4, hr4, hs4⟩
          have Hr4 := hide hr4; have Hs4 := hide hs4; clear hr4 hs4 hF)))
  go_ret
  exact ⟨rfl, (Stp.fresh Hs1.out Hf1.out ((((Hs2.out.trans Hs3.out).trans Hs4.out).trans Hs5.out).trans Hs6.out)).1⟩

set_option maxRecDepth 100000 in
set_option maxHeartbeats 2000000 in
theorem queueNone_any (v : Int) (w : World) :
    Calls Try.prog 8 #[.int .i64 v] w fun e w' => e = .returned (.bool true) ∧ Same w w' := by
  go_enter Try.func8, Try.ntmps8
  go_wp2_with (first
    | (go_at_call 25; refine (grant_nil _).mono ?_; rintro e w' ⟨rfl, rfl⟩)
    | (go_at_call 33; refine (holder_nil _).mono ?_; rintro e w' ⟨rfl, rfl⟩)
    | (go_at_call 26; refine (ahead_nil _ _).mono ?_; rintro e w' ⟨rfl, rfl⟩)
    | (go_at_call 23; refine (want_nil _ _).mono ?_; rintro e w' ⟨rfl, rfl⟩)
    | (go_at_call 27; refine (release_nil _ _).mono ?_; rintro e w' ⟨rfl, rfl⟩)
    | (go_at_call 24; refine (leave_nil _ _).mono ?_; rintro e w' ⟨rfl, rfl⟩)
    | (go_at_call 31; refine (waits_nil _).mono ?_; rintro e w' ⟨rfl, rfl⟩)
    | (go_at_call 28; refine (turns_nil _).mono ?_; rintro e w' ⟨rfl, rfl⟩)
    | (go_at_call 29; refine (qlives_any _).mono ?_; rintro e w' ⟨rfl, hs⟩; have Hs := hide hs; clear hs))
  go_ret
  exact ⟨rfl, Hs.out⟩
end Go.Proofs.Ytkakhpbeglkbnaa
