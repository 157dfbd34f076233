/-
  The law's own 'lives'; TableNone's walk; TableFull's walk. No conditions.
-/
import Derived.Test.YtllcjkddlenleaaTbE
import Derived.Test.YtllcjkddlenleaaCgIn
namespace Go.Proofs.Ytllcjkddlenleaa
open Go.RowKit Go.Al
set_option linter.unusedVariables false

theorem tab_fresh {w0 w w' : World} {pm sm : Nat} (h : Same w0 w) (hp : w0.heap.size ≤ pm) (hs : w0.heap.size ≤ sm) (hc : Chg (fun k => k = pm ∨ k = sm) w w') : Same w0 w' :=
  Chg.trans h hc fun k hk e => by rcases e with e | e <;> omega

set_option maxRecDepth 100000 in
set_option maxHeartbeats 2000000 in
theorem tlives_any (w : World) :
    Calls Try.prog 9 #[] w fun e w' => e = .returned (.bool true) ∧ Same w w' := by
  have E1 : mayE [] [] 1 ⟨1, (1, 5, 0), z3⟩ = 0 := by decide
  have E2 : mayE [(1, 5, 0)] [] 1 ⟨3, z3, (1, 0, 0)⟩ = 4 := by decide
  have HD1 := hide (fun (w' : World) g pm sm (h : Tab w' g pm sm 1 [] []) => do_any ⟨1, (1, 5, 0), z3⟩ w' h ⟨rfl, rfl⟩)
  have HD2 := hide (fun (w' : World) g pm sm (h : Tab w' g pm sm 1 [(1, 5, 0)] []) => do_any ⟨3, z3, (1, 0, 0)⟩ w' h ⟨rfl, rfl⟩)
  unfold doB doP' doS' at HD1 HD2
  rw [E1] at HD1
  rw [E2] at HD2
  have HP : Hid (∀ (w' : World) g pm sm (h : Tab w' g pm sm 1 [(1, 5, 0)] []), Calls Try.prog 15 #[.pointer (some ⟨g, 0, none⟩), .int .i64 1] w' fun e w'' => e = .returned (.tuple #[.agg #[.int .i64 1, .int .i64 5, .int .i64 0], .bool true]) ∧ Same w' w'') := hide (fun (w' : World) g pm sm (h : Tab w' g pm sm 1 [(1, 5, 0)] []) => point_any 1 w' h rfl)
  have HL : Hid (∀ (w' : World) g pm sm (h : Tab w' g pm sm 1 [(1, 5, 0)] []), Calls Try.prog 7 #[.pointer (some ⟨g, 0, none⟩)] w' fun e w'' => e = .returned (.int .i64 1) ∧ Same w' w'') := hide (fun (w' : World) g pm sm (h : Tab w' g pm sm 1 [(1, 5, 0)] []) => len_any w' h)
  clear E1 E2
  unfold cgV z3 at *
  go_enter Try.func9, Try.ntmps9
  go_wp2_with (first
    | (go_at_call 6
       refine (tnew_any 1 w (by decide) (by decide)).mono ?_
       rintro e w1 ⟨g, pm, sm, rfl, hs1, ht1, hg, hp, hs⟩
       have Ht1 := hide ht1; have Hs1 := hide hs1; have Hp := hide hp; have Hsm := hide hs; clear hs1 ht1 hg hp hs)
    | (go_at_call 8
       first
       | (refine (HD2.out _ g pm sm (Ht2.out.same ((Chg.refl _ w2).alloc _))).mono ?_
          rintro e w3 ⟨rfl, ht3, hc3⟩
          have hs3 := tab_fresh (Chg.alloc Hs2.out _) Hp.out Hsm.out hc3
          have Ht3 := hide ht3; have Hs3 := hide hs3; clear hs3 ht3 hc3)
       | (refine (HD1.out _ g pm sm Ht1.out).mono ?_
          rintro e w2 ⟨rfl, ht2, hc2⟩
          have hs2 := tab_fresh Hs1.out Hp.out Hsm.out hc2
          have Ht2 := hide ht2; have Hs2 := hide hs2; clear hs2 ht2 hc2))
    | (go_at_call 15
       refine (HP.out _ g pm sm (Ht3.out.same ((Chg.refl _ w3).alloc _))).mono ?_
       rintro e w4 ⟨rfl, hs4⟩
       have Hs4 := hide hs4; clear hs4)
    | (go_at_call 7
       refine (HL.out _ g pm sm ((Ht3.out.same (Same.trans ((Chg.refl _ w3).alloc _) Hs4.out)).same ((Chg.refl _ w4).alloc _))).mono ?_
       rintro e w5 ⟨rfl, hs5⟩
       have Hs5 := hide hs5; clear hs5))
  go_ret
  exact ⟨rfl, Same.trans (Chg.alloc (Same.trans (Chg.alloc Hs3.out _) Hs4.out) _) Hs5.out⟩
end Go.Proofs.Ytllcjkddlenleaa
