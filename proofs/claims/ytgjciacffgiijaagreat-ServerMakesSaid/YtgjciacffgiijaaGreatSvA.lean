/-
  ServerMakes: any setup. No conditions but those that are named.
-/
import Derived.Test.YtgjciacffgiijaaGreatSv0
import Derived.Test.YtgjciacffgiijaaGreatSv1
import Derived.Test.YtgjciacffgiijaaGreatSv2
import Derived.Test.YtgjciacffgiijaaGreatSv3
import Derived.Test.YtgjciacffgiijaaGreatFl
namespace Go.Proofs.YtgjciacffgiijaaGreat
open Go.RowKit Go.Al Go.E2
set_option linter.unusedVariables false

theorem svL (m b : Int) (s : Int) (z : List Int) (h1 : 1 ≤ m) (h2 : m ≤ 1048576) (h3 : 0 ≤ b) (h4 : b ≤ 1000) : V.DecOk [(.app 3 [.var 0, .lit 1], false), (.app 3 [.lit 1048576, .var 0], false), (.app 3 [.var 2, .lit 0], false), (.app 3 [.lit 1000, .var 2], false)] (svR m s b z) := by
  refine V.DecOk.cons ?_ (V.DecOk.cons ?_ (V.DecOk.cons ?_ (V.DecOk.cons ?_ (V.DecOk.nil _))))
  all_goals
    simp only [Tm.den, tdenL, Th.lss_, Th.ofI_, decide_eq_false_iff_not]
    simp only [svR, List.getD_cons_zero, List.getD_cons_succ]
    first
      | (show ¬ m < 1; omega)
      | (show ¬ 1048576 < m; omega)
      | (show ¬ b < 0; omega)
      | (show ¬ 1000 < b; omega)
theorem svFair (m b : Int) (z : List Int) (hz : z.length = 21) (h1 : 1 ≤ m) (h2 : m ≤ 1048576) (h3 : 0 ≤ b) (h4 : b ≤ 1000) (k : Nat) (hk : 1 ≤ k ∧ k ≤ 64) (w : World) :
    Calls Tryz.prog 6 #[.agg #[.int .i64 m, .int .i64 k, .int .i64 b], Ev.ivs z] w fun e w' => e = .returned (.bool true) ∧ Same w w' := by
  match z, hz with
  | [x0, x1, x2, x3, x4, x5, x6, x7, x8, x9, x10, x11, x12, x13, x14, x15, x16, x17, x18, x19, x20], _ =>
    match k, hk with
    | 0, h => exact absurd h.1 (by decide)
    | 1, _ => exact V.evalTL (fun F _ => svX_ok F) (.leaf (.bool true) []) sv1_ev (svR m 1 b [x0, x1, x2, x3, x4, x5, x6, x7, x8, x9, x10, x11, x12, x13, x14, x15, x16, x17, x18, x19, x20]) (svL m b _ _ h1 h2 h3 h4) rfl (by simp [okL, SV.ok]) w
    | 2, _ => exact V.evalTL (fun F _ => svX_ok F) (.leaf (.bool true) []) sv2_ev (svR m 2 b [x0, x1, x2, x3, x4, x5, x6, x7, x8, x9, x10, x11, x12, x13, x14, x15, x16, x17, x18, x19, x20]) (svL m b _ _ h1 h2 h3 h4) rfl (by simp [okL, SV.ok]) w
    | 3, _ => exact V.evalTL (fun F _ => svX_ok F) (.leaf (.bool true) []) sv3_ev (svR m 3 b [x0, x1, x2, x3, x4, x5, x6, x7, x8, x9, x10, x11, x12, x13, x14, x15, x16, x17, x18, x19, x20]) (svL m b _ _ h1 h2 h3 h4) rfl (by simp [okL, SV.ok]) w
    | 4, _ => exact V.evalTL (fun F _ => svX_ok F) (.leaf (.bool true) []) sv4_ev (svR m 4 b [x0, x1, x2, x3, x4, x5, x6, x7, x8, x9, x10, x11, x12, x13, x14, x15, x16, x17, x18, x19, x20]) (svL m b _ _ h1 h2 h3 h4) rfl (by simp [okL, SV.ok]) w
    | 5, _ => exact V.evalTL (fun F _ => svX_ok F) (.leaf (.bool true) []) sv5_ev (svR m 5 b [x0, x1, x2, x3, x4, x5, x6, x7, x8, x9, x10, x11, x12, x13, x14, x15, x16, x17, x18, x19, x20]) (svL m b _ _ h1 h2 h3 h4) rfl (by simp [okL, SV.ok]) w
    | 6, _ => exact V.evalTL (fun F _ => svX_ok F) (.leaf (.bool true) []) sv6_ev (svR m 6 b [x0, x1, x2, x3, x4, x5, x6, x7, x8, x9, x10, x11, x12, x13, x14, x15, x16, x17, x18, x19, x20]) (svL m b _ _ h1 h2 h3 h4) rfl (by simp [okL, SV.ok]) w
    | 7, _ => exact V.evalTL (fun F _ => svX_ok F) (.leaf (.bool true) []) sv7_ev (svR m 7 b [x0, x1, x2, x3, x4, x5, x6, x7, x8, x9, x10, x11, x12, x13, x14, x15, x16, x17, x18, x19, x20]) (svL m b _ _ h1 h2 h3 h4) rfl (by simp [okL, SV.ok]) w
    | 8, _ => exact V.evalTL (fun F _ => svX_ok F) (.leaf (.bool true) []) sv8_ev (svR m 8 b [x0, x1, x2, x3, x4, x5, x6, x7, x8, x9, x10, x11, x12, x13, x14, x15, x16, x17, x18, x19, x20]) (svL m b _ _ h1 h2 h3 h4) rfl (by simp [okL, SV.ok]) w
    | 9, _ => exact V.evalTL (fun F _ => svX_ok F) (.leaf (.bool true) []) sv9_ev (svR m 9 b [x0, x1, x2, x3, x4, x5, x6, x7, x8, x9, x10, x11, x12, x13, x14, x15, x16, x17, x18, x19, x20]) (svL m b _ _ h1 h2 h3 h4) rfl (by simp [okL, SV.ok]) w
    | 10, _ => exact V.evalTL (fun F _ => svX_ok F) (.leaf (.bool true) []) sv10_ev (svR m 10 b [x0, x1, x2, x3, x4, x5, x6, x7, x8, x9, x10, x11, x12, x13, x14, x15, x16, x17, x18, x19, x20]) (svL m b _ _ h1 h2 h3 h4) rfl (by simp [okL, SV.ok]) w
    | 11, _ => exact V.evalTL (fun F _ => svX_ok F) (.leaf (.bool true) []) sv11_ev (svR m 11 b [x0, x1, x2, x3, x4, x5, x6, x7, x8, x9, x10, x11, x12, x13, x14, x15, x16, x17, x18, x19, x20]) (svL m b _ _ h1 h2 h3 h4) rfl (by simp [okL, SV.ok]) w
    | 12, _ => exact V.evalTL (fun F _ => svX_ok F) (.leaf (.bool true) []) sv12_ev (svR m 12 b [x0, x1, x2, x3, x4, x5, x6, x7, x8, x9, x10, x11, x12, x13, x14, x15, x16, x17, x18, x19, x20]) (svL m b _ _ h1 h2 h3 h4) rfl (by simp [okL, SV.ok]) w
    | 13, _ => exact V.evalTL (fun F _ => svX_ok F) (.leaf (.bool true) []) sv13_ev (svR m 13 b [x0, x1, x2, x3, x4, x5, x6, x7, x8, x9, x10, x11, x12, x13, x14, x15, x16, x17, x18, x19, x20]) (svL m b _ _ h1 h2 h3 h4) rfl (by simp [okL, SV.ok]) w
    | 14, _ => exact V.evalTL (fun F _ => svX_ok F) (.leaf (.bool true) []) sv14_ev (svR m 14 b [x0, x1, x2, x3, x4, x5, x6, x7, x8, x9, x10, x11, x12, x13, x14, x15, x16, x17, x18, x19, x20]) (svL m b _ _ h1 h2 h3 h4) rfl (by simp [okL, SV.ok]) w
    | 15, _ => exact V.evalTL (fun F _ => svX_ok F) (.leaf (.bool true) []) sv15_ev (svR m 15 b [x0, x1, x2, x3, x4, x5, x6, x7, x8, x9, x10, x11, x12, x13, x14, x15, x16, x17, x18, x19, x20]) (svL m b _ _ h1 h2 h3 h4) rfl (by simp [okL, SV.ok]) w
    | 16, _ => exact V.evalTL (fun F _ => svX_ok F) (.leaf (.bool true) []) sv16_ev (svR m 16 b [x0, x1, x2, x3, x4, x5, x6, x7, x8, x9, x10, x11, x12, x13, x14, x15, x16, x17, x18, x19, x20]) (svL m b _ _ h1 h2 h3 h4) rfl (by simp [okL, SV.ok]) w
    | 17, _ => exact V.evalTL (fun F _ => svX_ok F) (.leaf (.bool true) []) sv17_ev (svR m 17 b [x0, x1, x2, x3, x4, x5, x6, x7, x8, x9, x10, x11, x12, x13, x14, x15, x16, x17, x18, x19, x20]) (svL m b _ _ h1 h2 h3 h4) rfl (by simp [okL, SV.ok]) w
    | 18, _ => exact V.evalTL (fun F _ => svX_ok F) (.leaf (.bool true) []) sv18_ev (svR m 18 b [x0, x1, x2, x3, x4, x5, x6, x7, x8, x9, x10, x11, x12, x13, x14, x15, x16, x17, x18, x19, x20]) (svL m b _ _ h1 h2 h3 h4) rfl (by simp [okL, SV.ok]) w
    | 19, _ => exact V.evalTL (fun F _ => svX_ok F) (.leaf (.bool true) []) sv19_ev (svR m 19 b [x0, x1, x2, x3, x4, x5, x6, x7, x8, x9, x10, x11, x12, x13, x14, x15, x16, x17, x18, x19, x20]) (svL m b _ _ h1 h2 h3 h4) rfl (by simp [okL, SV.ok]) w
    | 20, _ => exact V.evalTL (fun F _ => svX_ok F) (.leaf (.bool true) []) sv20_ev (svR m 20 b [x0, x1, x2, x3, x4, x5, x6, x7, x8, x9, x10, x11, x12, x13, x14, x15, x16, x17, x18, x19, x20]) (svL m b _ _ h1 h2 h3 h4) rfl (by simp [okL, SV.ok]) w
    | 21, _ => exact V.evalTL (fun F _ => svX_ok F) (.leaf (.bool true) []) sv21_ev (svR m 21 b [x0, x1, x2, x3, x4, x5, x6, x7, x8, x9, x10, x11, x12, x13, x14, x15, x16, x17, x18, x19, x20]) (svL m b _ _ h1 h2 h3 h4) rfl (by simp [okL, SV.ok]) w
    | 22, _ => exact V.evalTL (fun F _ => svX_ok F) (.leaf (.bool true) []) sv22_ev (svR m 22 b [x0, x1, x2, x3, x4, x5, x6, x7, x8, x9, x10, x11, x12, x13, x14, x15, x16, x17, x18, x19, x20]) (svL m b _ _ h1 h2 h3 h4) rfl (by simp [okL, SV.ok]) w
    | 23, _ => exact V.evalTL (fun F _ => svX_ok F) (.leaf (.bool true) []) sv23_ev (svR m 23 b [x0, x1, x2, x3, x4, x5, x6, x7, x8, x9, x10, x11, x12, x13, x14, x15, x16, x17, x18, x19, x20]) (svL m b _ _ h1 h2 h3 h4) rfl (by simp [okL, SV.ok]) w
    | 24, _ => exact V.evalTL (fun F _ => svX_ok F) (.leaf (.bool true) []) sv24_ev (svR m 24 b [x0, x1, x2, x3, x4, x5, x6, x7, x8, x9, x10, x11, x12, x13, x14, x15, x16, x17, x18, x19, x20]) (svL m b _ _ h1 h2 h3 h4) rfl (by simp [okL, SV.ok]) w
    | 25, _ => exact V.evalTL (fun F _ => svX_ok F) (.leaf (.bool true) []) sv25_ev (svR m 25 b [x0, x1, x2, x3, x4, x5, x6, x7, x8, x9, x10, x11, x12, x13, x14, x15, x16, x17, x18, x19, x20]) (svL m b _ _ h1 h2 h3 h4) rfl (by simp [okL, SV.ok]) w
    | 26, _ => exact V.evalTL (fun F _ => svX_ok F) (.leaf (.bool true) []) sv26_ev (svR m 26 b [x0, x1, x2, x3, x4, x5, x6, x7, x8, x9, x10, x11, x12, x13, x14, x15, x16, x17, x18, x19, x20]) (svL m b _ _ h1 h2 h3 h4) rfl (by simp [okL, SV.ok]) w
    | 27, _ => exact V.evalTL (fun F _ => svX_ok F) (.leaf (.bool true) []) sv27_ev (svR m 27 b [x0, x1, x2, x3, x4, x5, x6, x7, x8, x9, x10, x11, x12, x13, x14, x15, x16, x17, x18, x19, x20]) (svL m b _ _ h1 h2 h3 h4) rfl (by simp [okL, SV.ok]) w
    | 28, _ => exact V.evalTL (fun F _ => svX_ok F) (.leaf (.bool true) []) sv28_ev (svR m 28 b [x0, x1, x2, x3, x4, x5, x6, x7, x8, x9, x10, x11, x12, x13, x14, x15, x16, x17, x18, x19, x20]) (svL m b _ _ h1 h2 h3 h4) rfl (by simp [okL, SV.ok]) w
    | 29, _ => exact V.evalTL (fun F _ => svX_ok F) (.leaf (.bool true) []) sv29_ev (svR m 29 b [x0, x1, x2, x3, x4, x5, x6, x7, x8, x9, x10, x11, x12, x13, x14, x15, x16, x17, x18, x19, x20]) (svL m b _ _ h1 h2 h3 h4) rfl (by simp [okL, SV.ok]) w
    | 30, _ => exact V.evalTL (fun F _ => svX_ok F) (.leaf (.bool true) []) sv30_ev (svR m 30 b [x0, x1, x2, x3, x4, x5, x6, x7, x8, x9, x10, x11, x12, x13, x14, x15, x16, x17, x18, x19, x20]) (svL m b _ _ h1 h2 h3 h4) rfl (by simp [okL, SV.ok]) w
    | 31, _ => exact V.evalTL (fun F _ => svX_ok F) (.leaf (.bool true) []) sv31_ev (svR m 31 b [x0, x1, x2, x3, x4, x5, x6, x7, x8, x9, x10, x11, x12, x13, x14, x15, x16, x17, x18, x19, x20]) (svL m b _ _ h1 h2 h3 h4) rfl (by simp [okL, SV.ok]) w
    | 32, _ => exact V.evalTL (fun F _ => svX_ok F) (.leaf (.bool true) []) sv32_ev (svR m 32 b [x0, x1, x2, x3, x4, x5, x6, x7, x8, x9, x10, x11, x12, x13, x14, x15, x16, x17, x18, x19, x20]) (svL m b _ _ h1 h2 h3 h4) rfl (by simp [okL, SV.ok]) w
    | 33, _ => exact V.evalTL (fun F _ => svX_ok F) (.leaf (.bool true) []) sv33_ev (svR m 33 b [x0, x1, x2, x3, x4, x5, x6, x7, x8, x9, x10, x11, x12, x13, x14, x15, x16, x17, x18, x19, x20]) (svL m b _ _ h1 h2 h3 h4) rfl (by simp [okL, SV.ok]) w
    | 34, _ => exact V.evalTL (fun F _ => svX_ok F) (.leaf (.bool true) []) sv34_ev (svR m 34 b [x0, x1, x2, x3, x4, x5, x6, x7, x8, x9, x10, x11, x12, x13, x14, x15, x16, x17, x18, x19, x20]) (svL m b _ _ h1 h2 h3 h4) rfl (by simp [okL, SV.ok]) w
    | 35, _ => exact V.evalTL (fun F _ => svX_ok F) (.leaf (.bool true) []) sv35_ev (svR m 35 b [x0, x1, x2, x3, x4, x5, x6, x7, x8, x9, x10, x11, x12, x13, x14, x15, x16, x17, x18, x19, x20]) (svL m b _ _ h1 h2 h3 h4) rfl (by simp [okL, SV.ok]) w
    | 36, _ => exact V.evalTL (fun F _ => svX_ok F) (.leaf (.bool true) []) sv36_ev (svR m 36 b [x0, x1, x2, x3, x4, x5, x6, x7, x8, x9, x10, x11, x12, x13, x14, x15, x16, x17, x18, x19, x20]) (svL m b _ _ h1 h2 h3 h4) rfl (by simp [okL, SV.ok]) w
    | 37, _ => exact V.evalTL (fun F _ => svX_ok F) (.leaf (.bool true) []) sv37_ev (svR m 37 b [x0, x1, x2, x3, x4, x5, x6, x7, x8, x9, x10, x11, x12, x13, x14, x15, x16, x17, x18, x19, x20]) (svL m b _ _ h1 h2 h3 h4) rfl (by simp [okL, SV.ok]) w
    | 38, _ => exact V.evalTL (fun F _ => svX_ok F) (.leaf (.bool true) []) sv38_ev (svR m 38 b [x0, x1, x2, x3, x4, x5, x6, x7, x8, x9, x10, x11, x12, x13, x14, x15, x16, x17, x18, x19, x20]) (svL m b _ _ h1 h2 h3 h4) rfl (by simp [okL, SV.ok]) w
    | 39, _ => exact V.evalTL (fun F _ => svX_ok F) (.leaf (.bool true) []) sv39_ev (svR m 39 b [x0, x1, x2, x3, x4, x5, x6, x7, x8, x9, x10, x11, x12, x13, x14, x15, x16, x17, x18, x19, x20]) (svL m b _ _ h1 h2 h3 h4) rfl (by simp [okL, SV.ok]) w
    | 40, _ => exact V.evalTL (fun F _ => svX_ok F) (.leaf (.bool true) []) sv40_ev (svR m 40 b [x0, x1, x2, x3, x4, x5, x6, x7, x8, x9, x10, x11, x12, x13, x14, x15, x16, x17, x18, x19, x20]) (svL m b _ _ h1 h2 h3 h4) rfl (by simp [okL, SV.ok]) w
    | 41, _ => exact V.evalTL (fun F _ => svX_ok F) (.leaf (.bool true) []) sv41_ev (svR m 41 b [x0, x1, x2, x3, x4, x5, x6, x7, x8, x9, x10, x11, x12, x13, x14, x15, x16, x17, x18, x19, x20]) (svL m b _ _ h1 h2 h3 h4) rfl (by simp [okL, SV.ok]) w
    | 42, _ => exact V.evalTL (fun F _ => svX_ok F) (.leaf (.bool true) []) sv42_ev (svR m 42 b [x0, x1, x2, x3, x4, x5, x6, x7, x8, x9, x10, x11, x12, x13, x14, x15, x16, x17, x18, x19, x20]) (svL m b _ _ h1 h2 h3 h4) rfl (by simp [okL, SV.ok]) w
    | 43, _ => exact V.evalTL (fun F _ => svX_ok F) (.leaf (.bool true) []) sv43_ev (svR m 43 b [x0, x1, x2, x3, x4, x5, x6, x7, x8, x9, x10, x11, x12, x13, x14, x15, x16, x17, x18, x19, x20]) (svL m b _ _ h1 h2 h3 h4) rfl (by simp [okL, SV.ok]) w
    | 44, _ => exact V.evalTL (fun F _ => svX_ok F) (.leaf (.bool true) []) sv44_ev (svR m 44 b [x0, x1, x2, x3, x4, x5, x6, x7, x8, x9, x10, x11, x12, x13, x14, x15, x16, x17, x18, x19, x20]) (svL m b _ _ h1 h2 h3 h4) rfl (by simp [okL, SV.ok]) w
    | 45, _ => exact V.evalTL (fun F _ => svX_ok F) (.leaf (.bool true) []) sv45_ev (svR m 45 b [x0, x1, x2, x3, x4, x5, x6, x7, x8, x9, x10, x11, x12, x13, x14, x15, x16, x17, x18, x19, x20]) (svL m b _ _ h1 h2 h3 h4) rfl (by simp [okL, SV.ok]) w
    | 46, _ => exact V.evalTL (fun F _ => svX_ok F) (.leaf (.bool true) []) sv46_ev (svR m 46 b [x0, x1, x2, x3, x4, x5, x6, x7, x8, x9, x10, x11, x12, x13, x14, x15, x16, x17, x18, x19, x20]) (svL m b _ _ h1 h2 h3 h4) rfl (by simp [okL, SV.ok]) w
    | 47, _ => exact V.evalTL (fun F _ => svX_ok F) (.leaf (.bool true) []) sv47_ev (svR m 47 b [x0, x1, x2, x3, x4, x5, x6, x7, x8, x9, x10, x11, x12, x13, x14, x15, x16, x17, x18, x19, x20]) (svL m b _ _ h1 h2 h3 h4) rfl (by simp [okL, SV.ok]) w
    | 48, _ => exact V.evalTL (fun F _ => svX_ok F) (.leaf (.bool true) []) sv48_ev (svR m 48 b [x0, x1, x2, x3, x4, x5, x6, x7, x8, x9, x10, x11, x12, x13, x14, x15, x16, x17, x18, x19, x20]) (svL m b _ _ h1 h2 h3 h4) rfl (by simp [okL, SV.ok]) w
    | 49, _ => exact V.evalTL (fun F _ => svX_ok F) (.leaf (.bool true) []) sv49_ev (svR m 49 b [x0, x1, x2, x3, x4, x5, x6, x7, x8, x9, x10, x11, x12, x13, x14, x15, x16, x17, x18, x19, x20]) (svL m b _ _ h1 h2 h3 h4) rfl (by simp [okL, SV.ok]) w
    | 50, _ => exact V.evalTL (fun F _ => svX_ok F) (.leaf (.bool true) []) sv50_ev (svR m 50 b [x0, x1, x2, x3, x4, x5, x6, x7, x8, x9, x10, x11, x12, x13, x14, x15, x16, x17, x18, x19, x20]) (svL m b _ _ h1 h2 h3 h4) rfl (by simp [okL, SV.ok]) w
    | 51, _ => exact V.evalTL (fun F _ => svX_ok F) (.leaf (.bool true) []) sv51_ev (svR m 51 b [x0, x1, x2, x3, x4, x5, x6, x7, x8, x9, x10, x11, x12, x13, x14, x15, x16, x17, x18, x19, x20]) (svL m b _ _ h1 h2 h3 h4) rfl (by simp [okL, SV.ok]) w
    | 52, _ => exact V.evalTL (fun F _ => svX_ok F) (.leaf (.bool true) []) sv52_ev (svR m 52 b [x0, x1, x2, x3, x4, x5, x6, x7, x8, x9, x10, x11, x12, x13, x14, x15, x16, x17, x18, x19, x20]) (svL m b _ _ h1 h2 h3 h4) rfl (by simp [okL, SV.ok]) w
    | 53, _ => exact V.evalTL (fun F _ => svX_ok F) (.leaf (.bool true) []) sv53_ev (svR m 53 b [x0, x1, x2, x3, x4, x5, x6, x7, x8, x9, x10, x11, x12, x13, x14, x15, x16, x17, x18, x19, x20]) (svL m b _ _ h1 h2 h3 h4) rfl (by simp [okL, SV.ok]) w
    | 54, _ => exact V.evalTL (fun F _ => svX_ok F) (.leaf (.bool true) []) sv54_ev (svR m 54 b [x0, x1, x2, x3, x4, x5, x6, x7, x8, x9, x10, x11, x12, x13, x14, x15, x16, x17, x18, x19, x20]) (svL m b _ _ h1 h2 h3 h4) rfl (by simp [okL, SV.ok]) w
    | 55, _ => exact V.evalTL (fun F _ => svX_ok F) (.leaf (.bool true) []) sv55_ev (svR m 55 b [x0, x1, x2, x3, x4, x5, x6, x7, x8, x9, x10, x11, x12, x13, x14, x15, x16, x17, x18, x19, x20]) (svL m b _ _ h1 h2 h3 h4) rfl (by simp [okL, SV.ok]) w
    | 56, _ => exact V.evalTL (fun F _ => svX_ok F) (.leaf (.bool true) []) sv56_ev (svR m 56 b [x0, x1, x2, x3, x4, x5, x6, x7, x8, x9, x10, x11, x12, x13, x14, x15, x16, x17, x18, x19, x20]) (svL m b _ _ h1 h2 h3 h4) rfl (by simp [okL, SV.ok]) w
    | 57, _ => exact V.evalTL (fun F _ => svX_ok F) (.leaf (.bool true) []) sv57_ev (svR m 57 b [x0, x1, x2, x3, x4, x5, x6, x7, x8, x9, x10, x11, x12, x13, x14, x15, x16, x17, x18, x19, x20]) (svL m b _ _ h1 h2 h3 h4) rfl (by simp [okL, SV.ok]) w
    | 58, _ => exact V.evalTL (fun F _ => svX_ok F) (.leaf (.bool true) []) sv58_ev (svR m 58 b [x0, x1, x2, x3, x4, x5, x6, x7, x8, x9, x10, x11, x12, x13, x14, x15, x16, x17, x18, x19, x20]) (svL m b _ _ h1 h2 h3 h4) rfl (by simp [okL, SV.ok]) w
    | 59, _ => exact V.evalTL (fun F _ => svX_ok F) (.leaf (.bool true) []) sv59_ev (svR m 59 b [x0, x1, x2, x3, x4, x5, x6, x7, x8, x9, x10, x11, x12, x13, x14, x15, x16, x17, x18, x19, x20]) (svL m b _ _ h1 h2 h3 h4) rfl (by simp [okL, SV.ok]) w
    | 60, _ => exact V.evalTL (fun F _ => svX_ok F) (.leaf (.bool true) []) sv60_ev (svR m 60 b [x0, x1, x2, x3, x4, x5, x6, x7, x8, x9, x10, x11, x12, x13, x14, x15, x16, x17, x18, x19, x20]) (svL m b _ _ h1 h2 h3 h4) rfl (by simp [okL, SV.ok]) w
    | 61, _ => exact V.evalTL (fun F _ => svX_ok F) (.leaf (.bool true) []) sv61_ev (svR m 61 b [x0, x1, x2, x3, x4, x5, x6, x7, x8, x9, x10, x11, x12, x13, x14, x15, x16, x17, x18, x19, x20]) (svL m b _ _ h1 h2 h3 h4) rfl (by simp [okL, SV.ok]) w
    | 62, _ => exact V.evalTL (fun F _ => svX_ok F) (.leaf (.bool true) []) sv62_ev (svR m 62 b [x0, x1, x2, x3, x4, x5, x6, x7, x8, x9, x10, x11, x12, x13, x14, x15, x16, x17, x18, x19, x20]) (svL m b _ _ h1 h2 h3 h4) rfl (by simp [okL, SV.ok]) w
    | 63, _ => exact V.evalTL (fun F _ => svX_ok F) (.leaf (.bool true) []) sv63_ev (svR m 63 b [x0, x1, x2, x3, x4, x5, x6, x7, x8, x9, x10, x11, x12, x13, x14, x15, x16, x17, x18, x19, x20]) (svL m b _ _ h1 h2 h3 h4) rfl (by simp [okL, SV.ok]) w
    | 64, _ => exact V.evalTL (fun F _ => svX_ok F) (.leaf (.bool true) []) sv64_ev (svR m 64 b [x0, x1, x2, x3, x4, x5, x6, x7, x8, x9, x10, x11, x12, x13, x14, x15, x16, x17, x18, x19, x20]) (svL m b _ _ h1 h2 h3 h4) rfl (by simp [okL, SV.ok]) w
    | k + 65, h => exact absurd h.2 (by omega)
theorem serverMakes_any (z0 : List Int) (h0 : z0.length = 3) (z1 : List Int) (h1 : z1.length = 21) (w : World) :
    Calls Tryz.prog 6 #[Ev.ivs z0, Ev.ivs z1] w fun e w' => e = .returned (.bool true) ∧ Same w w' := by
  match z0, h0 with
  | [m, s, b], _ =>
    by_cases hf : (1 ≤ m ∧ m ≤ 1048576) ∧ (1 ≤ s ∧ s ≤ 64) ∧ 0 ≤ b ∧ b ≤ 1000
    · obtain ⟨⟨a1, a2⟩, ⟨a3, a4⟩, a5, a6⟩ := hf
      have hs : s = ((s.toNat : Nat) : Int) := by omega
      rw [hs]
      exact svFair m b z1 h1 a1 a2 a5 a6 s.toNat ⟨by omega, by omega⟩ w
    · match z1, h1 with
      | [x0, x1, x2, x3, x4, x5, x6, x7, x8, x9, x10, x11, x12, x13, x14, x15, x16, x17, x18, x19, x20], _ =>
        refine V.evalS (fun F _ => svX_ok F) svB_ev (svR m s b [x0, x1, x2, x3, x4, x5, x6, x7, x8, x9, x10, x11, x12, x13, x14, x15, x16, x17, x18, x19, x20]) (v := .bool true) (F := []) ?_ (by simp [okL, SV.ok]) trivial w
        simp only [svDT, V.DT.pick, Tm.den, tdenL, Th.lss_, Th.ofI_]
        simp only [svR, List.getD_cons_zero, List.getD_cons_succ]
        change (bif decide (m < 1) then (bif decide (s < 1) then some (SV.bool true, []) else (bif decide (64 < s) then some (SV.bool true, []) else (bif decide (b < 0) then some (SV.bool true, []) else (bif decide (1000 < b) then some (SV.bool true, []) else some (SV.bool true, []))))) else (bif decide (1048576 < m) then (bif decide (s < 1) then some (SV.bool true, []) else (bif decide (64 < s) then some (SV.bool true, []) else (bif decide (b < 0) then some (SV.bool true, []) else (bif decide (1000 < b) then some (SV.bool true, []) else some (SV.bool true, []))))) else (bif decide (s < 1) then some (SV.bool true, []) else (bif decide (64 < s) then some (SV.bool true, []) else (bif decide (b < 0) then some (SV.bool true, []) else (bif decide (1000 < b) then some (SV.bool true, []) else none)))))) = some (SV.bool true, [])
        cases h1 : decide (m < 1) <;> cases h2 : decide (1048576 < m) <;> cases h3 : decide (s < 1) <;> cases h4 : decide (64 < s) <;> cases h5 : decide (b < 0) <;> cases h6 : decide (1000 < b) <;> first
          | rfl
          | (simp only [decide_eq_false_iff_not] at h1 h2 h3 h4 h5 h6; exact absurd (by omega) hf)
end Go.Proofs.YtgjciacffgiijaaGreat
