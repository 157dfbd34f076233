/-
  CursorMakes: any query. No conditions but those that are named.
-/
import Derived.Test.YtgjciacffgiijaaGreatCm1
import Derived.Test.YtgjciacffgiijaaGreatCm2
import Derived.Test.YtgjciacffgiijaaGreatCm3
import Derived.Test.YtgjciacffgiijaaGreatCm4
import Derived.Test.YtgjciacffgiijaaGreatCm5
import Derived.Test.YtgjciacffgiijaaGreatCm6
import Derived.Test.YtgjciacffgiijaaGreatCm7
import Derived.Test.YtgjciacffgiijaaGreatCmo
namespace Go.Proofs.YtgjciacffgiijaaGreat
open Go.RowKit Go.Al Go.E2
set_option linter.unusedVariables false

theorem cursorMakes_any (m : Int) (z : List Int) (hz : z.length = 10) (o : Int) (w : World) :
    Calls Tryz.prog 3 #[.int .i64 m, Ev.ivs z, .int .i64 o] w fun e w' => e = .returned (.bool true) ∧ Same w w' := by
  match z, hz with
  | [x0, x1, x2, x3, x4, x5, x6, x7, x8, x9], _ =>
    by_cases k1 : x0 = 1
    · subst k1
      exact V.evalT (fun F _ => cmX_ok F) cm1DT cm1_ev cm1_T (cmR m [1, x1, x2, x3, x4, x5, x6, x7, x8, x9] o) (by simp [okL, SV.ok]) w
    by_cases k2 : x0 = 2
    · subst k2
      exact V.evalT (fun F _ => cmX_ok F) cm2DT cm2_ev cm2_T (cmR m [2, x1, x2, x3, x4, x5, x6, x7, x8, x9] o) (by simp [okL, SV.ok]) w
    by_cases k3 : x0 = 3
    · subst k3
      exact V.evalT (fun F _ => cmX_ok F) cm3DT cm3_ev cm3_T (cmR m [3, x1, x2, x3, x4, x5, x6, x7, x8, x9] o) (by simp [okL, SV.ok]) w
    by_cases k4 : x0 = 4
    · subst k4
      exact V.evalT (fun F _ => cmX_ok F) cm4DT cm4_ev cm4_T (cmR m [4, x1, x2, x3, x4, x5, x6, x7, x8, x9] o) (by simp [okL, SV.ok]) w
    by_cases k5 : x0 = 5
    · subst k5
      exact V.evalT (fun F _ => cmX_ok F) cm5DT cm5_ev cm5_T (cmR m [5, x1, x2, x3, x4, x5, x6, x7, x8, x9] o) (by simp [okL, SV.ok]) w
    by_cases k6 : x0 = 6
    · subst k6
      exact V.evalT (fun F _ => cmX_ok F) cm6DT cm6_ev cm6_T (cmR m [6, x1, x2, x3, x4, x5, x6, x7, x8, x9] o) (by simp [okL, SV.ok]) w
    by_cases k7 : x0 = 7
    · subst k7
      exact V.evalT (fun F _ => cmX_ok F) cm7DT cm7_ev cm7_T (cmR m [7, x1, x2, x3, x4, x5, x6, x7, x8, x9] o) (by simp [okL, SV.ok]) w
    refine V.evalTL (fun F _ => cmX_ok F) cmoDT cmo_ev (cmR m [x0, x1, x2, x3, x4, x5, x6, x7, x8, x9] o) ?_ ?_ (by simp [okL, SV.ok]) w
    · refine V.DecOk.cons ?_ (V.DecOk.cons ?_ (V.DecOk.cons ?_ (V.DecOk.cons ?_ (V.DecOk.cons ?_ (V.DecOk.cons ?_ (V.DecOk.cons ?_ (V.DecOk.nil _)))))))
      all_goals
        simp only [Tm.den, tdenL, Th.eql_, Th.ofI_, decide_eq_false_iff_not]
        simp only [cmR, List.cons_append, List.nil_append, List.getD_cons_zero, List.getD_cons_succ]
        assumption
    · simp only [cmoDT, V.DT.pick, Tm.den, tdenL, Th.lss_, Th.ofI_]
      simp only [cmR, List.cons_append, List.nil_append, List.getD_cons_zero, List.getD_cons_succ]
      change (bif decide (m < 1) then some (SV.bool true, []) else bif decide (1048576 < m) then some (SV.bool true, []) else bif decide (x0 < 5) then some (SV.bool true, []) else bif decide (7 < x0) then some (SV.bool true, []) else none) = some (SV.bool true, [])
      by_cases c1 : m < 1
      · rw [decide_eq_true c1]; rfl
      rw [decide_eq_false c1, cond_false]
      by_cases c2 : 1048576 < m
      · rw [decide_eq_true c2]; rfl
      rw [decide_eq_false c2, cond_false]
      by_cases c3 : x0 < 5
      · rw [decide_eq_true c3]; rfl
      rw [decide_eq_false c3, cond_false, decide_eq_true (show (7 : Int) < x0 by omega)]
      rfl
end Go.Proofs.YtgjciacffgiijaaGreat
