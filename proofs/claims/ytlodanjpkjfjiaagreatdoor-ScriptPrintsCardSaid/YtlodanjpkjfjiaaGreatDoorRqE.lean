/-
  Two requests, compared. No conditions.
-/
import Derived.Test.YtlodanjpkjfjiaaGreatDoorScP
namespace Go.Proofs.YtlodanjpkjfjiaaGreatDoor
open Go.RowKit Go.Al
set_option linter.unusedVariables false

/-- two requests, compared -/
def eqR (a b : Rq) : Bool := (decide (a.k = b.k) && (decide (a.c.k = b.c.k) && (decide (a.c.p.1 = b.c.p.1) && (decide (a.c.p.2.1 = b.c.p.2.1) && (decide (a.c.p.2.2 = b.c.p.2.2) && (decide (a.c.s.1 = b.c.s.1) && (decide (a.c.s.2.1 = b.c.s.2.1) && (decide (a.c.s.2.2 = b.c.s.2.2) && (decide (a.q.k = b.q.k) && (decide (a.q.a = b.q.a) && (decide (a.q.b = b.q.b) && (decide (a.q.c = b.q.c) && (decide (a.q.d = b.q.d) && (decide (a.q.e = b.q.e) && (decide (a.q.f = b.q.f) && (decide (a.q.g = b.q.g) && (decide (a.q.x = b.q.x) && decide (a.q.h = b.q.h))))))))))))))))))
theorem eqR_iff (a b : Rq) : eqR a b = true ↔ a = b := by
  obtain ⟨k, ⟨ck, ⟨p1, p2, p3⟩, ⟨s1, s2, s3⟩⟩, ⟨q1, q2, q3, q4, q5, q6, q7, q8, q9, q10⟩⟩ := a
  obtain ⟨k', ⟨ck', ⟨p1', p2', p3'⟩, ⟨s1', s2', s3'⟩⟩, ⟨q1', q2', q3', q4', q5', q6', q7', q8', q9', q10'⟩⟩ := b
  simp only [eqR, Bool.and_eq_true, decide_eq_true_eq, Rq.mk.injEq, Cg.mk.injEq, Qy.mk.injEq, Prod.mk.injEq, and_assoc]
theorem ite_ok {p : Prop} [Decidable p] {b : Bool} {w : World} : (if p then (Result.ok (Value.bool b) w : Result Value) else Result.ok (Value.bool false) w) = Result.ok (Value.bool (decide p && b)) w := by
  by_cases h : p <;> simp [h]
theorem ite_ok' {p : Prop} [Decidable p] {b : Bool} {w : World} : (if p then (Result.ok (Value.bool b) w : Result Value) else Result.ok (Value.bool true) w) = Result.ok (Value.bool (!decide p || b)) w := by
  by_cases h : p <;> simp [h]
theorem eqR_refl (a : Rq) : eqR a a = true := (eqR_iff a a).2 rfl
set_option maxRecDepth 100000 in
set_option maxHeartbeats 4000000 in
theorem eql_req (a b : Rq) (w : World) : (binOp .eql 35 (.agg (rqL a).toArray) (.agg (rqL b).toArray)).run Tryz.prog w = .ok (.bool (eqR a b)) w := by
  obtain ⟨k, ⟨ck, ⟨p1, p2, p3⟩, ⟨s1, s2, s3⟩⟩, ⟨q1, q2, q3, q4, q5, q6, q7, q8, q9, q10⟩⟩ := a
  obtain ⟨k', ⟨ck', ⟨p1', p2', p3'⟩, ⟨s1', s2', s3'⟩⟩, ⟨q1', q2', q3', q4', q5', q6', q7', q8', q9', q10'⟩⟩ := b
  simp only [rqL, cgL, qL, List.cons_append, List.nil_append]
  rw [run_eql_struct]
  go_simp
  simp only [ite_ok, Bool.and_true]
  first | rfl | (unfold eqR; simp)
set_option maxRecDepth 100000 in
set_option maxHeartbeats 4000000 in
theorem neq_req (a b : Rq) (w : World) : (binOp .neq 35 (.agg (rqL a).toArray) (.agg (rqL b).toArray)).run Tryz.prog w = .ok (.bool (!eqR a b)) w := by
  obtain ⟨k, ⟨ck, ⟨p1, p2, p3⟩, ⟨s1, s2, s3⟩⟩, ⟨q1, q2, q3, q4, q5, q6, q7, q8, q9, q10⟩⟩ := a
  obtain ⟨k', ⟨ck', ⟨p1', p2', p3'⟩, ⟨s1', s2', s3'⟩⟩, ⟨q1', q2', q3', q4', q5', q6', q7', q8', q9', q10'⟩⟩ := b
  simp only [rqL, cgL, qL, List.cons_append, List.nil_append]
  rw [run_neq_struct]
  go_simp
  simp only [ite_ok']
  first | rfl | (unfold eqR; simp)
end Go.Proofs.YtlodanjpkjfjiaaGreatDoor
