/-
  AuditQueries answers true for every input, and leaves what was there as it was. No conditions.
-/
import Derived.Test.YthjnecicagmdeaaGreatRows
import Derived.Test.YthjnecicagmdeaaGreatLo
import Derived.Test.YthjnecicagmdeaaGreatAqP
import Derived.Test.YthjnecicagmdeaaGreatGvIn
import Derived.WalkKit
import Derived.ProofKit
import Derived.OpenShut
import Derived.ShutString
import Derived.ChangeOld
import Derived.Below
namespace Go.Proofs.YthjnecicagmdeaaGreat.auditQueries
open Go.Al Go.Proofs.YthjnecicagmdeaaGreat
open Go.ChangeShapes Go.WideShapes Go.ChangeAt Go.RowKit
open Go.ChangeMaps (open_string shut_string)
set_option linter.unusedVariables false

theorem own : ownKnob Tryz.prog.godebug = none := by kernel_rfl
theorem laidOut : laidOutB Tryz.prog = true := laidOutAll

/-- a slice of integers that came in -/
def IsRow (k : IntKind) (w : World) (a : Option Addr) (len cap : Nat) (zs : List Int) : Prop :=
  (a = none ∧ len = 0 ∧ cap = 0 ∧ zs = []) ∨
  ∃ x, a = some x ∧ len ≤ cap ∧ cap ≤ maxLen ∧ zs.length = cap ∧ (∀ i, i < zs.length → w.cell? (x.add i) = some (.int k (zs.getD i 0))) ∧ ∀ n ∈ zs, (Lit.int k n).wf = true
/-- a slice of byte slices that came in -/
def IsRows (e : TypeId) (w : World) (a : Option Addr) (len cap : Nat) (ls : List (List UInt8)) (xs : List Value) : Prop :=
  ls.length = len ∧ Rd w a xs ∧ Rows2 w.heap.size e w xs (ls.map bs) ∧ (∀ l ∈ ls, l.length ≤ maxLen) ∧ len ≤ cap ∧ cap ≤ maxLen

theorem walk (a0 : Option Addr) (len0 cap0 : Nat) (l0 : List (Int × Int × Int)) (b0 : Option Addr) (m0 k0 : Nat) (s0 : List (Int × Int × Int)) (w : World) (w0 : Row3 w a0 len0 cap0 l0 ∧ Row3 w b0 m0 k0 s0) :
    Calls Tryz.prog 3 #[gvV a0 len0 cap0 b0 m0 k0] w fun e w' => e = .returned (.bool true) ∧ Below w.heap.size w w' := by
  exact (V.AqP.law_any (V.AqP.row_in w0.1) (V.AqP.row_in w0.2)).mono fun e w' ⟨he, hs⟩ => ⟨he, hs.below (Nat.le_refl _) fun _ h => h.elim⟩

set_option maxRecDepth 100000 in
theorem lifted (os : Os) (started : os.Started) (H : Type) (enc : TypeId × Value → H) :
    ReturnsInHanded {} Tryz.checked os 3 .any (Rows.auditQueriesSpec.pre6 enc Tryz.prog Tryz.f3 Rows.auditQueriesRow.domain false) (Rows.auditQueriesSpec.post enc Tryz.prog Tryz.f3 false true false false) := by
  refine returnsInHanded_of_change (C := Tryz.checked) own started (by kernel_rfl) Tryz.func3
    (ChangeSpec.witness6 (enc := enc) (C := Tryz.checked) false ⟨#[], #[.agg #[.slice none 0 0, .slice none 0 0]], []⟩ 8 (by kernel_rfl) (by kernel_rfl) (by kernel_rfl) (by kernel_rfl)) ?_
  intro W base args ds gs before hval0 hW hcnd _
  have hval : ∀ (j : Nat) t v, Tryz.f3.params[j]? = some t → args[j]? = some v → Value.okWide Tryz.prog W .any base t v := hval0
  have hW' := hW
  obtain ⟨p, q, hA0, hV, rfl, hfz, hnd⟩ := hW
  have hA : DataW.TrodAll enc Tryz.prog W 0 (fun _ => true) true Tryz.f3.params.toList args.toList ds p := hA0
  rw [Tryz.params3] at hA hval
  obtain ⟨v0, vs0, d0, ds0, p0, q0, hargs, rfl, rfl, h0, r0⟩ := trodAll_cons hA
  obtain ⟨rfl, rfl, rfl⟩ := trodAll_nil r0
  obtain rfl : args = #[v0] := by cases args; simp_all
  obtain ⟨rfl, rfl⟩ := trodVars_none hV
  have kk0 := h0
  have lt0 : ∀ x ∈ p0, x.block < W.heap.size := by obtain ⟨m, hm⟩ := kk0; exact DataW.trod_lt m _ _ _ hm
  obtain ⟨a0, len0, cap0, l0, b0, m0, k0, s0, rfl, w0⟩ := open_given (hval 0 25 v0 rfl rfl) h0
  clear hA0 hval0
  refine (walk a0 len0 cap0 l0 b0 m0 k0 s0 W w0).mono fun e W' ⟨he, bel⟩ => ?_
  subst he
  exact ⟨_, rfl, _, _, _, [], _, [], hW', trodAll_mk1 (shut_bool Tryz.underlying4 _), (trodAll_cons_mk (Below.trod laidOut (by kernel_rfl) (of_decide_eq_true (by kernel_rfl)) kk0 bel lt0) trodAll_mk0), rfl, bel.frame _, fun h => by cases h⟩

/- the closed facts, one by one: the kernel's memory does not hold them all at once -/
theorem closedA : Tryz.pinned.checked.prog.inPlace 3 = Rows.auditQueriesRow.inPlace := by kernel_rfl
theorem closedB : Tryz.pinned.checked.prog.unfollowed 3 = Rows.auditQueriesRow.unfollowed := by kernel_rfl
theorem closedC : Tryz.pinned.checked.prog.recurses 3 = Rows.auditQueriesRow.recurses := by kernel_rfl
theorem closedD : Tryz.pinned.checked.prog.varsNamed 3 = Rows.auditQueriesRow.named := by kernel_rfl
theorem closedE : laidOutB Tryz.pinned.checked.prog = true := laidOutAll
theorem closedF : mapsRowed Tryz.pinned.checked.prog = true := by kernel_rfl
theorem closedG : Tryz.pinned.checked.prog.plainKeys = Rows.auditQueriesRow.plainKeys := by kernel_rfl
theorem closedH : Tryz.pinned.checked.prog.stopsHeard = true := by kernel_rfl
theorem closedI : Tryz.pinned.checked.prog.mayEnter = true := by kernel_rfl
theorem closedJ : Tryz.pinned.checked.prog.liftsFinal = Rows.auditQueriesRow.lifted := by kernel_rfl
theorem closed : joinedFacts Tryz.pinned.checked.prog 3 Tryz.f3 Rows.auditQueriesSpec Rows.auditQueriesRow = true := by
  unfold joinedFacts
  rw [closedA, closedB, closedC, closedD, closedE, closedF, closedG, closedH, closedI, closedJ]
  kernel_rfl
theorem named : Tryz.pinned.checked.prog.funcNamed Rows.auditQueriesRow.func = some 3 := by kernel_rfl
theorem inst : Tryz.f3.isInstance Tryz.pinned.checked.prog Rows.auditQueriesRow.origin Rows.auditQueriesRow.targs := of_decide_eq_true (by kernel_rfl)
theorem wrap : Tryz.f3.isWrapper Tryz.pinned.checked.prog Rows.auditQueriesRow.wrapper Rows.auditQueriesRow.mainSum := by
  unfold Func.isWrapper
  first | (rw [if_pos (by decide +kernel)]; kernel_rfl) | (rw [if_neg (by decide +kernel)]; exact ⟨rfl, rfl⟩)
theorem over : Rows.auditQueriesRow.holds Tryz.pinned (OpenSpec.ofChange Rows.auditQueriesSpec) :=
  OpenClaim.holds_of_wide 3 Tryz.f3 rfl rfl rfl rfl rfl rfl rfl ⟨rfl, rfl, rfl, rfl, rfl⟩ rfl rfl rfl rfl rfl named Tryz.func3 closed inst wrap
    (fun os started H enc _ => lifted os started H enc)

theorem proved : Rows.AuditQueriesSaid := over
#print axioms proved
end Go.Proofs.YthjnecicagmdeaaGreat.auditQueries
