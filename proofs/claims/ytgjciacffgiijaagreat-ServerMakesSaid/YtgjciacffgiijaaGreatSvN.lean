/-
  ServerMakes answers true for every input, and leaves what was there as it was. No conditions.
-/
import Derived.Test.YtgjciacffgiijaaGreatRows
import Derived.Test.YtgjciacffgiijaaGreatLo
import Derived.Test.YtgjciacffgiijaaGreatSvA
import Derived.WalkKit
import Derived.ProofKit
import Derived.OpenShut
import Derived.ShutString
import Derived.ChangeOld
import Derived.Below
namespace Go.Proofs.YtgjciacffgiijaaGreat.serverMakes
open Go.Al Go.Proofs.YtgjciacffgiijaaGreat
open Go.ChangeShapes Go.WideShapes Go.ChangeAt Go.RowKit
open Go.ChangeMaps (open_string shut_string)
set_option linter.unusedVariables false

theorem own : ownKnob Tryz.prog.godebug = none := by kernel_rfl
theorem laidOut : laidOutB Tryz.prog = true := laidOutAll

/-- a slice of integers that came in -/
def IsRow (k : IntKind) (w : World) (a : Option Addr) (len cap : Nat) (zs : List Int) : Prop :=
  (a = none ∧ len = 0 ∧ cap = 0 ∧ zs = []) ∨
  ∃ x, a = some x ∧ len ≤ cap ∧ cap ≤ maxLen ∧ zs.length = cap ∧ (∀ i, i < zs.length → w.cell? (x.add i) = some (.int k (zs.getD i 0))) ∧ ∀ n ∈ zs, (Lit.int k n).wf = true
/-- a slice of byte slices that came in -/
def IsRows (e : TypeId) (w : World) (a : Option Addr) (len cap : Nat) (ls : List (List UInt8)) (xs : List Value) : Prop :=
  ls.length = len ∧ Rd w a xs ∧ Rows2 w.heap.size e w xs (ls.map bs) ∧ (∀ l ∈ ls, l.length ≤ maxLen) ∧ len ≤ cap ∧ cap ≤ maxLen

theorem walk (z0 : List Int) (z1 : List Int) (w : World) (w0 : z0.length = 3 ∧ Ev.WfL z0) (w1 : z1.length = 21 ∧ Ev.WfL z1) :
    Calls Tryz.prog 6 #[Ev.ivs z0, Ev.ivs z1] w fun e w' => e = .returned (.bool true) ∧ Below w.heap.size w w' := by
  exact (serverMakes_any z0 w0.1 z1 w1.1 w).mono fun e w' ⟨he, hs⟩ => ⟨he, hs.below (Nat.le_refl _) fun _ h => h.elim⟩

set_option maxRecDepth 100000 in
theorem lifted (os : Os) (started : os.Started) (H : Type) (enc : TypeId × Value → H) :
    ReturnsInHanded {} Tryz.checked os 6 .any (Rows.serverMakesSpec.pre6 enc Tryz.prog Tryz.f6 Rows.serverMakesRow.domain false) (Rows.serverMakesSpec.post enc Tryz.prog Tryz.f6 false true false false) := by
  refine returnsInHanded_of_change (C := Tryz.checked) own started (by kernel_rfl) Tryz.func6
    (ChangeSpec.witness6 (enc := enc) (C := Tryz.checked) false ⟨#[], #[.agg #[.int .i64 0, .int .i64 0, .int .i64 0], .agg #[.int .i64 0, .int .i64 0, .int .i64 0, .int .i64 0, .int .i64 0, .int .i64 0, .int .i64 0, .int .i64 0, .int .i64 0, .int .i64 0, .int .i64 0, .int .i64 0, .int .i64 0, .int .i64 0, .int .i64 0, .int .i64 0, .int .i64 0, .int .i64 0, .int .i64 0, .int .i64 0, .int .i64 0]], []⟩ 8 (by kernel_rfl) (by kernel_rfl) (by kernel_rfl) (by kernel_rfl)) ?_
  intro W base args ds gs before hval0 hW hcnd _
  have hval : ∀ (j : Nat) t v, Tryz.f6.params[j]? = some t → args[j]? = some v → Value.okWide Tryz.prog W .any base t v := hval0
  have hW' := hW
  obtain ⟨p, q, hA0, hV, rfl, hfz, hnd⟩ := hW
  have hA : DataW.TrodAll enc Tryz.prog W 0 (fun _ => true) true Tryz.f6.params.toList args.toList ds p := hA0
  rw [Tryz.params6] at hA hval
  obtain ⟨v0, vs0, d0, ds0, p0, q0, hargs, rfl, rfl, h0, r0⟩ := trodAll_cons hA
  obtain ⟨v1, vs1, d1, ds1, p1, q1, rfl, rfl, rfl, h1, r1⟩ := trodAll_cons r0
  obtain ⟨rfl, rfl, rfl⟩ := trodAll_nil r1
  obtain rfl : args = #[v0, v1] := by cases args; simp_all
  obtain ⟨rfl, rfl⟩ := trodVars_none hV
  have k0 := h0
  have lt0 : ∀ x ∈ p0, x.block < W.heap.size := by obtain ⟨m, hm⟩ := k0; exact DataW.trod_lt m _ _ _ hm
  obtain ⟨z0, rfl, w0⟩ := Ev.open_flat Tryz.underlying69 (m := 3) (by kernel_rfl) (by kernel_rfl) (hval 0 69 v0 rfl rfl) h0
  have k1 := h1
  have lt1 : ∀ x ∈ p1, x.block < W.heap.size := by obtain ⟨m, hm⟩ := k1; exact DataW.trod_lt m _ _ _ hm
  obtain ⟨z1, rfl, w1⟩ := Ev.open_flat Tryz.underlying73 (m := 21) (by kernel_rfl) (by kernel_rfl) (hval 1 73 v1 rfl rfl) h1
  clear hA0 hval0
  refine (walk z0 z1 W w0 w1).mono fun e W' ⟨he, bel⟩ => ?_
  subst he
  exact ⟨_, rfl, _, _, _, [], _, [], hW', trodAll_mk1 (shut_bool Tryz.underlying4 _), (trodAll_cons_mk (Below.trod laidOut (by kernel_rfl) (of_decide_eq_true (by kernel_rfl)) k0 bel lt0) (trodAll_cons_mk (Below.trod laidOut (by kernel_rfl) (of_decide_eq_true (by kernel_rfl)) k1 bel lt1) trodAll_mk0)), rfl, bel.frame _, fun h => by cases h⟩

/- the closed facts, one by one: the kernel's memory does not hold them all at once -/
theorem closedA : Tryz.pinned.checked.prog.inPlace 6 = Rows.serverMakesRow.inPlace := by kernel_rfl
theorem closedB : Tryz.pinned.checked.prog.unfollowed 6 = Rows.serverMakesRow.unfollowed := by kernel_rfl
theorem closedC : Tryz.pinned.checked.prog.recurses 6 = Rows.serverMakesRow.recurses := by kernel_rfl
theorem closedD : Tryz.pinned.checked.prog.varsNamed 6 = Rows.serverMakesRow.named := by kernel_rfl
theorem closedE : laidOutB Tryz.pinned.checked.prog = true := laidOutAll
theorem closedF : mapsRowed Tryz.pinned.checked.prog = true := by kernel_rfl
theorem closedG : Tryz.pinned.checked.prog.plainKeys = Rows.serverMakesRow.plainKeys := by kernel_rfl
theorem closedH : Tryz.pinned.checked.prog.stopsHeard = true := by kernel_rfl
theorem closedI : Tryz.pinned.checked.prog.mayEnter = true := by kernel_rfl
theorem closedJ : Tryz.pinned.checked.prog.liftsFinal = Rows.serverMakesRow.lifted := by kernel_rfl
theorem closed : joinedFacts Tryz.pinned.checked.prog 6 Tryz.f6 Rows.serverMakesSpec Rows.serverMakesRow = true := by
  unfold joinedFacts
  rw [closedA, closedB, closedC, closedD, closedE, closedF, closedG, closedH, closedI, closedJ]
  kernel_rfl
theorem named : Tryz.pinned.checked.prog.funcNamed Rows.serverMakesRow.func = some 6 := by kernel_rfl
theorem inst : Tryz.f6.isInstance Tryz.pinned.checked.prog Rows.serverMakesRow.origin Rows.serverMakesRow.targs := of_decide_eq_true (by kernel_rfl)
theorem wrap : Tryz.f6.isWrapper Tryz.pinned.checked.prog Rows.serverMakesRow.wrapper Rows.serverMakesRow.mainSum := by
  unfold Func.isWrapper
  first | (rw [if_pos (by decide +kernel)]; kernel_rfl) | (rw [if_neg (by decide +kernel)]; exact ⟨rfl, rfl⟩)
theorem over : Rows.serverMakesRow.holds Tryz.pinned (OpenSpec.ofChange Rows.serverMakesSpec) :=
  OpenClaim.holds_of_wide 6 Tryz.f6 rfl rfl rfl rfl rfl rfl rfl ⟨rfl, rfl, rfl, rfl, rfl⟩ rfl rfl rfl rfl rfl named Tryz.func6 closed inst wrap
    (fun os started H enc _ => lifted os started H enc)

theorem proved : Rows.ServerMakesSaid := over
#print axioms proved
end Go.Proofs.YtgjciacffgiijaaGreat.serverMakes
