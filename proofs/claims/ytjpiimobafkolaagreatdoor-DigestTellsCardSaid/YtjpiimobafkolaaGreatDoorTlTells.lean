/-
  DigestTells answers true for every input, and leaves what was there as it was. The package variables that it reads hold what the program's text lays there: the card ties that.
-/
import Derived.Test.YtjpiimobafkolaaGreatDoorRows
import Derived.Test.YtjpiimobafkolaaGreatDoorLo
import Derived.Test.YtjpiimobafkolaaGreatDoorTlL
import Derived.Test.YtjpiimobafkolaaGreatDoorTlD
import Derived.Test.YtjpiimobafkolaaGreatDoorCards
import Derived.Test.YtjpiimobafkolaaGreatDoorTie
import Derived.SevenTiedAt
import Derived.LaidMore
import Derived.Stop.Joined
import Derived.WalkKit
import Derived.ProofKit
import Derived.OpenShut
import Derived.ShutString
import Derived.ChangeOld
import Derived.Below
namespace Go.Proofs.YtjpiimobafkolaaGreatDoor.digestTells
open Go.Al Go.Proofs.YtjpiimobafkolaaGreatDoor
open Go.ChangeShapes Go.WideShapes Go.ChangeAt Go.RowKit
open Go.ChangeMaps (open_string shut_string)
set_option linter.unusedVariables false

theorem own : ownKnob Tryz.prog.godebug = none := by kernel_rfl
theorem laidOut : laidOutB Tryz.prog = true := laidOutAll

/-- a slice of integers that came in -/
def IsRow (k : IntKind) (w : World) (a : Option Addr) (len cap : Nat) (zs : List Int) : Prop :=
  (a = none ∧ len = 0 ∧ cap = 0 ∧ zs = []) ∨
  ∃ x, a = some x ∧ len ≤ cap ∧ cap ≤ maxLen ∧ zs.length = cap ∧ (∀ i, i < zs.length → w.cell? (x.add i) = some (.int k (zs.getD i 0))) ∧ ∀ n ∈ zs, (Lit.int k n).wf = true
/-- a slice of byte slices that came in -/
def IsRows (e : TypeId) (w : World) (a : Option Addr) (len cap : Nat) (ls : List (List UInt8)) (xs : List Value) : Prop :=
  ls.length = len ∧ Rd w a xs ∧ Rows2 w.heap.size e w xs (ls.map bs) ∧ (∀ l ∈ ls, l.length ≤ maxLen) ∧ len ≤ cap ∧ cap ≤ maxLen

theorem walk (a0 : Option Addr) (len0 cap0 : Nat) (z0 : List Int) (a1 : Option Addr) (len1 cap1 : Nat) (l1 : List P3) (a2 : Option Addr) (len2 cap2 : Nat) (l2 : List P3) (w : World) (hl : LaidP w) (w0 : IsRow .u8 w a0 len0 cap0 z0 ∧ ∀ x, a0 = some x → x.block < w.heap.size) (w1 : Row3 w a1 len1 cap1 l1 ∧ ∀ p ∈ l1, Wf3 p) (w2 : Row3 w a2 len2 cap2 l2 ∧ ∀ p ∈ l2, Wf3 p) :
    Calls Tryz.prog 3 #[.slice a0 len0 cap0, .slice a1 len1 cap1, .slice a2 len2 cap2] w fun e w' => e = .returned (.bool true) ∧ Below w.heap.size w w' := by
  obtain ⟨w0, b0⟩ := w0
  have hp : ∀ p ∈ l1, In3 p := fun p hp => in3_of (w1.2 p hp)
  have hs : ∀ p ∈ l2, In3 p := fun p hp => in3_of (w2.2 p hp)
  rcases w0 with ⟨rfl, rfl, rfl, rfl⟩ | ⟨x, rfl, hl', hm, hz, hcell, hwf⟩
  · exact (digestTells_any [] l1 l2 w hl (Rd.nil _ _) rfl (Nat.le_refl _) (Nat.zero_le _) w1.1 w2.1 hp hs).mono fun e w' ⟨he, hs⟩ => ⟨he, hs.below (Nat.le_refl _) fun _ h => h.elim⟩
  · obtain ⟨b, hb, hr, _⟩ := bytes_in (n := len0) (by omega) hcell hwf
    exact (digestTells_any b l1 l2 w hl hr hb hl' hm w1.1 w2.1 hp hs).mono fun e w' ⟨he, hs⟩ => ⟨he, hs.below (Nat.le_refl _) fun _ h => h.elim⟩

set_option maxRecDepth 100000 in
theorem lifted (os : Os) (started : os.Started) (H : Type) (enc : TypeId × Value → H) :
    ReturnsInHanded {} Tryz.checked os 3 .any (fun w args => (Rows.digestTellsSpec.pre enc Tryz.prog Tryz.f3 [] false w args ∧ laidMetH Tryz.prog Rows.digestTellsRow.laid w) ∧ sizedMet enc Tryz.prog Tryz.f3 (OpenSpec.ofChange Rows.digestTellsSpec) false w args) (Rows.digestTellsSpec.post enc Tryz.prog Tryz.f3 false true false false) := by
  refine returnsInHanded_of_change_and (C := Tryz.checked) (X := fun w _ => laidMetH Tryz.prog Rows.digestTellsRow.laid w) (fun _ _ _ hh h => h.of_heap hh) own started (by kernel_rfl) Tryz.func3
    (ChangeSpec.witness_shaped (enc := enc) (C := Tryz.checked) (os := os) (X := fun w _ => laidMetH Tryz.prog Rows.digestTellsRow.laid w) false (World.doorLaid Tryz.prog 48 os) #[.slice none 0 0, .slice none 0 0, .slice none 0 0] 8 rfl (World.shaped_of_RefB (by kernel_rfl) (by kernel_rfl)) (by kernel_rfl) (by kernel_rfl) (by kernel_rfl) (door_met os _)) ?_
  intro W base args ds gs before hval0 hW _ _ hL _
  have hval : ∀ (j : Nat) t v, Tryz.f3.params[j]? = some t → args[j]? = some v → Value.okWide Tryz.prog W .any base t v := hval0
  have hW' := hW
  obtain ⟨p, q, hA0, hV, rfl, hfz, hnd⟩ := hW
  have hA : DataW.TrodAll enc Tryz.prog W 0 (fun _ => true) true Tryz.f3.params.toList args.toList ds p := hA0
  rw [Tryz.params3] at hA hval
  obtain ⟨v0, vs0, d0, ds0, p0, q0, hargs, rfl, rfl, h0, r0⟩ := trodAll_cons hA
  obtain ⟨v1, vs1, d1, ds1, p1, q1, rfl, rfl, rfl, h1, r1⟩ := trodAll_cons r0
  obtain ⟨v2, vs2, d2, ds2, p2, q2, rfl, rfl, rfl, h2, r2⟩ := trodAll_cons r1
  obtain ⟨rfl, rfl, rfl⟩ := trodAll_nil r2
  obtain rfl : args = #[v0, v1, v2] := by cases args; simp_all
  obtain ⟨rfl, rfl⟩ := trodVars_none hV
  obtain ⟨a0, len0, cap0, rfl⟩ := okWide_slice Tryz.underlying22 (hval 0 22 v0 rfl rfl)
  have k0 := h0
  have lt0 : ∀ x ∈ p0, x.block < W.heap.size := by obtain ⟨m, hm⟩ := k0; exact DataW.trod_lt m _ _ _ hm
  have b0 : ∀ x, a0 = some x → x.block < W.heap.size := fun x hx => by
    subst hx
    exact okWide_blk Tryz.underlying22 (hval 0 22 _ rfl rfl)
  obtain ⟨z0, w0⟩ : ∃ zs, IsRow .u8 W a0 len0 cap0 zs ∧ ∀ x, a0 = some x → x.block < W.heap.size := by
    obtain ⟨fuel, hf⟩ := h0
    rcases open_ints Tryz.underlying22 Tryz.underlying5 (by kernel_rfl) hf with ⟨hcs, _⟩ | ⟨x, l, c, zs, hcs, _, hl, hm, hz, _, hcell, hwz⟩
    · simp [Value.cells] at hcs
      obtain ⟨rfl, rfl, rfl⟩ := hcs
      exact ⟨[], .inl ⟨rfl, rfl, rfl, rfl⟩, b0⟩
    · simp [Value.cells] at hcs
      obtain ⟨rfl, rfl, rfl⟩ := hcs
      exact ⟨zs, .inr ⟨_, rfl, hl, hm, by simpa using hz, hcell, hwz⟩, b0⟩
  obtain ⟨a1, len1, cap1, rfl⟩ := okWide_slice Tryz.underlying23 (hval 1 23 v1 rfl rfl)
  have k1 := h1
  have lt1 : ∀ x ∈ p1, x.block < W.heap.size := by obtain ⟨m, hm⟩ := k1; exact DataW.trod_lt m _ _ _ hm
  obtain ⟨l1, w1⟩ : ∃ ls, Row3 W a1 len1 cap1 ls ∧ ∀ p ∈ ls, Wf3 p := by
    obtain ⟨fuel, hf⟩ := h1
    exact open_pts (hval 1 23 _ rfl rfl) hf
  obtain ⟨a2, len2, cap2, rfl⟩ := okWide_slice Tryz.underlying24 (hval 2 24 v2 rfl rfl)
  have k2 := h2
  have lt2 : ∀ x ∈ p2, x.block < W.heap.size := by obtain ⟨m, hm⟩ := k2; exact DataW.trod_lt m _ _ _ hm
  obtain ⟨l2, w2⟩ : ∃ ls, Row3 W a2 len2 cap2 ls ∧ ∀ p ∈ ls, Wf3 p := by
    obtain ⟨fuel, hf⟩ := h2
    exact open_sps (hval 2 24 _ rfl rfl) hf
  clear hA0 hval0
  refine (walk a0 len0 cap0 z0 a1 len1 cap1 l1 a2 len2 cap2 l2 W (laid_of hL) w0 w1 w2).mono fun e W' ⟨he, bel⟩ => ?_
  subst he
  exact ⟨_, rfl, _, _, _, [], _, [], hW', trodAll_mk1 (shut_bool Tryz.underlying4 _), (trodAll_cons_mk (Below.trod laidOut (by kernel_rfl) (of_decide_eq_true (by kernel_rfl)) k0 bel lt0) (trodAll_cons_mk (Below.trod laidOut (by kernel_rfl) (of_decide_eq_true (by kernel_rfl)) k1 bel lt1) (trodAll_cons_mk (Below.trod laidOut (by kernel_rfl) (of_decide_eq_true (by kernel_rfl)) k2 bel lt2) trodAll_mk0))), rfl, bel.frame _, fun h => by cases h⟩

/- the closed facts, one by one: the kernel's memory does not hold them all at once -/
theorem closedA : Tryz.pinned.checked.prog.inPlace 3 = Rows.digestTellsRow.inPlace := by kernel_rfl
theorem closedB : Tryz.pinned.checked.prog.unfollowed 3 = Rows.digestTellsRow.unfollowed := by kernel_rfl
theorem closedC : Tryz.pinned.checked.prog.recurses 3 = Rows.digestTellsRow.recurses := by kernel_rfl
theorem closedD : Tryz.pinned.checked.prog.varsNamed 3 = Rows.digestTellsRow.named := by kernel_rfl
theorem closedE : laidOutB Tryz.pinned.checked.prog = true := laidOutAll
theorem closedF : mapsRowed Tryz.pinned.checked.prog = true := by kernel_rfl
theorem closedG : Tryz.pinned.checked.prog.plainKeys = Rows.digestTellsRow.plainKeys := by kernel_rfl
theorem closedH : Tryz.pinned.checked.prog.stopsHeard = true := by kernel_rfl
theorem closedI : Tryz.pinned.checked.prog.mayEnter = true := by kernel_rfl
theorem closedJ : Tryz.pinned.checked.prog.liftsFinal = Rows.digestTellsRow.lifted := by kernel_rfl
theorem closed : joinedFacts Tryz.pinned.checked.prog 3 Tryz.f3 Rows.digestTellsSpec Rows.digestTellsRow = true := by
  unfold joinedFacts
  rw [closedA, closedB, closedC, closedD, closedE, closedF, closedG, closedH, closedI, closedJ]
  kernel_rfl
theorem named : Tryz.pinned.checked.prog.funcNamed Rows.digestTellsRow.func = some 3 := by kernel_rfl
theorem inst : Tryz.f3.isInstance Tryz.pinned.checked.prog Rows.digestTellsRow.origin Rows.digestTellsRow.targs := of_decide_eq_true (by kernel_rfl)
theorem wrap : Tryz.f3.isWrapper Tryz.pinned.checked.prog Rows.digestTellsRow.wrapper Rows.digestTellsRow.mainSum := by
  unfold Func.isWrapper
  first | (rw [if_pos (by decide +kernel)]; kernel_rfl) | (rw [if_neg (by decide +kernel)]; exact ⟨rfl, rfl⟩)
theorem over : Rows.digestTellsRow.holds Tryz.pinned (OpenSpec.ofChange Rows.digestTellsSpec) :=
  OpenClaim.holds_of_wide 3 Tryz.f3 rfl rfl rfl rfl rfl rfl rfl ⟨rfl, rfl, rfl, rfl, rfl⟩ rfl rfl rfl rfl rfl named Tryz.func3 closed inst wrap
    (fun os started H enc _ => lifted os started H enc)

theorem proved : Rows.DigestTellsCardSaid :=
  Claim7.holds_tied_plain_at .later [] [.data, .data, .data] true (true, "87e66f0d32722e047202df5aa97166139ecf785795408b032e195fccb016457f") true
    over (fun _ h => by cases h) (by kernel_rfl) (fun _ h => by cases h) digestTells_row_tie rfl ⟨rfl, rfl⟩ (by kernel_rfl) rfl
    (fun f fn hf hfn => by
      obtain rfl : f = 3 := Option.some.inj ((show Tryz.prog.funcNamed "alidade/alidadelaw40.DigestTells" = some 3 by kernel_rfl).symm.trans hf) |>.symm
      obtain rfl : fn = Tryz.f3 := (Option.some.inj (Tryz.func3.symm.trans hfn)).symm
      exact ⟨by kernel_rfl, fun j t ht => by
        rw [Tryz.params3] at ht
        have hm : t ∈ [22, 23, 24] := by simpa using Array.mem_of_getElem? ht
        have hall : ([22, 23, 24].all fun u => !Tryz.prog.wantsStandIn u) = true := by kernel_rfl
        exact (show Tryz.prog.wantsStandIn t = false by simpa using List.all_eq_true.1 hall t hm)⟩)
    (by kernel_rfl)
#print axioms proved
end Go.Proofs.YtjpiimobafkolaaGreatDoor.digestTells
