/-
  No cell of these rows narrows 'for every input' (looked for: loops, veiled, ifaces, maps, wideKeys, modest, calm, conditions, laid).
  DERIVED. THE GIVEN ROWS OF THIS SEAT. 3 by the template 'for every input the law returns true; each argument reads behind the call as it read before'; 0 by the template 'total and deterministic' (their statements: YtopkdiiigidfdaaGreatTotals.lean).
  GIVEN WITH THE SEED: the statements are not yours to turn. If you find one false, say at which input.
  Laid BY PROGRAM, IN A SANDBOX (cutbox-rows.mjs): the forced cells as the released guide's own fill.sh prints them over the translation 5abbc85911bb6b0e… (all of the seat's roots in one cut). By AI agents, Wed Nov 11 2026. No macro, syntax, notation, axiom, sorry.
-/
import Derived.Test.YtopkdiiigidfdaaGreatChecked
import GoSem.Claim
import GoSem.ClaimJoined
import GoSem.ClaimMapViews
import Derived.JoinedTies
import Derived.KernelRfl
namespace Go.Proofs.YtopkdiiigidfdaaGreat
/- THE CELL 'sum', in the pinned program and in every row, IS THE sha256 OF THE DUMP (.gsa) THAT YtopkdiiigidfdaaGreatProg.lean LOADS. Nothing in Lean hashes anything: it is a label: what it is worth is what the hold of that sum in a sandbox is worth. -/
noncomputable def Tryz.pinned : Pinned := { name := "ytopkdiiigidfdaagreat", sum := "5abbc85911bb6b0e0d7f841c95f334e72150630252c943d3d0c68c36b39087b8", checked := Tryz.checked }
namespace Rows
def none {H : Type} : Left H := { results := [], args := [] }

/-- 'alidadelaw27.WriteNone': WHATEVER THE INPUT: true; the input reads as it did. -/
def writeNoneSpec : ChangeSpec := { name := "writeNone", fn := fun _ => fun
  | [d] => { results := [.lit (.bool true)], args := [d] }
  | _ => none }
def writeNoneRow : OpenClaim := { program := "ytopkdiiigidfdaagreat", sum := "5abbc85911bb6b0e0d7f841c95f334e72150630252c943d3d0c68c36b39087b8", func := "alidade/alidadelaw27.WriteNone", spec := "writeNone", inPlace := ["slices.overlaps[alidade/api.Point]", "slices.overlaps[alidade/api.Span]"], unfollowed := true, recurses := true, plainKeys := false, apart := false }
def WriteNoneSaid : Prop := writeNoneRow.holds Tryz.pinned (OpenSpec.ofChange writeNoneSpec)

/-- ITS FALSE NEIGHBOUR: 'it returns false'. Refute it at one input. -/
def writeNoneWrong : ChangeSpec := { name := "writeNone", fn := fun _ => fun
  | [d] => { results := [.lit (.bool false)], args := [d] }
  | _ => none }
def WriteNoneWrongFalsely : Prop := writeNoneRow.holds Tryz.pinned (OpenSpec.ofChange writeNoneWrong)

/-- 'alidadelaw40.DigestWrites': WHATEVER THE INPUT: true; the input reads as it did. -/
def digestWritesSpec : ChangeSpec := { name := "digestWrites", fn := fun _ => fun
  | [d1, d2] => { results := [.lit (.bool true)], args := [d1, d2] }
  | _ => none }
def digestWritesRow : OpenClaim := { program := "ytopkdiiigidfdaagreat", sum := "5abbc85911bb6b0e0d7f841c95f334e72150630252c943d3d0c68c36b39087b8", func := "alidade/alidadelaw40.DigestWrites", spec := "digestWrites", inPlace := ["slices.overlaps[alidade/api.Point]", "slices.overlaps[alidade/api.Span]"], unfollowed := true, recurses := true, plainKeys := false, apart := false }
def DigestWritesSaid : Prop := digestWritesRow.holds Tryz.pinned (OpenSpec.ofChange digestWritesSpec)

/-- ITS FALSE NEIGHBOUR: 'it returns false'. Refute it at one input. -/
def digestWritesWrong : ChangeSpec := { name := "digestWrites", fn := fun _ => fun
  | [d1, d2] => { results := [.lit (.bool false)], args := [d1, d2] }
  | _ => none }
def DigestWritesWrongFalsely : Prop := digestWritesRow.holds Tryz.pinned (OpenSpec.ofChange digestWritesWrong)

/-- 'alidadelaw40.DigestReads': WHATEVER THE INPUT: true; the input reads as it did. -/
def digestReadsSpec : ChangeSpec := { name := "digestReads", fn := fun _ => fun
  | [d1, d2, d3] => { results := [.lit (.bool true)], args := [d1, d2, d3] }
  | _ => none }
def digestReadsRow : OpenClaim := { program := "ytopkdiiigidfdaagreat", sum := "5abbc85911bb6b0e0d7f841c95f334e72150630252c943d3d0c68c36b39087b8", func := "alidade/alidadelaw40.DigestReads", spec := "digestReads", inPlace := ["slices.overlaps[alidade/api.Point]", "slices.overlaps[alidade/api.Span]"], unfollowed := true, recurses := true, plainKeys := false, apart := false }
def DigestReadsSaid : Prop := digestReadsRow.holds Tryz.pinned (OpenSpec.ofChange digestReadsSpec)

/-- ITS FALSE NEIGHBOUR: 'it returns false'. Refute it at one input. -/
def digestReadsWrong : ChangeSpec := { name := "digestReads", fn := fun _ => fun
  | [d1, d2, d3] => { results := [.lit (.bool false)], args := [d1, d2, d3] }
  | _ => none }
def DigestReadsWrongFalsely : Prop := digestReadsRow.holds Tryz.pinned (OpenSpec.ofChange digestReadsWrong)

/- THE SECOND FORM. 'bulk': how many values and letters a reading holds, each counted each time it is reached (what is shared counts as often as it is met; a slice's spare places count too). A statement '..UptoSaid' is the law's where the arguments, and the package variables that the reading takes, are together of bulk at most 1048576: NARROWER than '..Said'. Prove '..Said' where nothing that the law and all that it calls make is longer than what came in: it says more and counts as full. Else prove '..UptoSaid'. A law counts once. -/
mutual
def uptoBulk {H : Type} : DataW H → Nat
  | .lit (.string bytes) => bytes.length + 1
  | .lit _ => 1
  | .nil => 1
  | .ptr d => uptoBulk d + 1
  | .slice elems spare => uptoBulkAll elems + uptoBulkAll spare + 1
  | .agg parts => uptoBulkAll parts + 1
  | .iface _ d => uptoBulk d + 1
  | .map entries => uptoBulkEntries entries + 1
  | .held _ => 1
def uptoBulkAll {H : Type} : List (DataW H) → Nat
  | [] => 0
  | d :: r => uptoBulk d + uptoBulkAll r
def uptoBulkEntries {H : Type} : List (Lit × DataW H) → Nat
  | [] => 0
  | x :: r => uptoBulkEntry x + uptoBulkEntries r
def uptoBulkEntry {H : Type} : Lit × DataW H → Nat
  | (.string bytes, d) => bytes.length + uptoBulk d + 1
  | (_, d) => uptoBulk d + 1
 end
def uptoSmall : (H : Type) → List (DataW H) → Bool := fun _ ds => decide (uptoBulkAll ds ≤ 1048576)
def OpenSpec.upto (s : _root_.Go.ChangeSpec) : _root_.Go.OpenSpec := { _root_.Go.OpenSpec.ofChange s with cond := some uptoSmall }

/-- 'alidadelaw27.WriteNone', WHERE WHAT IT READS IS OF BULK AT MOST 1048576: true; the input reads as it did. -/
def writeNoneUptoRow : OpenClaim := { program := "ytopkdiiigidfdaagreat", sum := "5abbc85911bb6b0e0d7f841c95f334e72150630252c943d3d0c68c36b39087b8", func := "alidade/alidadelaw27.WriteNone", spec := "writeNone", inPlace := ["slices.overlaps[alidade/api.Point]", "slices.overlaps[alidade/api.Span]"], unfollowed := true, recurses := true, plainKeys := false, apart := false, narrowed := true }
def WriteNoneUptoSaid : Prop := writeNoneUptoRow.holds Tryz.pinned (OpenSpec.upto writeNoneSpec)

/-- 'alidadelaw40.DigestWrites', WHERE WHAT IT READS IS OF BULK AT MOST 1048576: true; the input reads as it did. -/
def digestWritesUptoRow : OpenClaim := { program := "ytopkdiiigidfdaagreat", sum := "5abbc85911bb6b0e0d7f841c95f334e72150630252c943d3d0c68c36b39087b8", func := "alidade/alidadelaw40.DigestWrites", spec := "digestWrites", inPlace := ["slices.overlaps[alidade/api.Point]", "slices.overlaps[alidade/api.Span]"], unfollowed := true, recurses := true, plainKeys := false, apart := false, narrowed := true }
def DigestWritesUptoSaid : Prop := digestWritesUptoRow.holds Tryz.pinned (OpenSpec.upto digestWritesSpec)

/-- 'alidadelaw40.DigestReads', WHERE WHAT IT READS IS OF BULK AT MOST 1048576: true; the input reads as it did. -/
def digestReadsUptoRow : OpenClaim := { program := "ytopkdiiigidfdaagreat", sum := "5abbc85911bb6b0e0d7f841c95f334e72150630252c943d3d0c68c36b39087b8", func := "alidade/alidadelaw40.DigestReads", spec := "digestReads", inPlace := ["slices.overlaps[alidade/api.Point]", "slices.overlaps[alidade/api.Span]"], unfollowed := true, recurses := true, plainKeys := false, apart := false, narrowed := true }
def DigestReadsUptoSaid : Prop := digestReadsUptoRow.holds Tryz.pinned (OpenSpec.upto digestReadsSpec)

end Rows
end Go.Proofs.YtopkdiiigidfdaaGreat
