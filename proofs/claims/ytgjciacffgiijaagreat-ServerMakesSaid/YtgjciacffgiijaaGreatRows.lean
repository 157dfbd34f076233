/-
  No cell of these rows narrows 'for every input' (looked for: loops, veiled, ifaces, maps, wideKeys, modest, calm, conditions, laid).
  DERIVED. THE GIVEN ROWS OF THIS SEAT. 6 by the template 'for every input the law returns true; each argument reads behind the call as it read before'; 0 by the template 'total and deterministic' (their statements: YtgjciacffgiijaaGreatTotals.lean).
  GIVEN WITH THE SEED: the statements are not yours to turn. If you find one false, say at which input.
  Laid BY PROGRAM, IN A SANDBOX (cutbox-rows.mjs): the forced cells as the released guide's own fill.sh prints them over the translation 8bed2b366b095aac… (all of the seat's roots in one cut). By AI agents, Wed Nov 11 2026. No macro, syntax, notation, axiom, sorry.
-/
import Derived.Test.YtgjciacffgiijaaGreatChecked
import GoSem.Claim
import GoSem.ClaimJoined
import GoSem.ClaimMapViews
import Derived.JoinedTies
import Derived.KernelRfl
namespace Go.Proofs.YtgjciacffgiijaaGreat
/- THE CELL 'sum', in the pinned program and in every row, IS THE sha256 OF THE DUMP (.gsa) THAT YtgjciacffgiijaaGreatProg.lean LOADS. Nothing in Lean hashes anything: it is a label: what it is worth is what the hold of that sum in a sandbox is worth. -/
noncomputable def Tryz.pinned : Pinned := { name := "ytgjciacffgiijaagreat", sum := "8bed2b366b095aac33e3e5242fce747deb0d3ce9d3cc45a3b6752668c87d1e4b", checked := Tryz.checked }
namespace Rows
def none {H : Type} : Left H := { results := [], args := [] }

/-- 'alidadelaw26.CursorMakes': WHATEVER THE INPUT: true; the input reads as it did. -/
def cursorMakesSpec : ChangeSpec := { name := "cursorMakes", fn := fun _ => fun
  | [d1, d2, d3] => { results := [.lit (.bool true)], args := [d1, d2, d3] }
  | _ => none }
def cursorMakesRow : OpenClaim := { program := "ytgjciacffgiijaagreat", sum := "8bed2b366b095aac33e3e5242fce747deb0d3ce9d3cc45a3b6752668c87d1e4b", func := "alidade/alidadelaw26.CursorMakes", spec := "cursorMakes", inPlace := ["slices.overlaps[alidade/api.Point]"], unfollowed := true, recurses := true, plainKeys := false, apart := false }
def CursorMakesSaid : Prop := cursorMakesRow.holds Tryz.pinned (OpenSpec.ofChange cursorMakesSpec)

/-- ITS FALSE NEIGHBOUR: 'it returns false'. Refute it at one input. -/
def cursorMakesWrong : ChangeSpec := { name := "cursorMakes", fn := fun _ => fun
  | [d1, d2, d3] => { results := [.lit (.bool false)], args := [d1, d2, d3] }
  | _ => none }
def CursorMakesWrongFalsely : Prop := cursorMakesRow.holds Tryz.pinned (OpenSpec.ofChange cursorMakesWrong)

/-- 'alidadelaw39.BoundTells': WHATEVER THE INPUT: true; the input reads as it did. -/
def boundTellsSpec : ChangeSpec := { name := "boundTells", fn := fun _ => fun
  | [d1, d2] => { results := [.lit (.bool true)], args := [d1, d2] }
  | _ => none }
def boundTellsRow : OpenClaim := { program := "ytgjciacffgiijaagreat", sum := "8bed2b366b095aac33e3e5242fce747deb0d3ce9d3cc45a3b6752668c87d1e4b", func := "alidade/alidadelaw39.BoundTells", spec := "boundTells", inPlace := ["slices.overlaps[alidade/api.Point]", "slices.overlaps[alidade/api.Span]"], unfollowed := true, recurses := true, plainKeys := false, apart := false }
def BoundTellsSaid : Prop := boundTellsRow.holds Tryz.pinned (OpenSpec.ofChange boundTellsSpec)

/-- ITS FALSE NEIGHBOUR: 'it returns false'. Refute it at one input. -/
def boundTellsWrong : ChangeSpec := { name := "boundTells", fn := fun _ => fun
  | [d1, d2] => { results := [.lit (.bool false)], args := [d1, d2] }
  | _ => none }
def BoundTellsWrongFalsely : Prop := boundTellsRow.holds Tryz.pinned (OpenSpec.ofChange boundTellsWrong)

/-- 'alidadelaw28.CatalogNone': WHATEVER THE INPUT: true; the input reads as it did. -/
def catalogNoneSpec : ChangeSpec := { name := "catalogNone", fn := fun _ => fun
  | [d1, d2, d3] => { results := [.lit (.bool true)], args := [d1, d2, d3] }
  | _ => none }
def catalogNoneRow : OpenClaim := { program := "ytgjciacffgiijaagreat", sum := "8bed2b366b095aac33e3e5242fce747deb0d3ce9d3cc45a3b6752668c87d1e4b", func := "alidade/alidadelaw28.CatalogNone", spec := "catalogNone", inPlace := ["slices.overlaps[alidade/api.Point]", "slices.overlaps[alidade/api.Span]"], unfollowed := true, recurses := true, plainKeys := false, apart := false }
def CatalogNoneSaid : Prop := catalogNoneRow.holds Tryz.pinned (OpenSpec.ofChange catalogNoneSpec)

/-- ITS FALSE NEIGHBOUR: 'it returns false'. Refute it at one input. -/
def catalogNoneWrong : ChangeSpec := { name := "catalogNone", fn := fun _ => fun
  | [d1, d2, d3] => { results := [.lit (.bool false)], args := [d1, d2, d3] }
  | _ => none }
def CatalogNoneWrongFalsely : Prop := catalogNoneRow.holds Tryz.pinned (OpenSpec.ofChange catalogNoneWrong)

/-- 'alidadelaw34.ServerMakes': WHATEVER THE INPUT: true; the input reads as it did. -/
def serverMakesSpec : ChangeSpec := { name := "serverMakes", fn := fun _ => fun
  | [d1, d2] => { results := [.lit (.bool true)], args := [d1, d2] }
  | _ => none }
def serverMakesRow : OpenClaim := { program := "ytgjciacffgiijaagreat", sum := "8bed2b366b095aac33e3e5242fce747deb0d3ce9d3cc45a3b6752668c87d1e4b", func := "alidade/alidadelaw34.ServerMakes", spec := "serverMakes", inPlace := ["slices.overlaps[alidade/api.Point]", "slices.overlaps[alidade/api.Span]"], unfollowed := true, recurses := true, plainKeys := false, apart := false }
def ServerMakesSaid : Prop := serverMakesRow.holds Tryz.pinned (OpenSpec.ofChange serverMakesSpec)

/-- ITS FALSE NEIGHBOUR: 'it returns false'. Refute it at one input. -/
def serverMakesWrong : ChangeSpec := { name := "serverMakes", fn := fun _ => fun
  | [d1, d2] => { results := [.lit (.bool false)], args := [d1, d2] }
  | _ => none }
def ServerMakesWrongFalsely : Prop := serverMakesRow.holds Tryz.pinned (OpenSpec.ofChange serverMakesWrong)

/-- 'alidadelaw42.AuditQueries': WHATEVER THE INPUT: true; the input reads as it did. -/
def auditQueriesSpec : ChangeSpec := { name := "auditQueries", fn := fun _ => fun
  | [d] => { results := [.lit (.bool true)], args := [d] }
  | _ => none }
def auditQueriesRow : OpenClaim := { program := "ytgjciacffgiijaagreat", sum := "8bed2b366b095aac33e3e5242fce747deb0d3ce9d3cc45a3b6752668c87d1e4b", func := "alidade/alidadelaw42.AuditQueries", spec := "auditQueries", inPlace := ["slices.overlaps[alidade/api.Point]"], unfollowed := true, recurses := true, plainKeys := false, apart := false }
def AuditQueriesSaid : Prop := auditQueriesRow.holds Tryz.pinned (OpenSpec.ofChange auditQueriesSpec)

/-- ITS FALSE NEIGHBOUR: 'it returns false'. Refute it at one input. -/
def auditQueriesWrong : ChangeSpec := { name := "auditQueries", fn := fun _ => fun
  | [d] => { results := [.lit (.bool false)], args := [d] }
  | _ => none }
def AuditQueriesWrongFalsely : Prop := auditQueriesRow.holds Tryz.pinned (OpenSpec.ofChange auditQueriesWrong)

/-- 'alidadelaw42.AuditNone': WHATEVER THE INPUT: true; the input reads as it did. -/
def auditNoneSpec : ChangeSpec := { name := "auditNone", fn := fun _ => fun
  | [d] => { results := [.lit (.bool true)], args := [d] }
  | _ => none }
def auditNoneRow : OpenClaim := { program := "ytgjciacffgiijaagreat", sum := "8bed2b366b095aac33e3e5242fce747deb0d3ce9d3cc45a3b6752668c87d1e4b", func := "alidade/alidadelaw42.AuditNone", spec := "auditNone", inPlace := ["slices.overlaps[alidade/api.Point]"], unfollowed := true, recurses := true, plainKeys := false, apart := false }
def AuditNoneSaid : Prop := auditNoneRow.holds Tryz.pinned (OpenSpec.ofChange auditNoneSpec)

/-- ITS FALSE NEIGHBOUR: 'it returns false'. Refute it at one input. -/
def auditNoneWrong : ChangeSpec := { name := "auditNone", fn := fun _ => fun
  | [d] => { results := [.lit (.bool false)], args := [d] }
  | _ => none }
def AuditNoneWrongFalsely : Prop := auditNoneRow.holds Tryz.pinned (OpenSpec.ofChange auditNoneWrong)

/- THE SECOND FORM. 'bulk': how many values and letters a reading holds, each counted each time it is reached (what is shared counts as often as it is met; a slice's spare places count too). A statement '..UptoSaid' is the law's where the arguments, and the package variables that the reading takes, are together of bulk at most 1048576: NARROWER than '..Said'. Prove '..Said' where nothing that the law and all that it calls make is longer than what came in: it says more and counts as full. Else prove '..UptoSaid'. A law counts once. -/
mutual
def uptoBulk {H : Type} : DataW H → Nat
  | .lit (.string bytes) => bytes.length + 1
  | .lit _ => 1
  | .nil => 1
  | .ptr d => uptoBulk d + 1
  | .slice elems spare => uptoBulkAll elems + uptoBulkAll spare + 1
  | .agg parts => uptoBulkAll parts + 1
  | .iface _ d => uptoBulk d + 1
  | .map entries => uptoBulkEntries entries + 1
  | .held _ => 1
def uptoBulkAll {H : Type} : List (DataW H) → Nat
  | [] => 0
  | d :: r => uptoBulk d + uptoBulkAll r
def uptoBulkEntries {H : Type} : List (Lit × DataW H) → Nat
  | [] => 0
  | x :: r => uptoBulkEntry x + uptoBulkEntries r
def uptoBulkEntry {H : Type} : Lit × DataW H → Nat
  | (.string bytes, d) => bytes.length + uptoBulk d + 1
  | (_, d) => uptoBulk d + 1
 end
def uptoSmall : (H : Type) → List (DataW H) → Bool := fun _ ds => decide (uptoBulkAll ds ≤ 1048576)
def OpenSpec.upto (s : _root_.Go.ChangeSpec) : _root_.Go.OpenSpec := { _root_.Go.OpenSpec.ofChange s with cond := some uptoSmall }

/-- 'alidadelaw26.CursorMakes', WHERE WHAT IT READS IS OF BULK AT MOST 1048576: true; the input reads as it did. -/
def cursorMakesUptoRow : OpenClaim := { program := "ytgjciacffgiijaagreat", sum := "8bed2b366b095aac33e3e5242fce747deb0d3ce9d3cc45a3b6752668c87d1e4b", func := "alidade/alidadelaw26.CursorMakes", spec := "cursorMakes", inPlace := ["slices.overlaps[alidade/api.Point]"], unfollowed := true, recurses := true, plainKeys := false, apart := false, narrowed := true }
def CursorMakesUptoSaid : Prop := cursorMakesUptoRow.holds Tryz.pinned (OpenSpec.upto cursorMakesSpec)

/-- 'alidadelaw39.BoundTells', WHERE WHAT IT READS IS OF BULK AT MOST 1048576: true; the input reads as it did. -/
def boundTellsUptoRow : OpenClaim := { program := "ytgjciacffgiijaagreat", sum := "8bed2b366b095aac33e3e5242fce747deb0d3ce9d3cc45a3b6752668c87d1e4b", func := "alidade/alidadelaw39.BoundTells", spec := "boundTells", inPlace := ["slices.overlaps[alidade/api.Point]", "slices.overlaps[alidade/api.Span]"], unfollowed := true, recurses := true, plainKeys := false, apart := false, narrowed := true }
def BoundTellsUptoSaid : Prop := boundTellsUptoRow.holds Tryz.pinned (OpenSpec.upto boundTellsSpec)

/-- 'alidadelaw28.CatalogNone', WHERE WHAT IT READS IS OF BULK AT MOST 1048576: true; the input reads as it did. -/
def catalogNoneUptoRow : OpenClaim := { program := "ytgjciacffgiijaagreat", sum := "8bed2b366b095aac33e3e5242fce747deb0d3ce9d3cc45a3b6752668c87d1e4b", func := "alidade/alidadelaw28.CatalogNone", spec := "catalogNone", inPlace := ["slices.overlaps[alidade/api.Point]", "slices.overlaps[alidade/api.Span]"], unfollowed := true, recurses := true, plainKeys := false, apart := false, narrowed := true }
def CatalogNoneUptoSaid : Prop := catalogNoneUptoRow.holds Tryz.pinned (OpenSpec.upto catalogNoneSpec)

/-- 'alidadelaw34.ServerMakes', WHERE WHAT IT READS IS OF BULK AT MOST 1048576: true; the input reads as it did. -/
def serverMakesUptoRow : OpenClaim := { program := "ytgjciacffgiijaagreat", sum := "8bed2b366b095aac33e3e5242fce747deb0d3ce9d3cc45a3b6752668c87d1e4b", func := "alidade/alidadelaw34.ServerMakes", spec := "serverMakes", inPlace := ["slices.overlaps[alidade/api.Point]", "slices.overlaps[alidade/api.Span]"], unfollowed := true, recurses := true, plainKeys := false, apart := false, narrowed := true }
def ServerMakesUptoSaid : Prop := serverMakesUptoRow.holds Tryz.pinned (OpenSpec.upto serverMakesSpec)

/-- 'alidadelaw42.AuditQueries', WHERE WHAT IT READS IS OF BULK AT MOST 1048576: true; the input reads as it did. -/
def auditQueriesUptoRow : OpenClaim := { program := "ytgjciacffgiijaagreat", sum := "8bed2b366b095aac33e3e5242fce747deb0d3ce9d3cc45a3b6752668c87d1e4b", func := "alidade/alidadelaw42.AuditQueries", spec := "auditQueries", inPlace := ["slices.overlaps[alidade/api.Point]"], unfollowed := true, recurses := true, plainKeys := false, apart := false, narrowed := true }
def AuditQueriesUptoSaid : Prop := auditQueriesUptoRow.holds Tryz.pinned (OpenSpec.upto auditQueriesSpec)

/-- 'alidadelaw42.AuditNone', WHERE WHAT IT READS IS OF BULK AT MOST 1048576: true; the input reads as it did. -/
def auditNoneUptoRow : OpenClaim := { program := "ytgjciacffgiijaagreat", sum := "8bed2b366b095aac33e3e5242fce747deb0d3ce9d3cc45a3b6752668c87d1e4b", func := "alidade/alidadelaw42.AuditNone", spec := "auditNone", inPlace := ["slices.overlaps[alidade/api.Point]"], unfollowed := true, recurses := true, plainKeys := false, apart := false, narrowed := true }
def AuditNoneUptoSaid : Prop := auditNoneUptoRow.holds Tryz.pinned (OpenSpec.upto auditNoneSpec)

end Rows
end Go.Proofs.YtgjciacffgiijaaGreat
