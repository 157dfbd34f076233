/-
  The table's Do. Condition: ids that an int holds.
-/
import Derived.Test.YthjnecicagmdeaaGreatTbC
namespace Go.Proofs.YthjnecicagmdeaaGreat
open Go.RowKit Go.Al
set_option linter.unusedVariables false

def z3 : P3 := (0, 0, 0)
/-- the change that turns one back -/
def backC (p s : List P3) (c : Cg) : Cg :=
  if c.k = 1 then ⟨2, c.p, z3⟩ else if c.k = 2 then ⟨1, (find3 p c.p.1).getD z3, z3⟩ else if c.k = 3 then ⟨4, z3, c.s⟩ else ⟨3, z3, (find3 s c.s.1).getD z3⟩
def doP (p : List P3) (c : Cg) : List P3 := if c.k = 1 then put3 c.p p else if c.k = 2 then del3 c.p.1 p else p
def doS (s : List P3) (c : Cg) : List P3 := if c.k = 3 then put3 c.s s else if c.k = 4 then del3 c.s.1 s else s

theorem put_far {w : World} {n b : Nat} {t : TypeId} {cs : Array Value} (h : Blk w b t cs) (hne : ¬ b = n) (u0 u1 u2 u3 u4 u5 u6 : Value) :
    Blk (((((((w.setCell ⟨n, 0, none⟩ u0).setCell ⟨n, 1, none⟩ u1).setCell ⟨n, 2, none⟩ u2).setCell ⟨n, 3, none⟩ u3).setCell ⟨n, 4, none⟩ u4).setCell ⟨n, 5, none⟩ u5).setCell ⟨n, 6, none⟩ u6) b t cs :=
  h.chg (Chg.put7 (S := fun k => k = n) (Chg.refl _ w) (.inl rfl) u0 u1 u2 u3 u4 u5 u6) hne
theorem put_map {w : World} {n b : Nat} {l : List P3} (h : MapI w b l) (hne : ¬ b = n) (u0 u1 u2 u3 u4 u5 u6 : Value) :
    MapI (((((((w.setCell ⟨n, 0, none⟩ u0).setCell ⟨n, 1, none⟩ u1).setCell ⟨n, 2, none⟩ u2).setCell ⟨n, 3, none⟩ u3).setCell ⟨n, 4, none⟩ u4).setCell ⟨n, 5, none⟩ u5).setCell ⟨n, 6, none⟩ u6) b l :=
  h.chg (Chg.put7 (S := fun k => k = n) (Chg.refl _ w) (.inl rfl) u0 u1 u2 u3 u4 u5 u6) hne

end Go.Proofs.YthjnecicagmdeaaGreat
