/-
  Library calls at this program's own types: maps.Clone, cmp.Compare, slices.SortFunc over triples by their first number. Condition: fewer than 2^60 elements.
-/
import Derived.Test.YtenkdjfikppkdaaGreatDoorTcE
import Derived.Test.YtenkdjfikppkdaaGreatDoorLay
import Derived.Shelf.SlSortCmp.NoneTotal
namespace Go.Proofs.YtenkdjfikppkdaaGreatDoor
open Go.RowKit Go.Al
set_option linter.unusedVariables false

end Go.Proofs.YtenkdjfikppkdaaGreatDoor
