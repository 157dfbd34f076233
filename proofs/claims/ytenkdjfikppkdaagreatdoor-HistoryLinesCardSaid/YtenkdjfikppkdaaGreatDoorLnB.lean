/-
  linear.can: which operations can have happened. No conditions.
-/
import Derived.Test.YtenkdjfikppkdaaGreatDoorLnA
namespace Go.Proofs.YtenkdjfikppkdaaGreatDoor
open Go.RowKit Go.Al
set_option linter.unusedVariables false

end Go.Proofs.YtenkdjfikppkdaaGreatDoor
