/-
  What the two laws of bytes import. No conditions.
-/
import Derived.Test.YtopkdiiigidfdaaGreatDgI
import Derived.Test.YtopkdiiigidfdaaGreatEvD40
import Derived.Test.YtopkdiiigidfdaaGreatPtIn
namespace Go.Proofs.YtopkdiiigidfdaaGreat
end Go.Proofs.YtopkdiiigidfdaaGreat
