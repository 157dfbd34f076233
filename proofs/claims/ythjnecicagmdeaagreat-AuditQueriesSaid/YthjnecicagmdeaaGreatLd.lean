/-
  What terms tell of where rows of numbers are at hand: numbers, truths, rows. No conditions.
-/
import Derived.Test.YthjnecicagmdeaaGreatE2K
namespace Go.Proofs.YthjnecicagmdeaaGreat.V
open Go.Proofs.YthjnecicagmdeaaGreat Go.RowKit Go.E2

/-- what is told of: numbers, truths, rows of numbers -/
inductive LD where
  | i (z : Int)
  | b (x : Bool)
  | r (L : List (List Int))
def LD.toI : LD → Int
  | .i z => z
  | _ => 0
def LD.toB : LD → Bool
  | .b x => x
  | _ => false
def LD.toR : LD → List (List Int)
  | .r L => L
  | _ => []
end Go.Proofs.YthjnecicagmdeaaGreat.V
