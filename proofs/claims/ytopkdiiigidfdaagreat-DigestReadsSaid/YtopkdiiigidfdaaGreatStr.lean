/-
  Contracts of Go's library, laid at this program's own numbers. No conditions but those that each states.
-/
import Derived.Ground.Names2Prog
import Derived.Shelf.Slices.Clone
import Derived.Shelf.Slices.SearchI
import Derived.Ground.SlgnProg
import Derived.Shelf.SlicesE.Clone
import Derived.Shelf.Bytes.SlEqualAll
import Derived.Shelf.Bytes.Small
import Derived.Test.YtopkdiiigidfdaaGreatChecked
namespace Go.Proofs.YtopkdiiigidfdaaGreat
open Go.Proofs
open Go.Shelf
def lays115_ren : Go.Shelf.Ren := ⟨fun | 115 => 95 | n => n, fun | 37 => 58 | 4 => 4 | 9 => 9 | 5 => 5 | n => n, fun | n => n⟩
theorem lays115 : Go.Proofs.Lays.n115 Tryz.prog lays115_ren := {
  mixed := by kernel_rfl
  f115 := Tryz.func95.trans (congrArg some (by kernel_rfl))
  t4 := Tryz.underlying4
  a4 := Tryz.isAgg4
  z4 := Tryz.sizeOf4
  v4 := Tryz.zeroValue4
  t9 := Tryz.underlying9
  a9 := Tryz.isAgg9
  z9 := Tryz.sizeOf9
  v9 := Tryz.zeroValue9
  t37 := Tryz.underlying58
  a37 := Tryz.isAgg58
  z37 := Tryz.sizeOf58
  v37 := Tryz.zeroValue58 }
theorem bytes_Equal (v1 v2 : Value) (xs ys : List Int) (w : World) (h1 : (convert 58 9 v1).run Tryz.prog w = .ok (.string (strOfNums xs)) w) (h2 : (convert 58 9 v2).run Tryz.prog w = .ok (.string (strOfNums ys)) w) :
    Calls Tryz.prog 95 #[v1, v2] w fun e w' => e = .returned (.bool (Lib.bytesOf xs == Lib.bytesOf ys)) ∧ w' = w := Any.bytes_Equal lays115 v1 v2 xs ys w h1 h2
end Go.Proofs.YtopkdiiigidfdaaGreat
