/- Contracts of Go's library over this program, laid by the kit's tool. -/
import Derived.Ground.SlgnProg
import Derived.Shelf.SlGeneric
import Derived.Shelf.SlicesE.Clone
import Derived.Test.YteliolfafmmhlaaProg
namespace Go.Proofs
open Go.Shelf
def Try.lClone77_ren : Go.Shelf.Ren := ⟨fun | 41 => 77 | n => n, fun | 22 => 61 | 23 => 131 | 4 => 4 | n => n, fun | n => n⟩
theorem Try.lClone77 : Go.Proofs.SlLaysE0.n41 Try.prog Try.lClone77_ren := {
  mixed := by kernel_rfl
  f41 := ⟨Try.f77.name, by decide, Try.func77.trans (congrArg some (by kernel_rfl))⟩
  t4 := Try.underlying4
  a4 := Try.isAgg4
  z4 := Try.sizeOf4
  v4 := Try.zeroValue4
  t22 := Try.underlying61
  a22 := Try.isAgg61
  z22 := Try.sizeOf61
  v22 := Try.zeroValue61 }
end Go.Proofs
