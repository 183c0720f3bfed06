/- The closed facts of the row of FnStale, one by one. -/
import Derived.Test.YtnohkcklakipoaaGreatDoorRows
import Derived.WalkKit
import Derived.ProofKit
import Derived.SizedLaws
import Derived.Test.YtnohkcklakipoaaGreatDoorTie
import Derived.JoinedOf
import Derived.Stop.Joined
import Derived.Stop.LaidErr
import Derived.LaidMore
import Derived.Lay
namespace Go.Proofs.YtnohkcklakipoaaGreatDoor.FnStale
open Go Go.RowKit Go.Proofs Go.Proofs.YtnohkcklakipoaaGreatDoor
open Go.ChangeShapes Go.WideShapes Go.ChangeAt
set_option maxRecDepth 1000000
theorem fact0:laidOutB Tryz.pinned.checked.prog=true:=by kernel_rfl
theorem fact1:mapsRowed Tryz.pinned.checked.prog=true:=by kernel_rfl
theorem fact2:(Rows.fnStaleRow.inPlace == Tryz.pinned.checked.prog.inPlace 4)=true:=by kernel_rfl
theorem fact3:(Rows.fnStaleRow.unfollowed == Tryz.pinned.checked.prog.unfollowed 4)=true:=by kernel_rfl
theorem fact4:(Rows.fnStaleRow.recurses == Tryz.pinned.checked.prog.recurses 4)=true:=by kernel_rfl
theorem fact5:(Rows.fnStaleRow.named == Tryz.pinned.checked.prog.varsNamed 4)=true:=by kernel_rfl
theorem fact6:Tryz.pinned.checked.prog.stopsHeard=true:=by kernel_rfl
theorem fact7:Tryz.pinned.checked.prog.mayEnter=true:=by kernel_rfl
theorem fact8:(Rows.fnStaleRow.lifted == Tryz.pinned.checked.prog.liftsFinal)=true:=by kernel_rfl
theorem fact9:(Tryz.pinned.checked.prog.make == some Rows.fnStaleRow.make)=true:=by kernel_rfl
theorem closed:joinedFacts Tryz.pinned.checked.prog 4 Tryz.f4 Rows.fnStaleSpec Rows.fnStaleRow=true:=by
  unfold joinedFacts
  simp only [Bool.and_eq_true]
  with_reducible and_intros
  all_goals first | with_reducible exact fact0 | with_reducible exact fact1 | with_reducible exact fact2 | with_reducible exact fact3 | with_reducible exact fact4 | with_reducible exact fact5 | with_reducible exact fact6 | with_reducible exact fact7 | with_reducible exact fact8 | with_reducible exact fact9 | kernel_rfl
end Go.Proofs.YtnohkcklakipoaaGreatDoor.FnStale
