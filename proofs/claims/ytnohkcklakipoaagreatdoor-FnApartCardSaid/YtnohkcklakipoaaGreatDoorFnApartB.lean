/- FnApart's form, reckoned at three more codes. -/
import Derived.Test.YtnohkcklakipoaaGreatDoorFns
namespace Go.Proofs.YtnohkcklakipoaaGreatDoor.FnApart
open Go Go.RowKit Go.Proofs Go.Proofs.YtnohkcklakipoaaGreatDoor.Ev Go.Proofs.YtnohkcklakipoaaGreatDoor.Fns
set_option maxRecDepth 1000000
theorem c01 : F5 2097153 [0, 1] = some true := by kernel_rfl
theorem c11 : F5 2097153 [1, 1] = some true := by kernel_rfl
theorem c21 : F5 2097153 [2, 1] = some true := by kernel_rfl
end Go.Proofs.YtnohkcklakipoaaGreatDoor.FnApart
