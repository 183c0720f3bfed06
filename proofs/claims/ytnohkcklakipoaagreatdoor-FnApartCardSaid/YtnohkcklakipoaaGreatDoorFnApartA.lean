/- FnApart's form, reckoned at the six codes to which every one leads. -/
import Derived.Test.YtnohkcklakipoaaGreatDoorFns
namespace Go.Proofs.YtnohkcklakipoaaGreatDoor.FnApart
open Go Go.RowKit Go.Proofs Go.Proofs.YtnohkcklakipoaaGreatDoor.Ev Go.Proofs.YtnohkcklakipoaaGreatDoor.Fns
set_option maxRecDepth 1000000
theorem c00 : F5 2097153 [0, 0] = some true := by kernel_rfl
theorem c10 : F5 2097153 [1, 0] = some true := by kernel_rfl
theorem c20 : F5 2097153 [2, 0] = some true := by kernel_rfl
end Go.Proofs.YtnohkcklakipoaaGreatDoor.FnApart
