/- A step of each world, reckoned at each life. -/
import Derived.Test.YtnohkcklakipoaaGreatDoorStaleW
namespace Go.Proofs.YtnohkcklakipoaaGreatDoor.FnStale
open Go Go.RowKit Go.Proofs Go.Proofs.YtnohkcklakipoaaGreatDoor.Ev Go.Proofs.YtnohkcklakipoaaGreatDoor.Fns
set_option maxRecDepth 1000000
set_option linter.unusedVariables false
set_option linter.unusedSimpArgs false
theorem sF5_12a:Ha 1 wF5_12 wF5_13:=by and_intros <;> kernel_rfl
theorem sF5_12b:Hb 1 wF5_12 wF5_13:=by and_intros <;> kernel_rfl
theorem sF5_13a:Ha 1 wF5_13 wF5_14:=by and_intros <;> kernel_rfl
theorem sF5_13b:Hb 1 wF5_13 wF5_14:=by and_intros <;> kernel_rfl
theorem sF5_14a:Ha 1 wF5_14 wF5_15:=by and_intros <;> kernel_rfl
theorem sF5_14b:Hb 1 wF5_14 wF5_15:=by and_intros <;> kernel_rfl
theorem sF5_15a:Ha 1 wF5_15 wF5_16:=by and_intros <;> kernel_rfl
theorem sF5_15b:Hb 1 wF5_15 wF5_16:=by and_intros <;> kernel_rfl
theorem sF5_16a:Ha 1 wF5_16 wF5_16:=by and_intros <;> kernel_rfl
theorem sF5_16b:Hb 1 wF5_16 wF5_16:=by and_intros <;> kernel_rfl
theorem sL1_0a:Ha 1 wL1_0 wL1_1:=by and_intros <;> kernel_rfl
theorem sL1_0b:Hb 1 wL1_0 wL1_1:=by and_intros <;> kernel_rfl
theorem sL1_1a:Ha 1 wL1_1 wL1_2:=by and_intros <;> kernel_rfl
theorem sL1_1b:Hb 1 wL1_1 wL1_2:=by and_intros <;> kernel_rfl
theorem sL1_2a:Ha 1 wL1_2 wL1_3:=by and_intros <;> kernel_rfl
theorem sL1_2b:Hb 1 wL1_2 wL1_3:=by and_intros <;> kernel_rfl
theorem sL1_3a:Ha 1 wL1_3 wL1_4:=by and_intros <;> kernel_rfl
theorem sL1_3b:Hb 1 wL1_3 wL1_4:=by and_intros <;> kernel_rfl
theorem sL1_4a:Ha 1 wL1_4 wL1_5:=by and_intros <;> kernel_rfl
theorem sL1_4b:Hb 1 wL1_4 wL1_5:=by and_intros <;> kernel_rfl
theorem sL1_5a:Ha 1 wL1_5 wL1_6:=by and_intros <;> kernel_rfl
theorem sL1_5b:Hb 1 wL1_5 wL1_6:=by and_intros <;> kernel_rfl
theorem sL1_6a:Ha 1 wL1_6 wL1_7:=by and_intros <;> kernel_rfl
theorem sL1_6b:Hb 1 wL1_6 wL1_7:=by and_intros <;> kernel_rfl
theorem sL1_7a:Ha 1 wL1_7 wL1_7:=by and_intros <;> kernel_rfl
theorem sL1_7b:Hb 1 wL1_7 wL1_7:=by and_intros <;> kernel_rfl
theorem sL2_0a:Ha 1 wL2_0 wL2_1:=by and_intros <;> kernel_rfl
theorem sL2_0b:Hb 1 wL2_0 wL2_1:=by and_intros <;> kernel_rfl
theorem sL2_1a:Ha 1 wL2_1 wL2_2:=by and_intros <;> kernel_rfl
theorem sL2_1b:Hb 1 wL2_1 wL2_2:=by and_intros <;> kernel_rfl
theorem sL2_2a:Ha 1 wL2_2 wL2_3:=by and_intros <;> kernel_rfl
theorem sL2_2b:Hb 1 wL2_2 wL2_3:=by and_intros <;> kernel_rfl
theorem sL2_3a:Ha 1 wL2_3 wL2_4:=by and_intros <;> kernel_rfl
theorem sL2_3b:Hb 1 wL2_3 wL2_4:=by and_intros <;> kernel_rfl
theorem sL2_4a:Ha 1 wL2_4 wL2_5:=by and_intros <;> kernel_rfl
theorem sL2_4b:Hb 1 wL2_4 wL2_5:=by and_intros <;> kernel_rfl
theorem sL2_5a:Ha 1 wL2_5 wL2_6:=by and_intros <;> kernel_rfl
theorem sL2_5b:Hb 1 wL2_5 wL2_6:=by and_intros <;> kernel_rfl
theorem sL2_6a:Ha 1 wL2_6 wL2_7:=by and_intros <;> kernel_rfl
theorem sL2_6b:Hb 1 wL2_6 wL2_7:=by and_intros <;> kernel_rfl
end Go.Proofs.YtnohkcklakipoaaGreatDoor.FnStale
