/- A step of each world, reckoned at each life. -/
import Derived.Test.YtnohkcklakipoaaGreatDoorStaleW
namespace Go.Proofs.YtnohkcklakipoaaGreatDoor.FnStale
open Go Go.RowKit Go.Proofs Go.Proofs.YtnohkcklakipoaaGreatDoor.Ev Go.Proofs.YtnohkcklakipoaaGreatDoor.Fns
set_option maxRecDepth 1000000
set_option linter.unusedVariables false
set_option linter.unusedSimpArgs false
theorem sL2_7a:Ha 1 wL2_7 wL2_8:=by and_intros <;> kernel_rfl
theorem sL2_7b:Hb 1 wL2_7 wL2_8:=by and_intros <;> kernel_rfl
theorem sL2_8a:Ha 1 wL2_8 wL2_9:=by and_intros <;> kernel_rfl
theorem sL2_8b:Hb 1 wL2_8 wL2_9:=by and_intros <;> kernel_rfl
theorem sL2_9a:Ha 1 wL2_9 wL2_10:=by and_intros <;> kernel_rfl
theorem sL2_9b:Hb 1 wL2_9 wL2_10:=by and_intros <;> kernel_rfl
theorem sL2_10a:Ha 1 wL2_10 wL2_10:=by and_intros <;> kernel_rfl
theorem sL2_10b:Hb 1 wL2_10 wL2_10:=by and_intros <;> kernel_rfl
theorem sL3_0a:Ha 1 wL3_0 wL3_1:=by and_intros <;> kernel_rfl
theorem sL3_0b:Hb 1 wL3_0 wL3_1:=by and_intros <;> kernel_rfl
theorem sL3_1a:Ha 1 wL3_1 wL3_2:=by and_intros <;> kernel_rfl
theorem sL3_1b:Hb 1 wL3_1 wL3_2:=by and_intros <;> kernel_rfl
theorem sL3_2a:Ha 1 wL3_2 wL3_3:=by and_intros <;> kernel_rfl
theorem sL3_2b:Hb 1 wL3_2 wL3_3:=by and_intros <;> kernel_rfl
theorem sL3_3a:Ha 1 wL3_3 wL3_4:=by and_intros <;> kernel_rfl
theorem sL3_3b:Hb 1 wL3_3 wL3_4:=by and_intros <;> kernel_rfl
theorem sL3_4a:Ha 1 wL3_4 wL3_5:=by and_intros <;> kernel_rfl
theorem sL3_4b:Hb 1 wL3_4 wL3_5:=by and_intros <;> kernel_rfl
theorem sL3_5a:Ha 1 wL3_5 wL3_6:=by and_intros <;> kernel_rfl
theorem sL3_5b:Hb 1 wL3_5 wL3_6:=by and_intros <;> kernel_rfl
theorem sL3_6a:Ha 1 wL3_6 wL3_7:=by and_intros <;> kernel_rfl
theorem sL3_6b:Hb 1 wL3_6 wL3_7:=by and_intros <;> kernel_rfl
theorem sL3_7a:Ha 1 wL3_7 wL3_8:=by and_intros <;> kernel_rfl
theorem sL3_7b:Hb 1 wL3_7 wL3_8:=by and_intros <;> kernel_rfl
theorem sL3_8a:Ha 1 wL3_8 wL3_9:=by and_intros <;> kernel_rfl
theorem sL3_8b:Hb 1 wL3_8 wL3_9:=by and_intros <;> kernel_rfl
theorem sL3_9a:Ha 1 wL3_9 wL3_10:=by and_intros <;> kernel_rfl
theorem sL3_9b:Hb 1 wL3_9 wL3_10:=by and_intros <;> kernel_rfl
theorem sL3_10a:Ha 1 wL3_10 wL3_11:=by and_intros <;> kernel_rfl
theorem sL3_10b:Hb 1 wL3_10 wL3_11:=by and_intros <;> kernel_rfl
theorem sL3_11a:Ha 1 wL3_11 wL3_12:=by and_intros <;> kernel_rfl
theorem sL3_11b:Hb 1 wL3_11 wL3_12:=by and_intros <;> kernel_rfl
theorem sL3_12a:Ha 1 wL3_12 wL3_13:=by and_intros <;> kernel_rfl
theorem sL3_12b:Hb 1 wL3_12 wL3_13:=by and_intros <;> kernel_rfl
theorem sL3_13a:Ha 1 wL3_13 wL3_13:=by and_intros <;> kernel_rfl
theorem sL3_13b:Hb 1 wL3_13 wL3_13:=by and_intros <;> kernel_rfl
theorem sL4_0a:Ha 1 wL4_0 wL4_1:=by and_intros <;> kernel_rfl
theorem sL4_0b:Hb 1 wL4_0 wL4_1:=by and_intros <;> kernel_rfl
theorem sL4_1a:Ha 1 wL4_1 wL4_2:=by and_intros <;> kernel_rfl
theorem sL4_1b:Hb 1 wL4_1 wL4_2:=by and_intros <;> kernel_rfl
end Go.Proofs.YtnohkcklakipoaaGreatDoor.FnStale
