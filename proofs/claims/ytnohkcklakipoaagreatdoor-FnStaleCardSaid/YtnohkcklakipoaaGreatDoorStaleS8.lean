/- A step of each world, reckoned at each life. -/
import Derived.Test.YtnohkcklakipoaaGreatDoorStaleW
namespace Go.Proofs.YtnohkcklakipoaaGreatDoor.FnStale
open Go Go.RowKit Go.Proofs Go.Proofs.YtnohkcklakipoaaGreatDoor.Ev Go.Proofs.YtnohkcklakipoaaGreatDoor.Fns
set_option maxRecDepth 1000000
set_option linter.unusedVariables false
set_option linter.unusedSimpArgs false
theorem sL4_2a:Ha 1 wL4_2 wL4_3:=by and_intros <;> kernel_rfl
theorem sL4_2b:Hb 1 wL4_2 wL4_3:=by and_intros <;> kernel_rfl
theorem sL4_3a:Ha 1 wL4_3 wL4_4:=by and_intros <;> kernel_rfl
theorem sL4_3b:Hb 1 wL4_3 wL4_4:=by and_intros <;> kernel_rfl
theorem sL4_4a:Ha 1 wL4_4 wL4_5:=by and_intros <;> kernel_rfl
theorem sL4_4b:Hb 1 wL4_4 wL4_5:=by and_intros <;> kernel_rfl
theorem sL4_5a:Ha 1 wL4_5 wL4_6:=by and_intros <;> kernel_rfl
theorem sL4_5b:Hb 1 wL4_5 wL4_6:=by and_intros <;> kernel_rfl
theorem sL4_6a:Ha 1 wL4_6 wL4_7:=by and_intros <;> kernel_rfl
theorem sL4_6b:Hb 1 wL4_6 wL4_7:=by and_intros <;> kernel_rfl
theorem sL4_7a:Ha 1 wL4_7 wL4_8:=by and_intros <;> kernel_rfl
theorem sL4_7b:Hb 1 wL4_7 wL4_8:=by and_intros <;> kernel_rfl
theorem sL4_8a:Ha 1 wL4_8 wL4_9:=by and_intros <;> kernel_rfl
theorem sL4_8b:Hb 1 wL4_8 wL4_9:=by and_intros <;> kernel_rfl
theorem sL4_9a:Ha 1 wL4_9 wL4_10:=by and_intros <;> kernel_rfl
theorem sL4_9b:Hb 1 wL4_9 wL4_10:=by and_intros <;> kernel_rfl
theorem sL4_10a:Ha 1 wL4_10 wL4_11:=by and_intros <;> kernel_rfl
theorem sL4_10b:Hb 1 wL4_10 wL4_11:=by and_intros <;> kernel_rfl
theorem sL4_11a:Ha 1 wL4_11 wL4_12:=by and_intros <;> kernel_rfl
theorem sL4_11b:Hb 1 wL4_11 wL4_12:=by and_intros <;> kernel_rfl
theorem sL4_12a:Ha 1 wL4_12 wL4_13:=by and_intros <;> kernel_rfl
theorem sL4_12b:Hb 1 wL4_12 wL4_13:=by and_intros <;> kernel_rfl
theorem sL4_13a:Ha 1 wL4_13 wL4_14:=by and_intros <;> kernel_rfl
theorem sL4_13b:Hb 1 wL4_13 wL4_14:=by and_intros <;> kernel_rfl
theorem sL4_14a:Ha 1 wL4_14 wL4_15:=by and_intros <;> kernel_rfl
theorem sL4_14b:Hb 1 wL4_14 wL4_15:=by and_intros <;> kernel_rfl
theorem sL4_15a:Ha 1 wL4_15 wL4_16:=by and_intros <;> kernel_rfl
theorem sL4_15b:Hb 1 wL4_15 wL4_16:=by and_intros <;> kernel_rfl
theorem sL4_16a:Ha 1 wL4_16 wL4_16:=by and_intros <;> kernel_rfl
theorem sL4_16b:Hb 1 wL4_16 wL4_16:=by and_intros <;> kernel_rfl
theorem sL5_0a:Ha 1 wL5_0 wL5_1:=by and_intros <;> kernel_rfl
theorem sL5_0b:Hb 1 wL5_0 wL5_1:=by and_intros <;> kernel_rfl
theorem sL5_1a:Ha 1 wL5_1 wL5_2:=by and_intros <;> kernel_rfl
theorem sL5_1b:Hb 1 wL5_1 wL5_2:=by and_intros <;> kernel_rfl
theorem sL5_2a:Ha 1 wL5_2 wL5_3:=by and_intros <;> kernel_rfl
theorem sL5_2b:Hb 1 wL5_2 wL5_3:=by and_intros <;> kernel_rfl
theorem sL5_3a:Ha 1 wL5_3 wL5_4:=by and_intros <;> kernel_rfl
theorem sL5_3b:Hb 1 wL5_3 wL5_4:=by and_intros <;> kernel_rfl
theorem sL5_4a:Ha 1 wL5_4 wL5_5:=by and_intros <;> kernel_rfl
theorem sL5_4b:Hb 1 wL5_4 wL5_5:=by and_intros <;> kernel_rfl
end Go.Proofs.YtnohkcklakipoaaGreatDoor.FnStale
