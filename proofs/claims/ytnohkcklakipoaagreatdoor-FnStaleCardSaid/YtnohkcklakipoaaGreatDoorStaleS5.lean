/- A step of each world, reckoned at each life. -/
import Derived.Test.YtnohkcklakipoaaGreatDoorStaleW
namespace Go.Proofs.YtnohkcklakipoaaGreatDoor.FnStale
open Go Go.RowKit Go.Proofs Go.Proofs.YtnohkcklakipoaaGreatDoor.Ev Go.Proofs.YtnohkcklakipoaaGreatDoor.Fns
set_option maxRecDepth 1000000
set_option linter.unusedVariables false
set_option linter.unusedSimpArgs false
theorem sF4_6a:Ha 1 wF4_6 wF4_7:=by and_intros <;> kernel_rfl
theorem sF4_6b:Hb 1 wF4_6 wF4_7:=by and_intros <;> kernel_rfl
theorem sF4_7a:Ha 1 wF4_7 wF4_8:=by and_intros <;> kernel_rfl
theorem sF4_7b:Hb 1 wF4_7 wF4_8:=by and_intros <;> kernel_rfl
theorem sF4_8a:Ha 1 wF4_8 wF4_9:=by and_intros <;> kernel_rfl
theorem sF4_8b:Hb 1 wF4_8 wF4_9:=by and_intros <;> kernel_rfl
theorem sF4_9a:Ha 1 wF4_9 wF4_10:=by and_intros <;> kernel_rfl
theorem sF4_9b:Hb 1 wF4_9 wF4_10:=by and_intros <;> kernel_rfl
theorem sF4_10a:Ha 1 wF4_10 wF4_11:=by and_intros <;> kernel_rfl
theorem sF4_10b:Hb 1 wF4_10 wF4_11:=by and_intros <;> kernel_rfl
theorem sF4_11a:Ha 1 wF4_11 wF4_12:=by and_intros <;> kernel_rfl
theorem sF4_11b:Hb 1 wF4_11 wF4_12:=by and_intros <;> kernel_rfl
theorem sF4_12a:Ha 1 wF4_12 wF4_13:=by and_intros <;> kernel_rfl
theorem sF4_12b:Hb 1 wF4_12 wF4_13:=by and_intros <;> kernel_rfl
theorem sF4_13a:Ha 1 wF4_13 wF4_13:=by and_intros <;> kernel_rfl
theorem sF4_13b:Hb 1 wF4_13 wF4_13:=by and_intros <;> kernel_rfl
theorem sF5_0a:Ha 1 wF5_0 wF5_1:=by and_intros <;> kernel_rfl
theorem sF5_0b:Hb 1 wF5_0 wF5_1:=by and_intros <;> kernel_rfl
theorem sF5_1a:Ha 1 wF5_1 wF5_2:=by and_intros <;> kernel_rfl
theorem sF5_1b:Hb 1 wF5_1 wF5_2:=by and_intros <;> kernel_rfl
theorem sF5_2a:Ha 1 wF5_2 wF5_3:=by and_intros <;> kernel_rfl
theorem sF5_2b:Hb 1 wF5_2 wF5_3:=by and_intros <;> kernel_rfl
theorem sF5_3a:Ha 1 wF5_3 wF5_4:=by and_intros <;> kernel_rfl
theorem sF5_3b:Hb 1 wF5_3 wF5_4:=by and_intros <;> kernel_rfl
theorem sF5_4a:Ha 1 wF5_4 wF5_5:=by and_intros <;> kernel_rfl
theorem sF5_4b:Hb 1 wF5_4 wF5_5:=by and_intros <;> kernel_rfl
theorem sF5_5a:Ha 1 wF5_5 wF5_6:=by and_intros <;> kernel_rfl
theorem sF5_5b:Hb 1 wF5_5 wF5_6:=by and_intros <;> kernel_rfl
theorem sF5_6a:Ha 1 wF5_6 wF5_7:=by and_intros <;> kernel_rfl
theorem sF5_6b:Hb 1 wF5_6 wF5_7:=by and_intros <;> kernel_rfl
theorem sF5_7a:Ha 1 wF5_7 wF5_8:=by and_intros <;> kernel_rfl
theorem sF5_7b:Hb 1 wF5_7 wF5_8:=by and_intros <;> kernel_rfl
theorem sF5_8a:Ha 1 wF5_8 wF5_9:=by and_intros <;> kernel_rfl
theorem sF5_8b:Hb 1 wF5_8 wF5_9:=by and_intros <;> kernel_rfl
theorem sF5_9a:Ha 1 wF5_9 wF5_10:=by and_intros <;> kernel_rfl
theorem sF5_9b:Hb 1 wF5_9 wF5_10:=by and_intros <;> kernel_rfl
theorem sF5_10a:Ha 1 wF5_10 wF5_11:=by and_intros <;> kernel_rfl
theorem sF5_10b:Hb 1 wF5_10 wF5_11:=by and_intros <;> kernel_rfl
theorem sF5_11a:Ha 1 wF5_11 wF5_12:=by and_intros <;> kernel_rfl
theorem sF5_11b:Hb 1 wF5_11 wF5_12:=by and_intros <;> kernel_rfl
end Go.Proofs.YtnohkcklakipoaaGreatDoor.FnStale
