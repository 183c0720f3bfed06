/- A step of each world, reckoned at each life. -/
import Derived.Test.YtnohkcklakipoaaGreatDoorStaleW
namespace Go.Proofs.YtnohkcklakipoaaGreatDoor.FnStale
open Go Go.RowKit Go.Proofs Go.Proofs.YtnohkcklakipoaaGreatDoor.Ev Go.Proofs.YtnohkcklakipoaaGreatDoor.Fns
set_option maxRecDepth 1000000
set_option linter.unusedVariables false
set_option linter.unusedSimpArgs false
theorem sA4_7a:Ha 0 wA4_7 wA4_8:=by and_intros <;> kernel_rfl
theorem sA4_7b:Hb 0 wA4_7 wA4_8:=by and_intros <;> kernel_rfl
theorem sA4_8a:Ha 0 wA4_8 wA4_9:=by and_intros <;> kernel_rfl
theorem sA4_8b:Hb 0 wA4_8 wA4_9:=by and_intros <;> kernel_rfl
theorem sA4_9a:Ha 0 wA4_9 wA4_10:=by and_intros <;> kernel_rfl
theorem sA4_9b:Hb 0 wA4_9 wA4_10:=by and_intros <;> kernel_rfl
theorem sA4_10a:Ha 0 wA4_10 wA4_11:=by and_intros <;> kernel_rfl
theorem sA4_10b:Hb 0 wA4_10 wA4_11:=by and_intros <;> kernel_rfl
theorem sA4_11a:Ha 0 wA4_11 wA4_12:=by and_intros <;> kernel_rfl
theorem sA4_11b:Hb 0 wA4_11 wA4_12:=by and_intros <;> kernel_rfl
theorem sA4_12a:Ha 0 wA4_12 wA4_13:=by and_intros <;> kernel_rfl
theorem sA4_12b:Hb 0 wA4_12 wA4_13:=by and_intros <;> kernel_rfl
theorem sA4_13a:Ha 0 wA4_13 wA4_14:=by and_intros <;> kernel_rfl
theorem sA4_13b:Hb 0 wA4_13 wA4_14:=by and_intros <;> kernel_rfl
theorem sA4_14a:Ha 0 wA4_14 wA4_15:=by and_intros <;> kernel_rfl
theorem sA4_14b:Hb 0 wA4_14 wA4_15:=by and_intros <;> kernel_rfl
theorem sA4_15a:Ha 0 wA4_15 wA4_16:=by and_intros <;> kernel_rfl
theorem sA4_15b:Hb 0 wA4_15 wA4_16:=by and_intros <;> kernel_rfl
theorem sA4_16a:Ha 0 wA4_16 wA4_16:=by and_intros <;> kernel_rfl
theorem sA4_16b:Hb 0 wA4_16 wA4_16:=by and_intros <;> kernel_rfl
theorem sA5_0a:Ha 0 wA5_0 wA5_1:=by and_intros <;> kernel_rfl
theorem sA5_0b:Hb 0 wA5_0 wA5_1:=by and_intros <;> kernel_rfl
theorem sA5_1a:Ha 0 wA5_1 wA5_2:=by and_intros <;> kernel_rfl
theorem sA5_1b:Hb 0 wA5_1 wA5_2:=by and_intros <;> kernel_rfl
theorem sA5_2a:Ha 0 wA5_2 wA5_3:=by and_intros <;> kernel_rfl
theorem sA5_2b:Hb 0 wA5_2 wA5_3:=by and_intros <;> kernel_rfl
theorem sA5_3a:Ha 0 wA5_3 wA5_4:=by and_intros <;> kernel_rfl
theorem sA5_3b:Hb 0 wA5_3 wA5_4:=by and_intros <;> kernel_rfl
theorem sA5_4a:Ha 0 wA5_4 wA5_5:=by and_intros <;> kernel_rfl
theorem sA5_4b:Hb 0 wA5_4 wA5_5:=by and_intros <;> kernel_rfl
theorem sA5_5a:Ha 0 wA5_5 wA5_6:=by and_intros <;> kernel_rfl
theorem sA5_5b:Hb 0 wA5_5 wA5_6:=by and_intros <;> kernel_rfl
theorem sA5_6a:Ha 0 wA5_6 wA5_7:=by and_intros <;> kernel_rfl
theorem sA5_6b:Hb 0 wA5_6 wA5_7:=by and_intros <;> kernel_rfl
theorem sA5_7a:Ha 0 wA5_7 wA5_8:=by and_intros <;> kernel_rfl
theorem sA5_7b:Hb 0 wA5_7 wA5_8:=by and_intros <;> kernel_rfl
theorem sA5_8a:Ha 0 wA5_8 wA5_9:=by and_intros <;> kernel_rfl
theorem sA5_8b:Hb 0 wA5_8 wA5_9:=by and_intros <;> kernel_rfl
theorem sA5_9a:Ha 0 wA5_9 wA5_10:=by and_intros <;> kernel_rfl
theorem sA5_9b:Hb 0 wA5_9 wA5_10:=by and_intros <;> kernel_rfl
end Go.Proofs.YtnohkcklakipoaaGreatDoor.FnStale
