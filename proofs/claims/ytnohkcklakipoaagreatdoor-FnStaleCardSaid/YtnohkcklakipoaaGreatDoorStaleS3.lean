/- A step of each world, reckoned at each life. -/
import Derived.Test.YtnohkcklakipoaaGreatDoorStaleW
namespace Go.Proofs.YtnohkcklakipoaaGreatDoor.FnStale
open Go Go.RowKit Go.Proofs Go.Proofs.YtnohkcklakipoaaGreatDoor.Ev Go.Proofs.YtnohkcklakipoaaGreatDoor.Fns
set_option maxRecDepth 1000000
set_option linter.unusedVariables false
set_option linter.unusedSimpArgs false
theorem sA5_10a:Ha 0 wA5_10 wA5_11:=by and_intros <;> kernel_rfl
theorem sA5_10b:Hb 0 wA5_10 wA5_11:=by and_intros <;> kernel_rfl
theorem sA5_11a:Ha 0 wA5_11 wA5_12:=by and_intros <;> kernel_rfl
theorem sA5_11b:Hb 0 wA5_11 wA5_12:=by and_intros <;> kernel_rfl
theorem sA5_12a:Ha 0 wA5_12 wA5_13:=by and_intros <;> kernel_rfl
theorem sA5_12b:Hb 0 wA5_12 wA5_13:=by and_intros <;> kernel_rfl
theorem sA5_13a:Ha 0 wA5_13 wA5_14:=by and_intros <;> kernel_rfl
theorem sA5_13b:Hb 0 wA5_13 wA5_14:=by and_intros <;> kernel_rfl
theorem sA5_14a:Ha 0 wA5_14 wA5_15:=by and_intros <;> kernel_rfl
theorem sA5_14b:Hb 0 wA5_14 wA5_15:=by and_intros <;> kernel_rfl
theorem sA5_15a:Ha 0 wA5_15 wA5_16:=by and_intros <;> kernel_rfl
theorem sA5_15b:Hb 0 wA5_15 wA5_16:=by and_intros <;> kernel_rfl
theorem sA5_16a:Ha 0 wA5_16 wA5_17:=by and_intros <;> kernel_rfl
theorem sA5_16b:Hb 0 wA5_16 wA5_17:=by and_intros <;> kernel_rfl
theorem sA5_17a:Ha 0 wA5_17 wA5_18:=by and_intros <;> kernel_rfl
theorem sA5_17b:Hb 0 wA5_17 wA5_18:=by and_intros <;> kernel_rfl
theorem sA5_18a:Ha 0 wA5_18 wA5_19:=by and_intros <;> kernel_rfl
theorem sA5_18b:Hb 0 wA5_18 wA5_19:=by and_intros <;> kernel_rfl
theorem sA5_19a:Ha 0 wA5_19 wA5_19:=by and_intros <;> kernel_rfl
theorem sA5_19b:Hb 0 wA5_19 wA5_19:=by and_intros <;> kernel_rfl
theorem sF1_0a:Ha 1 wF1_0 wF1_1:=by and_intros <;> kernel_rfl
theorem sF1_0b:Hb 1 wF1_0 wF1_1:=by and_intros <;> kernel_rfl
theorem sF1_1a:Ha 1 wF1_1 wF1_2:=by and_intros <;> kernel_rfl
theorem sF1_1b:Hb 1 wF1_1 wF1_2:=by and_intros <;> kernel_rfl
theorem sF1_2a:Ha 1 wF1_2 wF1_3:=by and_intros <;> kernel_rfl
theorem sF1_2b:Hb 1 wF1_2 wF1_3:=by and_intros <;> kernel_rfl
theorem sF1_3a:Ha 1 wF1_3 wF1_4:=by and_intros <;> kernel_rfl
theorem sF1_3b:Hb 1 wF1_3 wF1_4:=by and_intros <;> kernel_rfl
theorem sF1_4a:Ha 1 wF1_4 wF1_4:=by and_intros <;> kernel_rfl
theorem sF1_4b:Hb 1 wF1_4 wF1_4:=by and_intros <;> kernel_rfl
theorem sF2_0a:Ha 1 wF2_0 wF2_1:=by and_intros <;> kernel_rfl
theorem sF2_0b:Hb 1 wF2_0 wF2_1:=by and_intros <;> kernel_rfl
theorem sF2_1a:Ha 1 wF2_1 wF2_2:=by and_intros <;> kernel_rfl
theorem sF2_1b:Hb 1 wF2_1 wF2_2:=by and_intros <;> kernel_rfl
theorem sF2_2a:Ha 1 wF2_2 wF2_3:=by and_intros <;> kernel_rfl
theorem sF2_2b:Hb 1 wF2_2 wF2_3:=by and_intros <;> kernel_rfl
theorem sF2_3a:Ha 1 wF2_3 wF2_4:=by and_intros <;> kernel_rfl
theorem sF2_3b:Hb 1 wF2_3 wF2_4:=by and_intros <;> kernel_rfl
theorem sF2_4a:Ha 1 wF2_4 wF2_5:=by and_intros <;> kernel_rfl
theorem sF2_4b:Hb 1 wF2_4 wF2_5:=by and_intros <;> kernel_rfl
end Go.Proofs.YtnohkcklakipoaaGreatDoor.FnStale
