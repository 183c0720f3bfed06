/- A step of each world, reckoned at each life. -/
import Derived.Test.YtnohkcklakipoaaGreatDoorStaleW
namespace Go.Proofs.YtnohkcklakipoaaGreatDoor.FnStale
open Go Go.RowKit Go.Proofs Go.Proofs.YtnohkcklakipoaaGreatDoor.Ev Go.Proofs.YtnohkcklakipoaaGreatDoor.Fns
set_option maxRecDepth 1000000
set_option linter.unusedVariables false
set_option linter.unusedSimpArgs false
theorem sL5_5a:Ha 1 wL5_5 wL5_6:=by and_intros <;> kernel_rfl
theorem sL5_5b:Hb 1 wL5_5 wL5_6:=by and_intros <;> kernel_rfl
theorem sL5_6a:Ha 1 wL5_6 wL5_7:=by and_intros <;> kernel_rfl
theorem sL5_6b:Hb 1 wL5_6 wL5_7:=by and_intros <;> kernel_rfl
theorem sL5_7a:Ha 1 wL5_7 wL5_8:=by and_intros <;> kernel_rfl
theorem sL5_7b:Hb 1 wL5_7 wL5_8:=by and_intros <;> kernel_rfl
theorem sL5_8a:Ha 1 wL5_8 wL5_9:=by and_intros <;> kernel_rfl
theorem sL5_8b:Hb 1 wL5_8 wL5_9:=by and_intros <;> kernel_rfl
theorem sL5_9a:Ha 1 wL5_9 wL5_10:=by and_intros <;> kernel_rfl
theorem sL5_9b:Hb 1 wL5_9 wL5_10:=by and_intros <;> kernel_rfl
theorem sL5_10a:Ha 1 wL5_10 wL5_11:=by and_intros <;> kernel_rfl
theorem sL5_10b:Hb 1 wL5_10 wL5_11:=by and_intros <;> kernel_rfl
theorem sL5_11a:Ha 1 wL5_11 wL5_12:=by and_intros <;> kernel_rfl
theorem sL5_11b:Hb 1 wL5_11 wL5_12:=by and_intros <;> kernel_rfl
theorem sL5_12a:Ha 1 wL5_12 wL5_13:=by and_intros <;> kernel_rfl
theorem sL5_12b:Hb 1 wL5_12 wL5_13:=by and_intros <;> kernel_rfl
theorem sL5_13a:Ha 1 wL5_13 wL5_14:=by and_intros <;> kernel_rfl
theorem sL5_13b:Hb 1 wL5_13 wL5_14:=by and_intros <;> kernel_rfl
theorem sL5_14a:Ha 1 wL5_14 wL5_15:=by and_intros <;> kernel_rfl
theorem sL5_14b:Hb 1 wL5_14 wL5_15:=by and_intros <;> kernel_rfl
theorem sL5_15a:Ha 1 wL5_15 wL5_16:=by and_intros <;> kernel_rfl
theorem sL5_15b:Hb 1 wL5_15 wL5_16:=by and_intros <;> kernel_rfl
theorem sL5_16a:Ha 1 wL5_16 wL5_17:=by and_intros <;> kernel_rfl
theorem sL5_16b:Hb 1 wL5_16 wL5_17:=by and_intros <;> kernel_rfl
theorem sL5_17a:Ha 1 wL5_17 wL5_18:=by and_intros <;> kernel_rfl
theorem sL5_17b:Hb 1 wL5_17 wL5_18:=by and_intros <;> kernel_rfl
theorem sL5_18a:Ha 1 wL5_18 wL5_19:=by and_intros <;> kernel_rfl
theorem sL5_18b:Hb 1 wL5_18 wL5_19:=by and_intros <;> kernel_rfl
theorem sL5_19a:Ha 1 wL5_19 wL5_19:=by and_intros <;> kernel_rfl
theorem sL5_19b:Hb 1 wL5_19 wL5_19:=by and_intros <;> kernel_rfl
end Go.Proofs.YtnohkcklakipoaaGreatDoor.FnStale
