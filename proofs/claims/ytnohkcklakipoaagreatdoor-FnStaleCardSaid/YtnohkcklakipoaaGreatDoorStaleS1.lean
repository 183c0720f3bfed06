/- A step of each world, reckoned at each life. -/
import Derived.Test.YtnohkcklakipoaaGreatDoorStaleW
namespace Go.Proofs.YtnohkcklakipoaaGreatDoor.FnStale
open Go Go.RowKit Go.Proofs Go.Proofs.YtnohkcklakipoaaGreatDoor.Ev Go.Proofs.YtnohkcklakipoaaGreatDoor.Fns
set_option maxRecDepth 1000000
set_option linter.unusedVariables false
set_option linter.unusedSimpArgs false
theorem sA3_1a:Ha 0 wA3_1 wA3_2:=by and_intros <;> kernel_rfl
theorem sA3_1b:Hb 0 wA3_1 wA3_2:=by and_intros <;> kernel_rfl
theorem sA3_2a:Ha 0 wA3_2 wA3_3:=by and_intros <;> kernel_rfl
theorem sA3_2b:Hb 0 wA3_2 wA3_3:=by and_intros <;> kernel_rfl
theorem sA3_3a:Ha 0 wA3_3 wA3_4:=by and_intros <;> kernel_rfl
theorem sA3_3b:Hb 0 wA3_3 wA3_4:=by and_intros <;> kernel_rfl
theorem sA3_4a:Ha 0 wA3_4 wA3_5:=by and_intros <;> kernel_rfl
theorem sA3_4b:Hb 0 wA3_4 wA3_5:=by and_intros <;> kernel_rfl
theorem sA3_5a:Ha 0 wA3_5 wA3_6:=by and_intros <;> kernel_rfl
theorem sA3_5b:Hb 0 wA3_5 wA3_6:=by and_intros <;> kernel_rfl
theorem sA3_6a:Ha 0 wA3_6 wA3_7:=by and_intros <;> kernel_rfl
theorem sA3_6b:Hb 0 wA3_6 wA3_7:=by and_intros <;> kernel_rfl
theorem sA3_7a:Ha 0 wA3_7 wA3_8:=by and_intros <;> kernel_rfl
theorem sA3_7b:Hb 0 wA3_7 wA3_8:=by and_intros <;> kernel_rfl
theorem sA3_8a:Ha 0 wA3_8 wA3_9:=by and_intros <;> kernel_rfl
theorem sA3_8b:Hb 0 wA3_8 wA3_9:=by and_intros <;> kernel_rfl
theorem sA3_9a:Ha 0 wA3_9 wA3_10:=by and_intros <;> kernel_rfl
theorem sA3_9b:Hb 0 wA3_9 wA3_10:=by and_intros <;> kernel_rfl
theorem sA3_10a:Ha 0 wA3_10 wA3_11:=by and_intros <;> kernel_rfl
theorem sA3_10b:Hb 0 wA3_10 wA3_11:=by and_intros <;> kernel_rfl
theorem sA3_11a:Ha 0 wA3_11 wA3_12:=by and_intros <;> kernel_rfl
theorem sA3_11b:Hb 0 wA3_11 wA3_12:=by and_intros <;> kernel_rfl
theorem sA3_12a:Ha 0 wA3_12 wA3_13:=by and_intros <;> kernel_rfl
theorem sA3_12b:Hb 0 wA3_12 wA3_13:=by and_intros <;> kernel_rfl
theorem sA3_13a:Ha 0 wA3_13 wA3_13:=by and_intros <;> kernel_rfl
theorem sA3_13b:Hb 0 wA3_13 wA3_13:=by and_intros <;> kernel_rfl
theorem sA4_0a:Ha 0 wA4_0 wA4_1:=by and_intros <;> kernel_rfl
theorem sA4_0b:Hb 0 wA4_0 wA4_1:=by and_intros <;> kernel_rfl
theorem sA4_1a:Ha 0 wA4_1 wA4_2:=by and_intros <;> kernel_rfl
theorem sA4_1b:Hb 0 wA4_1 wA4_2:=by and_intros <;> kernel_rfl
theorem sA4_2a:Ha 0 wA4_2 wA4_3:=by and_intros <;> kernel_rfl
theorem sA4_2b:Hb 0 wA4_2 wA4_3:=by and_intros <;> kernel_rfl
theorem sA4_3a:Ha 0 wA4_3 wA4_4:=by and_intros <;> kernel_rfl
theorem sA4_3b:Hb 0 wA4_3 wA4_4:=by and_intros <;> kernel_rfl
theorem sA4_4a:Ha 0 wA4_4 wA4_5:=by and_intros <;> kernel_rfl
theorem sA4_4b:Hb 0 wA4_4 wA4_5:=by and_intros <;> kernel_rfl
theorem sA4_5a:Ha 0 wA4_5 wA4_6:=by and_intros <;> kernel_rfl
theorem sA4_5b:Hb 0 wA4_5 wA4_6:=by and_intros <;> kernel_rfl
theorem sA4_6a:Ha 0 wA4_6 wA4_7:=by and_intros <;> kernel_rfl
theorem sA4_6b:Hb 0 wA4_6 wA4_7:=by and_intros <;> kernel_rfl
end Go.Proofs.YtnohkcklakipoaaGreatDoor.FnStale
