/- A step of each world, reckoned at each life. -/
import Derived.Test.YtnohkcklakipoaaGreatDoorStaleW
namespace Go.Proofs.YtnohkcklakipoaaGreatDoor.FnStale
open Go Go.RowKit Go.Proofs Go.Proofs.YtnohkcklakipoaaGreatDoor.Ev Go.Proofs.YtnohkcklakipoaaGreatDoor.Fns
set_option maxRecDepth 1000000
set_option linter.unusedVariables false
set_option linter.unusedSimpArgs false
theorem sF2_5a:Ha 1 wF2_5 wF2_6:=by and_intros <;> kernel_rfl
theorem sF2_5b:Hb 1 wF2_5 wF2_6:=by and_intros <;> kernel_rfl
theorem sF2_6a:Ha 1 wF2_6 wF2_7:=by and_intros <;> kernel_rfl
theorem sF2_6b:Hb 1 wF2_6 wF2_7:=by and_intros <;> kernel_rfl
theorem sF2_7a:Ha 1 wF2_7 wF2_7:=by and_intros <;> kernel_rfl
theorem sF2_7b:Hb 1 wF2_7 wF2_7:=by and_intros <;> kernel_rfl
theorem sF3_0a:Ha 1 wF3_0 wF3_1:=by and_intros <;> kernel_rfl
theorem sF3_0b:Hb 1 wF3_0 wF3_1:=by and_intros <;> kernel_rfl
theorem sF3_1a:Ha 1 wF3_1 wF3_2:=by and_intros <;> kernel_rfl
theorem sF3_1b:Hb 1 wF3_1 wF3_2:=by and_intros <;> kernel_rfl
theorem sF3_2a:Ha 1 wF3_2 wF3_3:=by and_intros <;> kernel_rfl
theorem sF3_2b:Hb 1 wF3_2 wF3_3:=by and_intros <;> kernel_rfl
theorem sF3_3a:Ha 1 wF3_3 wF3_4:=by and_intros <;> kernel_rfl
theorem sF3_3b:Hb 1 wF3_3 wF3_4:=by and_intros <;> kernel_rfl
theorem sF3_4a:Ha 1 wF3_4 wF3_5:=by and_intros <;> kernel_rfl
theorem sF3_4b:Hb 1 wF3_4 wF3_5:=by and_intros <;> kernel_rfl
theorem sF3_5a:Ha 1 wF3_5 wF3_6:=by and_intros <;> kernel_rfl
theorem sF3_5b:Hb 1 wF3_5 wF3_6:=by and_intros <;> kernel_rfl
theorem sF3_6a:Ha 1 wF3_6 wF3_7:=by and_intros <;> kernel_rfl
theorem sF3_6b:Hb 1 wF3_6 wF3_7:=by and_intros <;> kernel_rfl
theorem sF3_7a:Ha 1 wF3_7 wF3_8:=by and_intros <;> kernel_rfl
theorem sF3_7b:Hb 1 wF3_7 wF3_8:=by and_intros <;> kernel_rfl
theorem sF3_8a:Ha 1 wF3_8 wF3_9:=by and_intros <;> kernel_rfl
theorem sF3_8b:Hb 1 wF3_8 wF3_9:=by and_intros <;> kernel_rfl
theorem sF3_9a:Ha 1 wF3_9 wF3_10:=by and_intros <;> kernel_rfl
theorem sF3_9b:Hb 1 wF3_9 wF3_10:=by and_intros <;> kernel_rfl
theorem sF3_10a:Ha 1 wF3_10 wF3_10:=by and_intros <;> kernel_rfl
theorem sF3_10b:Hb 1 wF3_10 wF3_10:=by and_intros <;> kernel_rfl
theorem sF4_0a:Ha 1 wF4_0 wF4_1:=by and_intros <;> kernel_rfl
theorem sF4_0b:Hb 1 wF4_0 wF4_1:=by and_intros <;> kernel_rfl
theorem sF4_1a:Ha 1 wF4_1 wF4_2:=by and_intros <;> kernel_rfl
theorem sF4_1b:Hb 1 wF4_1 wF4_2:=by and_intros <;> kernel_rfl
theorem sF4_2a:Ha 1 wF4_2 wF4_3:=by and_intros <;> kernel_rfl
theorem sF4_2b:Hb 1 wF4_2 wF4_3:=by and_intros <;> kernel_rfl
theorem sF4_3a:Ha 1 wF4_3 wF4_4:=by and_intros <;> kernel_rfl
theorem sF4_3b:Hb 1 wF4_3 wF4_4:=by and_intros <;> kernel_rfl
theorem sF4_4a:Ha 1 wF4_4 wF4_5:=by and_intros <;> kernel_rfl
theorem sF4_4b:Hb 1 wF4_4 wF4_5:=by and_intros <;> kernel_rfl
theorem sF4_5a:Ha 1 wF4_5 wF4_6:=by and_intros <;> kernel_rfl
theorem sF4_5b:Hb 1 wF4_5 wF4_6:=by and_intros <;> kernel_rfl
end Go.Proofs.YtnohkcklakipoaaGreatDoor.FnStale
