/- A step of each world, reckoned at each life. -/
import Derived.Test.YtnohkcklakipoaaGreatDoorStaleW
namespace Go.Proofs.YtnohkcklakipoaaGreatDoor.FnStale
open Go Go.RowKit Go.Proofs Go.Proofs.YtnohkcklakipoaaGreatDoor.Ev Go.Proofs.YtnohkcklakipoaaGreatDoor.Fns
set_option maxRecDepth 1000000
set_option linter.unusedVariables false
set_option linter.unusedSimpArgs false
theorem sA1_0a:Ha 0 wA1_0 wA1_1:=by and_intros <;> kernel_rfl
theorem sA1_0b:Hb 0 wA1_0 wA1_1:=by and_intros <;> kernel_rfl
theorem sA1_1a:Ha 0 wA1_1 wA1_2:=by and_intros <;> kernel_rfl
theorem sA1_1b:Hb 0 wA1_1 wA1_2:=by and_intros <;> kernel_rfl
theorem sA1_2a:Ha 0 wA1_2 wA1_3:=by and_intros <;> kernel_rfl
theorem sA1_2b:Hb 0 wA1_2 wA1_3:=by and_intros <;> kernel_rfl
theorem sA1_3a:Ha 0 wA1_3 wA1_4:=by and_intros <;> kernel_rfl
theorem sA1_3b:Hb 0 wA1_3 wA1_4:=by and_intros <;> kernel_rfl
theorem sA1_4a:Ha 0 wA1_4 wA1_5:=by and_intros <;> kernel_rfl
theorem sA1_4b:Hb 0 wA1_4 wA1_5:=by and_intros <;> kernel_rfl
theorem sA1_5a:Ha 0 wA1_5 wA1_6:=by and_intros <;> kernel_rfl
theorem sA1_5b:Hb 0 wA1_5 wA1_6:=by and_intros <;> kernel_rfl
theorem sA1_6a:Ha 0 wA1_6 wA1_7:=by and_intros <;> kernel_rfl
theorem sA1_6b:Hb 0 wA1_6 wA1_7:=by and_intros <;> kernel_rfl
theorem sA1_7a:Ha 0 wA1_7 wA1_7:=by and_intros <;> kernel_rfl
theorem sA1_7b:Hb 0 wA1_7 wA1_7:=by and_intros <;> kernel_rfl
theorem sA2_0a:Ha 0 wA2_0 wA2_1:=by and_intros <;> kernel_rfl
theorem sA2_0b:Hb 0 wA2_0 wA2_1:=by and_intros <;> kernel_rfl
theorem sA2_1a:Ha 0 wA2_1 wA2_2:=by and_intros <;> kernel_rfl
theorem sA2_1b:Hb 0 wA2_1 wA2_2:=by and_intros <;> kernel_rfl
theorem sA2_2a:Ha 0 wA2_2 wA2_3:=by and_intros <;> kernel_rfl
theorem sA2_2b:Hb 0 wA2_2 wA2_3:=by and_intros <;> kernel_rfl
theorem sA2_3a:Ha 0 wA2_3 wA2_4:=by and_intros <;> kernel_rfl
theorem sA2_3b:Hb 0 wA2_3 wA2_4:=by and_intros <;> kernel_rfl
theorem sA2_4a:Ha 0 wA2_4 wA2_5:=by and_intros <;> kernel_rfl
theorem sA2_4b:Hb 0 wA2_4 wA2_5:=by and_intros <;> kernel_rfl
theorem sA2_5a:Ha 0 wA2_5 wA2_6:=by and_intros <;> kernel_rfl
theorem sA2_5b:Hb 0 wA2_5 wA2_6:=by and_intros <;> kernel_rfl
theorem sA2_6a:Ha 0 wA2_6 wA2_7:=by and_intros <;> kernel_rfl
theorem sA2_6b:Hb 0 wA2_6 wA2_7:=by and_intros <;> kernel_rfl
theorem sA2_7a:Ha 0 wA2_7 wA2_8:=by and_intros <;> kernel_rfl
theorem sA2_7b:Hb 0 wA2_7 wA2_8:=by and_intros <;> kernel_rfl
theorem sA2_8a:Ha 0 wA2_8 wA2_9:=by and_intros <;> kernel_rfl
theorem sA2_8b:Hb 0 wA2_8 wA2_9:=by and_intros <;> kernel_rfl
theorem sA2_9a:Ha 0 wA2_9 wA2_10:=by and_intros <;> kernel_rfl
theorem sA2_9b:Hb 0 wA2_9 wA2_10:=by and_intros <;> kernel_rfl
theorem sA2_10a:Ha 0 wA2_10 wA2_10:=by and_intros <;> kernel_rfl
theorem sA2_10b:Hb 0 wA2_10 wA2_10:=by and_intros <;> kernel_rfl
theorem sA3_0a:Ha 0 wA3_0 wA3_1:=by and_intros <;> kernel_rfl
theorem sA3_0b:Hb 0 wA3_0 wA3_1:=by and_intros <;> kernel_rfl
end Go.Proofs.YtnohkcklakipoaaGreatDoor.FnStale
