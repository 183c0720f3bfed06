/- FnStale: what comes ahead of the first loop. -/
import Derived.Test.YtnohkcklakipoaaGreatDoorStaleW
import Derived.Test.YtnohkcklakipoaaGreatDoorStaleP
namespace Go.Proofs.YtnohkcklakipoaaGreatDoor.FnStale
open Go Go.RowKit Go.Proofs Go.Proofs.YtnohkcklakipoaaGreatDoor.Ev Go.Proofs.YtnohkcklakipoaaGreatDoor.Fns
set_option maxRecDepth 1000000
set_option linter.unusedVariables false
set_option linter.unusedSimpArgs false
theorem pre1 (l:Nat) (h:l<20) (b:Int) (C:Int→Int→D14→Option Bool):restC 2097153 [(l:Int),0,b] C=C (l:Int) 0 (wA1_0 l):=by rcases l with _ | _ | _ | _ | _ | _ | _ | _ | _ | _ | _ | _ | _ | _ | _ | _ | _ | _ | _ | _ | l <;> first | omega | kernel_rfl
theorem pre2 (l:Nat) (h:l<20) (b:Int) (C:Int→Int→D14→Option Bool):restC 2097153 [(l:Int),1,b] C=C (l:Int) 1 (wA2_0 l):=by rcases l with _ | _ | _ | _ | _ | _ | _ | _ | _ | _ | _ | _ | _ | _ | _ | _ | _ | _ | _ | _ | l <;> first | omega | kernel_rfl
theorem pre3 (l:Nat) (h:l<20) (b:Int) (C:Int→Int→D14→Option Bool):restC 2097153 [(l:Int),2,b] C=C (l:Int) 2 (wA3_0 l):=by rcases l with _ | _ | _ | _ | _ | _ | _ | _ | _ | _ | _ | _ | _ | _ | _ | _ | _ | _ | _ | _ | l <;> first | omega | kernel_rfl
theorem pre4 (l:Nat) (h:l<20) (b:Int) (C:Int→Int→D14→Option Bool):restC 2097153 [(l:Int),3,b] C=C (l:Int) 3 (wA4_0 l):=by rcases l with _ | _ | _ | _ | _ | _ | _ | _ | _ | _ | _ | _ | _ | _ | _ | _ | _ | _ | _ | _ | l <;> first | omega | kernel_rfl
theorem pre5 (l:Nat) (h:l<20) (b:Int) (C:Int→Int→D14→Option Bool):restC 2097153 [(l:Int),4,b] C=C (l:Int) 4 (wA5_0 l):=by rcases l with _ | _ | _ | _ | _ | _ | _ | _ | _ | _ | _ | _ | _ | _ | _ | _ | _ | _ | _ | _ | l <;> first | omega | kernel_rfl
end Go.Proofs.YtnohkcklakipoaaGreatDoor.FnStale
