/- FnStale: what comes between the loops and behind them. -/
import Derived.Test.YtnohkcklakipoaaGreatDoorStaleW
import Derived.Test.YtnohkcklakipoaaGreatDoorStaleP
namespace Go.Proofs.YtnohkcklakipoaaGreatDoor.FnStale
open Go Go.RowKit Go.Proofs Go.Proofs.YtnohkcklakipoaaGreatDoor.Ev Go.Proofs.YtnohkcklakipoaaGreatDoor.Fns
set_option maxRecDepth 1000000
set_option linter.unusedVariables false
set_option linter.unusedSimpArgs false
theorem midL1 (l:Nat) (h:l<20) (c:Int) (CL CF:Int→D14→Option Bool):midC 2097153 [(l:Int),0,0] (l:Int) 0 (pack c (wA1_7 l)) CL CF=CL 0 (wL1_0 l):=by rcases l with _ | _ | _ | _ | _ | _ | _ | _ | _ | _ | _ | _ | _ | _ | _ | _ | _ | _ | _ | _ | l <;> first | omega | kernel_rfl
theorem finL1 (l:Nat) (h:l<20) (c:Int):finL 2097153 0 0 (pack c (wL1_7 l))=some true:=by rcases l with _ | _ | _ | _ | _ | _ | _ | _ | _ | _ | _ | _ | _ | _ | _ | _ | _ | _ | _ | _ | l <;> first | omega | kernel_rfl
theorem midF1 (l:Nat) (h:l<20) (c:Int) (CL CF:Int→D14→Option Bool):midC 2097153 [(l:Int),0,1] (l:Int) 0 (pack c (wA1_7 l)) CL CF=CF 1 (wF1_0 l):=by rcases l with _ | _ | _ | _ | _ | _ | _ | _ | _ | _ | _ | _ | _ | _ | _ | _ | _ | _ | _ | _ | l <;> first | omega | kernel_rfl
theorem finF1 (l:Nat) (h:l<20) (c:Int):finF 2097153 0 1 (pack c (wF1_4 l))=some true:=by rcases l with _ | _ | _ | _ | _ | _ | _ | _ | _ | _ | _ | _ | _ | _ | _ | _ | _ | _ | _ | _ | l <;> first | omega | kernel_rfl
theorem midL2 (l:Nat) (h:l<20) (c:Int) (CL CF:Int→D14→Option Bool):midC 2097153 [(l:Int),1,0] (l:Int) 1 (pack c (wA2_10 l)) CL CF=CL 0 (wL2_0 l):=by rcases l with _ | _ | _ | _ | _ | _ | _ | _ | _ | _ | _ | _ | _ | _ | _ | _ | _ | _ | _ | _ | l <;> first | omega | kernel_rfl
theorem finL2 (l:Nat) (h:l<20) (c:Int):finL 2097153 1 0 (pack c (wL2_10 l))=some true:=by rcases l with _ | _ | _ | _ | _ | _ | _ | _ | _ | _ | _ | _ | _ | _ | _ | _ | _ | _ | _ | _ | l <;> first | omega | kernel_rfl
theorem midF2 (l:Nat) (h:l<20) (c:Int) (CL CF:Int→D14→Option Bool):midC 2097153 [(l:Int),1,1] (l:Int) 1 (pack c (wA2_10 l)) CL CF=CF 1 (wF2_0 l):=by rcases l with _ | _ | _ | _ | _ | _ | _ | _ | _ | _ | _ | _ | _ | _ | _ | _ | _ | _ | _ | _ | l <;> first | omega | kernel_rfl
theorem finF2 (l:Nat) (h:l<20) (c:Int):finF 2097153 1 1 (pack c (wF2_7 l))=some true:=by rcases l with _ | _ | _ | _ | _ | _ | _ | _ | _ | _ | _ | _ | _ | _ | _ | _ | _ | _ | _ | _ | l <;> first | omega | kernel_rfl
theorem midL3 (l:Nat) (h:l<20) (c:Int) (CL CF:Int→D14→Option Bool):midC 2097153 [(l:Int),2,0] (l:Int) 2 (pack c (wA3_13 l)) CL CF=CL 0 (wL3_0 l):=by rcases l with _ | _ | _ | _ | _ | _ | _ | _ | _ | _ | _ | _ | _ | _ | _ | _ | _ | _ | _ | _ | l <;> first | omega | kernel_rfl
theorem finL3 (l:Nat) (h:l<20) (c:Int):finL 2097153 2 0 (pack c (wL3_13 l))=some true:=by rcases l with _ | _ | _ | _ | _ | _ | _ | _ | _ | _ | _ | _ | _ | _ | _ | _ | _ | _ | _ | _ | l <;> first | omega | kernel_rfl
theorem midF3 (l:Nat) (h:l<20) (c:Int) (CL CF:Int→D14→Option Bool):midC 2097153 [(l:Int),2,1] (l:Int) 2 (pack c (wA3_13 l)) CL CF=CF 1 (wF3_0 l):=by rcases l with _ | _ | _ | _ | _ | _ | _ | _ | _ | _ | _ | _ | _ | _ | _ | _ | _ | _ | _ | _ | l <;> first | omega | kernel_rfl
theorem finF3 (l:Nat) (h:l<20) (c:Int):finF 2097153 2 1 (pack c (wF3_10 l))=some true:=by rcases l with _ | _ | _ | _ | _ | _ | _ | _ | _ | _ | _ | _ | _ | _ | _ | _ | _ | _ | _ | _ | l <;> first | omega | kernel_rfl
theorem midL4 (l:Nat) (h:l<20) (c:Int) (CL CF:Int→D14→Option Bool):midC 2097153 [(l:Int),3,0] (l:Int) 3 (pack c (wA4_16 l)) CL CF=CL 0 (wL4_0 l):=by rcases l with _ | _ | _ | _ | _ | _ | _ | _ | _ | _ | _ | _ | _ | _ | _ | _ | _ | _ | _ | _ | l <;> first | omega | kernel_rfl
theorem finL4 (l:Nat) (h:l<20) (c:Int):finL 2097153 3 0 (pack c (wL4_16 l))=some true:=by rcases l with _ | _ | _ | _ | _ | _ | _ | _ | _ | _ | _ | _ | _ | _ | _ | _ | _ | _ | _ | _ | l <;> first | omega | kernel_rfl
theorem midF4 (l:Nat) (h:l<20) (c:Int) (CL CF:Int→D14→Option Bool):midC 2097153 [(l:Int),3,1] (l:Int) 3 (pack c (wA4_16 l)) CL CF=CF 1 (wF4_0 l):=by rcases l with _ | _ | _ | _ | _ | _ | _ | _ | _ | _ | _ | _ | _ | _ | _ | _ | _ | _ | _ | _ | l <;> first | omega | kernel_rfl
theorem finF4 (l:Nat) (h:l<20) (c:Int):finF 2097153 3 1 (pack c (wF4_13 l))=some true:=by rcases l with _ | _ | _ | _ | _ | _ | _ | _ | _ | _ | _ | _ | _ | _ | _ | _ | _ | _ | _ | _ | l <;> first | omega | kernel_rfl
theorem midL5 (l:Nat) (h:l<20) (c:Int) (CL CF:Int→D14→Option Bool):midC 2097153 [(l:Int),4,0] (l:Int) 4 (pack c (wA5_19 l)) CL CF=CL 0 (wL5_0 l):=by rcases l with _ | _ | _ | _ | _ | _ | _ | _ | _ | _ | _ | _ | _ | _ | _ | _ | _ | _ | _ | _ | l <;> first | omega | kernel_rfl
theorem finL5 (l:Nat) (h:l<20) (c:Int):finL 2097153 4 0 (pack c (wL5_19 l))=some true:=by rcases l with _ | _ | _ | _ | _ | _ | _ | _ | _ | _ | _ | _ | _ | _ | _ | _ | _ | _ | _ | _ | l <;> first | omega | kernel_rfl
theorem midF5 (l:Nat) (h:l<20) (c:Int) (CL CF:Int→D14→Option Bool):midC 2097153 [(l:Int),4,1] (l:Int) 4 (pack c (wA5_19 l)) CL CF=CF 1 (wF5_0 l):=by rcases l with _ | _ | _ | _ | _ | _ | _ | _ | _ | _ | _ | _ | _ | _ | _ | _ | _ | _ | _ | _ | l <;> first | omega | kernel_rfl
theorem finF5 (l:Nat) (h:l<20) (c:Int):finF 2097153 4 1 (pack c (wF5_16 l))=some true:=by rcases l with _ | _ | _ | _ | _ | _ | _ | _ | _ | _ | _ | _ | _ | _ | _ | _ | _ | _ | _ | _ | l <;> first | omega | kernel_rfl
end Go.Proofs.YtnohkcklakipoaaGreatDoor.FnStale
