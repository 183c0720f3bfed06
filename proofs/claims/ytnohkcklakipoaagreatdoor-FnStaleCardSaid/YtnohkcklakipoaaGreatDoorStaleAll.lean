/- FnStale: all together. -/
import Derived.Test.YtnohkcklakipoaaGreatDoorStaleS0
import Derived.Test.YtnohkcklakipoaaGreatDoorStaleS1
import Derived.Test.YtnohkcklakipoaaGreatDoorStaleS2
import Derived.Test.YtnohkcklakipoaaGreatDoorStaleS3
import Derived.Test.YtnohkcklakipoaaGreatDoorStaleS4
import Derived.Test.YtnohkcklakipoaaGreatDoorStaleS5
import Derived.Test.YtnohkcklakipoaaGreatDoorStaleS6
import Derived.Test.YtnohkcklakipoaaGreatDoorStaleS7
import Derived.Test.YtnohkcklakipoaaGreatDoorStaleS8
import Derived.Test.YtnohkcklakipoaaGreatDoorStaleS9
import Derived.Test.YtnohkcklakipoaaGreatDoorStaleEA
import Derived.Test.YtnohkcklakipoaaGreatDoorStaleEM
namespace Go.Proofs.YtnohkcklakipoaaGreatDoor.FnStale
open Go Go.RowKit Go.Proofs Go.Proofs.YtnohkcklakipoaaGreatDoor.Ev Go.Proofs.YtnohkcklakipoaaGreatDoor.Fns
set_option maxRecDepth 1000000
set_option linter.unusedVariables false
set_option linter.unusedSimpArgs false
theorem rA1 (l:Nat) (h:l<20):go 0 9 (wA1_0 l)=some (wA1_7 l) :=
  go_cons (q20 sA1_0a sA1_0b l h) (go_cons (q20 sA1_1a sA1_1b l h) (go_cons (q20 sA1_2a sA1_2b l h) (go_cons (q20 sA1_3a sA1_3b l h) (go_cons (q20 sA1_4a sA1_4b l h) (go_cons (q20 sA1_5a sA1_5b l h) (go_cons (q20 sA1_6a sA1_6b l h) (go_fix (q20 sA1_7a sA1_7b l h) 2)))))))
theorem rA2 (l:Nat) (h:l<20):go 0 17 (wA2_0 l)=some (wA2_10 l) :=
  go_cons (q20 sA2_0a sA2_0b l h) (go_cons (q20 sA2_1a sA2_1b l h) (go_cons (q20 sA2_2a sA2_2b l h) (go_cons (q20 sA2_3a sA2_3b l h) (go_cons (q20 sA2_4a sA2_4b l h) (go_cons (q20 sA2_5a sA2_5b l h) (go_cons (q20 sA2_6a sA2_6b l h) (go_cons (q20 sA2_7a sA2_7b l h) (go_cons (q20 sA2_8a sA2_8b l h) (go_cons (q20 sA2_9a sA2_9b l h) (go_fix (q20 sA2_10a sA2_10b l h) 7))))))))))
theorem rA3 (l:Nat) (h:l<20):go 0 25 (wA3_0 l)=some (wA3_13 l) :=
  go_cons (q20 sA3_0a sA3_0b l h) (go_cons (q20 sA3_1a sA3_1b l h) (go_cons (q20 sA3_2a sA3_2b l h) (go_cons (q20 sA3_3a sA3_3b l h) (go_cons (q20 sA3_4a sA3_4b l h) (go_cons (q20 sA3_5a sA3_5b l h) (go_cons (q20 sA3_6a sA3_6b l h) (go_cons (q20 sA3_7a sA3_7b l h) (go_cons (q20 sA3_8a sA3_8b l h) (go_cons (q20 sA3_9a sA3_9b l h) (go_cons (q20 sA3_10a sA3_10b l h) (go_cons (q20 sA3_11a sA3_11b l h) (go_cons (q20 sA3_12a sA3_12b l h) (go_fix (q20 sA3_13a sA3_13b l h) 12)))))))))))))
theorem rA4 (l:Nat) (h:l<20):go 0 33 (wA4_0 l)=some (wA4_16 l) :=
  go_cons (q20 sA4_0a sA4_0b l h) (go_cons (q20 sA4_1a sA4_1b l h) (go_cons (q20 sA4_2a sA4_2b l h) (go_cons (q20 sA4_3a sA4_3b l h) (go_cons (q20 sA4_4a sA4_4b l h) (go_cons (q20 sA4_5a sA4_5b l h) (go_cons (q20 sA4_6a sA4_6b l h) (go_cons (q20 sA4_7a sA4_7b l h) (go_cons (q20 sA4_8a sA4_8b l h) (go_cons (q20 sA4_9a sA4_9b l h) (go_cons (q20 sA4_10a sA4_10b l h) (go_cons (q20 sA4_11a sA4_11b l h) (go_cons (q20 sA4_12a sA4_12b l h) (go_cons (q20 sA4_13a sA4_13b l h) (go_cons (q20 sA4_14a sA4_14b l h) (go_cons (q20 sA4_15a sA4_15b l h) (go_fix (q20 sA4_16a sA4_16b l h) 17))))))))))))))))
theorem rA5 (l:Nat) (h:l<20):go 0 41 (wA5_0 l)=some (wA5_19 l) :=
  go_cons (q20 sA5_0a sA5_0b l h) (go_cons (q20 sA5_1a sA5_1b l h) (go_cons (q20 sA5_2a sA5_2b l h) (go_cons (q20 sA5_3a sA5_3b l h) (go_cons (q20 sA5_4a sA5_4b l h) (go_cons (q20 sA5_5a sA5_5b l h) (go_cons (q20 sA5_6a sA5_6b l h) (go_cons (q20 sA5_7a sA5_7b l h) (go_cons (q20 sA5_8a sA5_8b l h) (go_cons (q20 sA5_9a sA5_9b l h) (go_cons (q20 sA5_10a sA5_10b l h) (go_cons (q20 sA5_11a sA5_11b l h) (go_cons (q20 sA5_12a sA5_12b l h) (go_cons (q20 sA5_13a sA5_13b l h) (go_cons (q20 sA5_14a sA5_14b l h) (go_cons (q20 sA5_15a sA5_15b l h) (go_cons (q20 sA5_16a sA5_16b l h) (go_cons (q20 sA5_17a sA5_17b l h) (go_cons (q20 sA5_18a sA5_18b l h) (go_fix (q20 sA5_19a sA5_19b l h) 22)))))))))))))))))))
theorem rF1 (l:Nat) (h:l<20):go 1 9 (wF1_0 l)=some (wF1_4 l) :=
  go_cons (q20 sF1_0a sF1_0b l h) (go_cons (q20 sF1_1a sF1_1b l h) (go_cons (q20 sF1_2a sF1_2b l h) (go_cons (q20 sF1_3a sF1_3b l h) (go_fix (q20 sF1_4a sF1_4b l h) 5))))
theorem rF2 (l:Nat) (h:l<20):go 1 17 (wF2_0 l)=some (wF2_7 l) :=
  go_cons (q20 sF2_0a sF2_0b l h) (go_cons (q20 sF2_1a sF2_1b l h) (go_cons (q20 sF2_2a sF2_2b l h) (go_cons (q20 sF2_3a sF2_3b l h) (go_cons (q20 sF2_4a sF2_4b l h) (go_cons (q20 sF2_5a sF2_5b l h) (go_cons (q20 sF2_6a sF2_6b l h) (go_fix (q20 sF2_7a sF2_7b l h) 10)))))))
theorem rF3 (l:Nat) (h:l<20):go 1 25 (wF3_0 l)=some (wF3_10 l) :=
  go_cons (q20 sF3_0a sF3_0b l h) (go_cons (q20 sF3_1a sF3_1b l h) (go_cons (q20 sF3_2a sF3_2b l h) (go_cons (q20 sF3_3a sF3_3b l h) (go_cons (q20 sF3_4a sF3_4b l h) (go_cons (q20 sF3_5a sF3_5b l h) (go_cons (q20 sF3_6a sF3_6b l h) (go_cons (q20 sF3_7a sF3_7b l h) (go_cons (q20 sF3_8a sF3_8b l h) (go_cons (q20 sF3_9a sF3_9b l h) (go_fix (q20 sF3_10a sF3_10b l h) 15))))))))))
theorem rF4 (l:Nat) (h:l<20):go 1 33 (wF4_0 l)=some (wF4_13 l) :=
  go_cons (q20 sF4_0a sF4_0b l h) (go_cons (q20 sF4_1a sF4_1b l h) (go_cons (q20 sF4_2a sF4_2b l h) (go_cons (q20 sF4_3a sF4_3b l h) (go_cons (q20 sF4_4a sF4_4b l h) (go_cons (q20 sF4_5a sF4_5b l h) (go_cons (q20 sF4_6a sF4_6b l h) (go_cons (q20 sF4_7a sF4_7b l h) (go_cons (q20 sF4_8a sF4_8b l h) (go_cons (q20 sF4_9a sF4_9b l h) (go_cons (q20 sF4_10a sF4_10b l h) (go_cons (q20 sF4_11a sF4_11b l h) (go_cons (q20 sF4_12a sF4_12b l h) (go_fix (q20 sF4_13a sF4_13b l h) 20)))))))))))))
theorem rF5 (l:Nat) (h:l<20):go 1 41 (wF5_0 l)=some (wF5_16 l) :=
  go_cons (q20 sF5_0a sF5_0b l h) (go_cons (q20 sF5_1a sF5_1b l h) (go_cons (q20 sF5_2a sF5_2b l h) (go_cons (q20 sF5_3a sF5_3b l h) (go_cons (q20 sF5_4a sF5_4b l h) (go_cons (q20 sF5_5a sF5_5b l h) (go_cons (q20 sF5_6a sF5_6b l h) (go_cons (q20 sF5_7a sF5_7b l h) (go_cons (q20 sF5_8a sF5_8b l h) (go_cons (q20 sF5_9a sF5_9b l h) (go_cons (q20 sF5_10a sF5_10b l h) (go_cons (q20 sF5_11a sF5_11b l h) (go_cons (q20 sF5_12a sF5_12b l h) (go_cons (q20 sF5_13a sF5_13b l h) (go_cons (q20 sF5_14a sF5_14b l h) (go_cons (q20 sF5_15a sF5_15b l h) (go_fix (q20 sF5_16a sF5_16b l h) 25))))))))))))))))
theorem rL1 (l:Nat) (h:l<20):go 1 9 (wL1_0 l)=some (wL1_7 l) :=
  go_cons (q20 sL1_0a sL1_0b l h) (go_cons (q20 sL1_1a sL1_1b l h) (go_cons (q20 sL1_2a sL1_2b l h) (go_cons (q20 sL1_3a sL1_3b l h) (go_cons (q20 sL1_4a sL1_4b l h) (go_cons (q20 sL1_5a sL1_5b l h) (go_cons (q20 sL1_6a sL1_6b l h) (go_fix (q20 sL1_7a sL1_7b l h) 2)))))))
theorem rL2 (l:Nat) (h:l<20):go 1 17 (wL2_0 l)=some (wL2_10 l) :=
  go_cons (q20 sL2_0a sL2_0b l h) (go_cons (q20 sL2_1a sL2_1b l h) (go_cons (q20 sL2_2a sL2_2b l h) (go_cons (q20 sL2_3a sL2_3b l h) (go_cons (q20 sL2_4a sL2_4b l h) (go_cons (q20 sL2_5a sL2_5b l h) (go_cons (q20 sL2_6a sL2_6b l h) (go_cons (q20 sL2_7a sL2_7b l h) (go_cons (q20 sL2_8a sL2_8b l h) (go_cons (q20 sL2_9a sL2_9b l h) (go_fix (q20 sL2_10a sL2_10b l h) 7))))))))))
theorem rL3 (l:Nat) (h:l<20):go 1 25 (wL3_0 l)=some (wL3_13 l) :=
  go_cons (q20 sL3_0a sL3_0b l h) (go_cons (q20 sL3_1a sL3_1b l h) (go_cons (q20 sL3_2a sL3_2b l h) (go_cons (q20 sL3_3a sL3_3b l h) (go_cons (q20 sL3_4a sL3_4b l h) (go_cons (q20 sL3_5a sL3_5b l h) (go_cons (q20 sL3_6a sL3_6b l h) (go_cons (q20 sL3_7a sL3_7b l h) (go_cons (q20 sL3_8a sL3_8b l h) (go_cons (q20 sL3_9a sL3_9b l h) (go_cons (q20 sL3_10a sL3_10b l h) (go_cons (q20 sL3_11a sL3_11b l h) (go_cons (q20 sL3_12a sL3_12b l h) (go_fix (q20 sL3_13a sL3_13b l h) 12)))))))))))))
theorem rL4 (l:Nat) (h:l<20):go 1 33 (wL4_0 l)=some (wL4_16 l) :=
  go_cons (q20 sL4_0a sL4_0b l h) (go_cons (q20 sL4_1a sL4_1b l h) (go_cons (q20 sL4_2a sL4_2b l h) (go_cons (q20 sL4_3a sL4_3b l h) (go_cons (q20 sL4_4a sL4_4b l h) (go_cons (q20 sL4_5a sL4_5b l h) (go_cons (q20 sL4_6a sL4_6b l h) (go_cons (q20 sL4_7a sL4_7b l h) (go_cons (q20 sL4_8a sL4_8b l h) (go_cons (q20 sL4_9a sL4_9b l h) (go_cons (q20 sL4_10a sL4_10b l h) (go_cons (q20 sL4_11a sL4_11b l h) (go_cons (q20 sL4_12a sL4_12b l h) (go_cons (q20 sL4_13a sL4_13b l h) (go_cons (q20 sL4_14a sL4_14b l h) (go_cons (q20 sL4_15a sL4_15b l h) (go_fix (q20 sL4_16a sL4_16b l h) 17))))))))))))))))
theorem rL5 (l:Nat) (h:l<20):go 1 41 (wL5_0 l)=some (wL5_19 l) :=
  go_cons (q20 sL5_0a sL5_0b l h) (go_cons (q20 sL5_1a sL5_1b l h) (go_cons (q20 sL5_2a sL5_2b l h) (go_cons (q20 sL5_3a sL5_3b l h) (go_cons (q20 sL5_4a sL5_4b l h) (go_cons (q20 sL5_5a sL5_5b l h) (go_cons (q20 sL5_6a sL5_6b l h) (go_cons (q20 sL5_7a sL5_7b l h) (go_cons (q20 sL5_8a sL5_8b l h) (go_cons (q20 sL5_9a sL5_9b l h) (go_cons (q20 sL5_10a sL5_10b l h) (go_cons (q20 sL5_11a sL5_11b l h) (go_cons (q20 sL5_12a sL5_12b l h) (go_cons (q20 sL5_13a sL5_13b l h) (go_cons (q20 sL5_14a sL5_14b l h) (go_cons (q20 sL5_15a sL5_15b l h) (go_cons (q20 sL5_16a sL5_16b l h) (go_cons (q20 sL5_17a sL5_17b l h) (go_cons (q20 sL5_18a sL5_18b l h) (go_fix (q20 sL5_19a sL5_19b l h) 22)))))))))))))))))))
theorem all_0_0 (l:Nat) (h:l<20):F4 2097153 [(l:Int),0,0]=some true:=by
  rw [form,pre1 l h]
  refine (loop (B:=9) (i:=0) (fin:=mid 2097153 [(l:Int),0,0] (l:Int) 0) (by omega) (fun rec c w=>(at1 2097153 [(l:Int),0,0] (l:Int) 0 rec c w).trans (by rw [show rounds 0=((9:Nat):Int) from by kernel_rfl])) 9 0 2097153 _ _ rfl (by omega) (rA1 l h)).trans ?_
  rw [mid_eq,midL1 l h]
  refine (loop (B:=9) (i:=1) (fin:=finL 2097153 0 0) (by omega) (fun rec c w=>(atL 2097153 0 0 rec c w).trans (by rw [show rounds 0=((9:Nat):Int) from by kernel_rfl])) 9 0 2097153 _ _ rfl (by omega) (rL1 l h)).trans ?_
  exact finL1 l h _
theorem all_0_1 (l:Nat) (h:l<20):F4 2097153 [(l:Int),0,1]=some true:=by
  rw [form,pre1 l h]
  refine (loop (B:=9) (i:=0) (fin:=mid 2097153 [(l:Int),0,1] (l:Int) 0) (by omega) (fun rec c w=>(at1 2097153 [(l:Int),0,1] (l:Int) 0 rec c w).trans (by rw [show rounds 0=((9:Nat):Int) from by kernel_rfl])) 9 0 2097153 _ _ rfl (by omega) (rA1 l h)).trans ?_
  rw [mid_eq,midF1 l h]
  refine (loop (B:=9) (i:=1) (fin:=finF 2097153 0 1) (by omega) (fun rec c w=>(atF 2097153 0 1 rec c w).trans (by rw [show rounds 0=((9:Nat):Int) from by kernel_rfl])) 9 0 2097153 _ _ rfl (by omega) (rF1 l h)).trans ?_
  exact finF1 l h _
theorem all_1_0 (l:Nat) (h:l<20):F4 2097153 [(l:Int),1,0]=some true:=by
  rw [form,pre2 l h]
  refine (loop (B:=17) (i:=0) (fin:=mid 2097153 [(l:Int),1,0] (l:Int) 1) (by omega) (fun rec c w=>(at1 2097153 [(l:Int),1,0] (l:Int) 1 rec c w).trans (by rw [show rounds 1=((17:Nat):Int) from by kernel_rfl])) 17 0 2097153 _ _ rfl (by omega) (rA2 l h)).trans ?_
  rw [mid_eq,midL2 l h]
  refine (loop (B:=17) (i:=1) (fin:=finL 2097153 1 0) (by omega) (fun rec c w=>(atL 2097153 1 0 rec c w).trans (by rw [show rounds 1=((17:Nat):Int) from by kernel_rfl])) 17 0 2097153 _ _ rfl (by omega) (rL2 l h)).trans ?_
  exact finL2 l h _
theorem all_1_1 (l:Nat) (h:l<20):F4 2097153 [(l:Int),1,1]=some true:=by
  rw [form,pre2 l h]
  refine (loop (B:=17) (i:=0) (fin:=mid 2097153 [(l:Int),1,1] (l:Int) 1) (by omega) (fun rec c w=>(at1 2097153 [(l:Int),1,1] (l:Int) 1 rec c w).trans (by rw [show rounds 1=((17:Nat):Int) from by kernel_rfl])) 17 0 2097153 _ _ rfl (by omega) (rA2 l h)).trans ?_
  rw [mid_eq,midF2 l h]
  refine (loop (B:=17) (i:=1) (fin:=finF 2097153 1 1) (by omega) (fun rec c w=>(atF 2097153 1 1 rec c w).trans (by rw [show rounds 1=((17:Nat):Int) from by kernel_rfl])) 17 0 2097153 _ _ rfl (by omega) (rF2 l h)).trans ?_
  exact finF2 l h _
theorem all_2_0 (l:Nat) (h:l<20):F4 2097153 [(l:Int),2,0]=some true:=by
  rw [form,pre3 l h]
  refine (loop (B:=25) (i:=0) (fin:=mid 2097153 [(l:Int),2,0] (l:Int) 2) (by omega) (fun rec c w=>(at1 2097153 [(l:Int),2,0] (l:Int) 2 rec c w).trans (by rw [show rounds 2=((25:Nat):Int) from by kernel_rfl])) 25 0 2097153 _ _ rfl (by omega) (rA3 l h)).trans ?_
  rw [mid_eq,midL3 l h]
  refine (loop (B:=25) (i:=1) (fin:=finL 2097153 2 0) (by omega) (fun rec c w=>(atL 2097153 2 0 rec c w).trans (by rw [show rounds 2=((25:Nat):Int) from by kernel_rfl])) 25 0 2097153 _ _ rfl (by omega) (rL3 l h)).trans ?_
  exact finL3 l h _
theorem all_2_1 (l:Nat) (h:l<20):F4 2097153 [(l:Int),2,1]=some true:=by
  rw [form,pre3 l h]
  refine (loop (B:=25) (i:=0) (fin:=mid 2097153 [(l:Int),2,1] (l:Int) 2) (by omega) (fun rec c w=>(at1 2097153 [(l:Int),2,1] (l:Int) 2 rec c w).trans (by rw [show rounds 2=((25:Nat):Int) from by kernel_rfl])) 25 0 2097153 _ _ rfl (by omega) (rA3 l h)).trans ?_
  rw [mid_eq,midF3 l h]
  refine (loop (B:=25) (i:=1) (fin:=finF 2097153 2 1) (by omega) (fun rec c w=>(atF 2097153 2 1 rec c w).trans (by rw [show rounds 2=((25:Nat):Int) from by kernel_rfl])) 25 0 2097153 _ _ rfl (by omega) (rF3 l h)).trans ?_
  exact finF3 l h _
theorem all_3_0 (l:Nat) (h:l<20):F4 2097153 [(l:Int),3,0]=some true:=by
  rw [form,pre4 l h]
  refine (loop (B:=33) (i:=0) (fin:=mid 2097153 [(l:Int),3,0] (l:Int) 3) (by omega) (fun rec c w=>(at1 2097153 [(l:Int),3,0] (l:Int) 3 rec c w).trans (by rw [show rounds 3=((33:Nat):Int) from by kernel_rfl])) 33 0 2097153 _ _ rfl (by omega) (rA4 l h)).trans ?_
  rw [mid_eq,midL4 l h]
  refine (loop (B:=33) (i:=1) (fin:=finL 2097153 3 0) (by omega) (fun rec c w=>(atL 2097153 3 0 rec c w).trans (by rw [show rounds 3=((33:Nat):Int) from by kernel_rfl])) 33 0 2097153 _ _ rfl (by omega) (rL4 l h)).trans ?_
  exact finL4 l h _
theorem all_3_1 (l:Nat) (h:l<20):F4 2097153 [(l:Int),3,1]=some true:=by
  rw [form,pre4 l h]
  refine (loop (B:=33) (i:=0) (fin:=mid 2097153 [(l:Int),3,1] (l:Int) 3) (by omega) (fun rec c w=>(at1 2097153 [(l:Int),3,1] (l:Int) 3 rec c w).trans (by rw [show rounds 3=((33:Nat):Int) from by kernel_rfl])) 33 0 2097153 _ _ rfl (by omega) (rA4 l h)).trans ?_
  rw [mid_eq,midF4 l h]
  refine (loop (B:=33) (i:=1) (fin:=finF 2097153 3 1) (by omega) (fun rec c w=>(atF 2097153 3 1 rec c w).trans (by rw [show rounds 3=((33:Nat):Int) from by kernel_rfl])) 33 0 2097153 _ _ rfl (by omega) (rF4 l h)).trans ?_
  exact finF4 l h _
theorem all_4_0 (l:Nat) (h:l<20):F4 2097153 [(l:Int),4,0]=some true:=by
  rw [form,pre5 l h]
  refine (loop (B:=41) (i:=0) (fin:=mid 2097153 [(l:Int),4,0] (l:Int) 4) (by omega) (fun rec c w=>(at1 2097153 [(l:Int),4,0] (l:Int) 4 rec c w).trans (by rw [show rounds 4=((41:Nat):Int) from by kernel_rfl])) 41 0 2097153 _ _ rfl (by omega) (rA5 l h)).trans ?_
  rw [mid_eq,midL5 l h]
  refine (loop (B:=41) (i:=1) (fin:=finL 2097153 4 0) (by omega) (fun rec c w=>(atL 2097153 4 0 rec c w).trans (by rw [show rounds 4=((41:Nat):Int) from by kernel_rfl])) 41 0 2097153 _ _ rfl (by omega) (rL5 l h)).trans ?_
  exact finL5 l h _
theorem all_4_1 (l:Nat) (h:l<20):F4 2097153 [(l:Int),4,1]=some true:=by
  rw [form,pre5 l h]
  refine (loop (B:=41) (i:=0) (fin:=mid 2097153 [(l:Int),4,1] (l:Int) 4) (by omega) (fun rec c w=>(at1 2097153 [(l:Int),4,1] (l:Int) 4 rec c w).trans (by rw [show rounds 4=((41:Nat):Int) from by kernel_rfl])) 41 0 2097153 _ _ rfl (by omega) (rA5 l h)).trans ?_
  rw [mid_eq,midF5 l h]
  refine (loop (B:=41) (i:=1) (fin:=finF 2097153 4 1) (by omega) (fun rec c w=>(atF 2097153 4 1 rec c w).trans (by rw [show rounds 4=((41:Nat):Int) from by kernel_rfl])) 41 0 2097153 _ _ rfl (by omega) (rF5 l h)).trans ?_
  exact finF5 l h _
end Go.Proofs.YtnohkcklakipoaaGreatDoor.FnStale
