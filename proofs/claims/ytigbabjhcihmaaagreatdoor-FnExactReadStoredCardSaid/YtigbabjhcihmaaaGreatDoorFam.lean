/- The plain laws of the functions that each law uses: sizes, copies, comparisons. -/
import Derived.Test.YtigbabjhcihmaaaGreatDoorFns
import Derived.Test.YtigbabjhcihmaaaGreatDoorEv6
namespace Go.Proofs.YtigbabjhcihmaaaGreatDoor.Fns
open Go Go.RowKit Go.Proofs Go.Proofs.YtigbabjhcihmaaaGreatDoor.Ev Go.Proofs.YtigbabjhcihmaaaGreatDoor.Pl
set_option maxRecDepth 100000
set_option linter.unusedVariables false
set_option linter.unusedSimpArgs false
theorem eq163:eqOk U0 F163:=by
  intro k (x:D0) hk hx
  unfold F163
  simp only [eq_self,decide_true,Bool.not_true,cond_false,Option.bind_some,beq_self_eq_true]
theorem eq65:eqOk (.slice U0) F65:=eq_list (e:=U0) (G:=F163) eq163
theorem eq66:eqOk U1 F66:=by
  intro k (x:D1) hk hx
  unfold F66
  have e0:=eq65 k x.2.1 hk (by simp only [U1,cost] at hx ⊢;omega)
  simp only [e0,eq_self,decide_true,Bool.not_true,cond_false,Option.bind_some,beq_self_eq_true]
theorem eq20:eqOk U2 F20:=by
  intro k (x:D2) hk hx
  unfold F20
  have e0:=eq65 k x.2.1 hk (by simp only [U2,cost] at hx ⊢;omega)
  have e1:=eq66 k x.2.2.1 hk (by simp only [U2,cost] at hx ⊢;omega)
  simp only [e0,e1,eq_self,decide_true,Bool.not_true,cond_false,Option.bind_some,beq_self_eq_true]
end Go.Proofs.YtigbabjhcihmaaaGreatDoor.Fns
