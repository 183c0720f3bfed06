/- What is stored, shown: the program's text is the reference's. -/
import Derived.Test.YtigbabjhcihmaaaGreatDoorResp
namespace Go.Proofs.YtigbabjhcihmaaaGreatDoor.Fns
open Go Go.RowKit Go.Proofs Go.Proofs.YtigbabjhcihmaaaGreatDoor.Ev Go.Proofs.YtigbabjhcihmaaaGreatDoor.Pl
set_option linter.unusedVariables false
set_option linter.unusedSimpArgs false
set_option maxRecDepth 100000

def storedOk (a : D6) : Bool := uriOk a.1 && respOk a.2.2.1 && (decide (0 ≤ a.2.2.2.1) && decide (a.2.2.2.1 ≤ 2000000000)) && (decide (a.2.2.2.1 ≤ a.2.2.2.2) && decide (a.2.2.2.2 ≤ 2000000000)) && decide ((a.2.1.length : Int) ≤ 12)

theorem stored_cost {a : D6} : cost U6 a = a.1.size + cost (.slice U0) a.2.1 + cost U5 a.2.2.1 := by
  simp only [cost]; omega

theorem stored_S (k : Nat) (hk : fuel < k) (a : D6) (hc : cost U6 a ≤ big) : F109 k a = some (storedOk a) := by
  have h := stored_cost (a := a)
  have hc' : cost U6 a ≤ 1048576 := hc
  have hk' : 2097152 < k := hk
  unfold F109 storedOk
  rw [uri_S k a.1 (by omega) (by omega), resp_S k hk a.2.2.1 (by omega), in_S, in_S]
  simp only [Option.bind_some]
  cases uriOk a.1 <;> cases respOk a.2.2.1 <;> cases (decide (0 ≤ a.2.2.2.1) && decide (a.2.2.2.1 ≤ 2000000000)) <;> cases (decide (a.2.2.2.1 ≤ a.2.2.2.2) && decide (a.2.2.2.2 ≤ 2000000000)) <;> rfl

theorem stored_I (k : Nat) (hk : fuel < k) (a : D6) (hc : cost U6 a ≤ big) : F125 k a = some (storedOk a) := by
  have h := stored_cost (a := a)
  have hc' : cost U6 a ≤ 1048576 := hc
  have hk' : 2097152 < k := hk
  unfold F125 storedOk
  rw [uri_I k a.1 (by omega) (by omega), resp_I k hk a.2.2.1 (by omega), in_I, in_I]
  simp only [Option.bind_some]
  cases uriOk a.1 <;> cases respOk a.2.2.1 <;> cases (decide (0 ≤ a.2.2.2.1) && decide (a.2.2.2.1 ≤ 2000000000)) <;> cases (decide (a.2.2.2.1 ≤ a.2.2.2.2) && decide (a.2.2.2.2 ≤ 2000000000)) <;> rfl

theorem stored_resp {a : D6} (ok : Ty.Ok U6 a) : Ty.Ok U5 a.2.2.1 := ok.2.2.1

end Go.Proofs.YtigbabjhcihmaaaGreatDoor.Fns
