/- What is stored, shown: the program's text is the reference's. -/
import Derived.Test.YteliolfafmmhlaaGreatDoorResp
namespace Go.Proofs.YteliolfafmmhlaaGreatDoor.Fns
open Go Go.RowKit Go.Proofs Go.Proofs.YteliolfafmmhlaaGreatDoor.Ev Go.Proofs.YteliolfafmmhlaaGreatDoor.Pl
set_option linter.unusedVariables false
set_option linter.unusedSimpArgs false
set_option maxRecDepth 100000

def storedOk (a : D2) : Bool := uriOk a.1 && respOk a.2.2.1 && (decide (0 ≤ a.2.2.2.1) && decide (a.2.2.2.1 ≤ 2000000000)) && (decide (a.2.2.2.1 ≤ a.2.2.2.2) && decide (a.2.2.2.2 ≤ 2000000000)) && decide ((a.2.1.length : Int) ≤ 12)

theorem stored_cost {a : D2} : cost U2 a = a.1.size + cost (.slice U0) a.2.1 + cost U1 a.2.2.1 := by
  simp only [cost]; omega

theorem stored_S (k : Nat) (hk : fuel < k) (a : D2) (hc : cost U2 a ≤ big) : F149 k a = some (storedOk a) := by
  have h := stored_cost (a := a)
  have hc' : cost U2 a ≤ 1048576 := hc
  have hk' : 2097152 < k := hk
  unfold F149 storedOk
  rw [uri_S k a.1 (by omega) (by omega), resp_S k hk a.2.2.1 (by omega), in_S, in_S]
  simp only [Option.bind_some]
  cases uriOk a.1 <;> cases respOk a.2.2.1 <;> cases (decide (0 ≤ a.2.2.2.1) && decide (a.2.2.2.1 ≤ 2000000000)) <;> cases (decide (a.2.2.2.1 ≤ a.2.2.2.2) && decide (a.2.2.2.2 ≤ 2000000000)) <;> rfl

theorem stored_I (k : Nat) (hk : fuel < k) (a : D2) (hc : cost U2 a ≤ big) : F157 k a = some (storedOk a) := by
  have h := stored_cost (a := a)
  have hc' : cost U2 a ≤ 1048576 := hc
  have hk' : 2097152 < k := hk
  unfold F157 storedOk
  rw [uri_I k a.1 (by omega) (by omega), resp_I k hk a.2.2.1 (by omega), in_I, in_I]
  simp only [Option.bind_some]
  cases uriOk a.1 <;> cases respOk a.2.2.1 <;> cases (decide (0 ≤ a.2.2.2.1) && decide (a.2.2.2.1 ≤ 2000000000)) <;> cases (decide (a.2.2.2.1 ≤ a.2.2.2.2) && decide (a.2.2.2.2 ≤ 2000000000)) <;> rfl

theorem stored_resp {a : D2} (ok : Ty.Ok U2 a) : Ty.Ok U1 a.2.2.1 := ok.2.2.1

end Go.Proofs.YteliolfafmmhlaaGreatDoor.Fns
