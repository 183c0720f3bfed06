/- Worlds: which are one. The program's test is the reference's. -/
import Derived.Test.YtigbabjhcihmaaaGreatDoorCaches
import Derived.Test.YtigbabjhcihmaaaGreatDoorOrigins
namespace Go.Proofs.YtigbabjhcihmaaaGreatDoor.Fns
open Go Go.RowKit Go.Proofs Go.Proofs.YtigbabjhcihmaaaGreatDoor.Ev Go.Proofs.YtigbabjhcihmaaaGreatDoor.Pl
set_option linter.unusedVariables false
set_option linter.unusedSimpArgs false
set_option maxRecDepth 100000
set_option maxHeartbeats 4000000

def connOk (n : Int) (c : D13) : Bool := (decide (0 ≤ c.1) && decide (c.1 ≤ 7)) && (decide (-1 ≤ c.2.2.2.2.2.2.2.1) && decide (c.2.2.2.2.2.2.2.1 ≤ n - 1)) && !(decide (c.1 = 5) && decide (c.2.2.2.2.2.2.2.1 < 0)) && !decide ((1500 : Int) < (c.2.1.size : Int)) && (!(decide (1 ≤ c.1) && decide (c.1 ≤ 6)) || reqOk c.2.2.2.1)

def worldOk (k : Nat) (w : D16) : Bool := cacheOk k w.2.2.2.1 && originOk w.2.2.2.2.2.1 && (decide (0 ≤ w.1) && decide (w.1 ≤ 2000000000)) && !decide ((4 : Int) < (w.2.2.1.length : Int)) && !decide (w.2.1 < 0) && w.2.2.1.all (connOk (w.2.2.2.2.1.length : Int))

theorem world_cost {w : D16} : cost U16 w = cost (.slice U13) w.2.2.1 + cost U10 w.2.2.2.1 + cost (.slice U14) w.2.2.2.2.1 + cost (.slice U1) w.2.2.2.2.2.1 + cost (.slice U15) w.2.2.2.2.2.2 := by simp only [cost]; omega
theorem conn_cost {c : D13} : cost U11 c.2.2.2.1 ≤ cost U13 c := by simp only [cost]; omega

end Go.Proofs.YtigbabjhcihmaaaGreatDoor.Fns
