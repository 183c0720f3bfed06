/- The program's WorldOk tells what the reference's tells. -/
import Derived.Test.YtcaknaddeblecaaGreatDoorWorlds
namespace Go.Proofs.YtcaknaddeblecaaGreatDoor.WorldOk
open Go Go.RowKit Go.Proofs Go.Proofs.YtcaknaddeblecaaGreatDoor.Ev Go.Proofs.YtcaknaddeblecaaGreatDoor.Pl Go.Proofs.YtcaknaddeblecaaGreatDoor.Fns
set_option linter.unusedVariables false

theorem same (k : Nat) (hk : fuel < k) (w : D14) (ok : Ty.Ok U14 w) (hc : cost U14 w ≤ big) : ∃ r, F31 k w = some r ∧ F32 k w = some r :=
  ⟨_, world_S k hk w hc, world_I k hk w hc⟩
end Go.Proofs.YtcaknaddeblecaaGreatDoor.WorldOk
