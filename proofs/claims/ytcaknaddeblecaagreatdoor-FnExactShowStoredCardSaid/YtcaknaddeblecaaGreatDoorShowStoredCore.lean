/- The program's ShowStored and the reference's tell the same text. -/
import Derived.Test.YtcaknaddeblecaaGreatDoorStored
namespace Go.Proofs.YtcaknaddeblecaaGreatDoor.ShowStored
open Go Go.RowKit Go.Proofs Go.Proofs.YtcaknaddeblecaaGreatDoor.Ev Go.Proofs.YtcaknaddeblecaaGreatDoor.Pl Go.Proofs.YtcaknaddeblecaaGreatDoor.Fns
set_option linter.unusedVariables false

theorem same (k : Nat) (hk : fuel < k) (a : D2) (ok : Ty.Ok U2 a) (hc : cost U2 a ≤ big) : ∃ w, F9 k a = some w ∧ F11 k a = some w := by
  obtain ⟨w, h1, h2, _⟩ := showS_same k hk a ok hc
  exact ⟨w, h1, h2⟩
end Go.Proofs.YtcaknaddeblecaaGreatDoor.ShowStored
