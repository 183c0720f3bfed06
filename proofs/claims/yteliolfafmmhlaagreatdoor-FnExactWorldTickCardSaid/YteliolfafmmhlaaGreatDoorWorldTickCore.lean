/- The program's WorldTick puts together what the reference's does. -/
import Derived.Test.YteliolfafmmhlaaGreatDoorMk
import Derived.Test.YteliolfafmmhlaaGreatDoorCopyWorlds
namespace Go.Proofs.YteliolfafmmhlaaGreatDoor.WorldTick
open Go Go.RowKit Go.Proofs Go.Proofs.YteliolfafmmhlaaGreatDoor.Ev Go.Proofs.YteliolfafmmhlaaGreatDoor.Pl Go.Proofs.YteliolfafmmhlaaGreatDoor.Fns
set_option linter.unusedVariables false

theorem same (k : Nat) (hk : fuel < k) (w : D14) (n : Int) (_ : Ty.Ok U14 w) (_ : Ty.Ok (.int .i64) n) (hw : cost U14 w ≤ big) : ∃ w', cost U14 w' ≤ big ∧ F31 k w n = some w' ∧ F33 k w n = some w' := by
  unfold F31 F33
  rw [copyWorld_S k hk w hw, copyWorld_I k hk w hw, world_S k hk w hw, world_I k hk w hw, in_S, in_I]
  simp only [Option.bind_some]
  have h3 : ∀ (m : Int), cost U14 (m, w.2.1, w.2.2.1, w.2.2.2.1, w.2.2.2.2.1, w.2.2.2.2.2.1, w.2.2.2.2.2.2) = cost U14 w := fun _ => rfl
  cases worldOk k w with
  | false => exact ⟨w, hw, rfl, rfl⟩
  | true =>
  cases (decide (0 ≤ n) && decide (n ≤ 1000)) with
  | false => exact ⟨w, hw, rfl, rfl⟩
  | true =>
  cases decide (wrap64 (w.1 + n) ≤ 2000000000) with
  | false => exact ⟨w, hw, rfl, rfl⟩
  | true => exact ⟨_, Nat.le_trans (Nat.le_of_eq (h3 (wrap64 (w.1 + n)))) hw, rfl, rfl⟩
end Go.Proofs.YteliolfafmmhlaaGreatDoor.WorldTick
