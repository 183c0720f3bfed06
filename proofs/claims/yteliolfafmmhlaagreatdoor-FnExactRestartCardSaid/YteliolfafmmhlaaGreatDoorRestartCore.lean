/- The program's Restart puts together what the reference's does. -/
import Derived.Test.YteliolfafmmhlaaGreatDoorMk
import Derived.Test.YteliolfafmmhlaaGreatDoorNewWorlds
namespace Go.Proofs.YteliolfafmmhlaaGreatDoor.Restart
open Go Go.RowKit Go.Proofs Go.Proofs.YteliolfafmmhlaaGreatDoor.Ev Go.Proofs.YteliolfafmmhlaaGreatDoor.Pl Go.Proofs.YteliolfafmmhlaaGreatDoor.Fns
set_option linter.unusedVariables false

theorem same (k : Nat) (hk : fuel < k) (w : D14) (l : List ByteArray) (_ : Ty.Ok U14 w) (_ : Ty.Ok (.slice .str) l) (hw : cost U14 w ≤ big) (hl : cost (.slice .str) l ≤ big)
    (hs : cost U14 w + cost (.slice .str) l ≤ big) : ∃ w', cost U14 w' ≤ big ∧ F34 k w l = some w' ∧ F35 k w l = some w' := by
  have h := cost_len (e := .str) l
  have h1 := world_cost (w := w)
  have hb : big = 1048576 := rfl
  have hc : cost U6 w.2.2.2.1 ≤ big := by omega
  have ho0 : cost U8 w.2.2.2.2.2.1 = cost (.slice U7) w.2.2.2.2.2.1 := rfl
  have ho : cost U8 w.2.2.2.2.2.1 ≤ big := by omega
  have h2 := newWorld_cost k l w.2.2.2.1 w.2.2.2.2.2.1
  unfold F34 F35
  rw [world_S k hk w hw, world_I k hk w hw, new_S k hk l _ _ (by omega) hc ho, new_I k hk l _ _ (by omega) hc ho]
  simp only [Option.bind_some]
  cases worldOk k w with
  | false => exact ⟨noWorld, by rw [noWorld_cost]; exact Nat.zero_le _, rfl, rfl⟩
  | true =>
  simp only [Bool.not_true, cond_false]
  by_cases g : (4 : Int) < (l.length : Int)
  · rw [dT g, dF (show ¬ (l.length : Int) ≤ 4 by omega)]
    refine ⟨noWorld, by rw [noWorld_cost]; exact Nat.zero_le _, ?_, rfl⟩
    unfold newWorld
    rw [dT g]; rfl
  · rw [dF g, dT (show (l.length : Int) ≤ 4 by omega)]
    refine ⟨_, ?_, rfl, rfl⟩
    have h3 : ∀ (n : Int) (x : D14), cost U14 (n, x.2.1, x.2.2.1, x.2.2.2.1, x.2.2.2.2.1, x.2.2.2.2.2.1, x.2.2.2.2.2.2) = cost U14 x := fun _ _ => rfl
    rw [h3]; omega
end Go.Proofs.YteliolfafmmhlaaGreatDoor.Restart
