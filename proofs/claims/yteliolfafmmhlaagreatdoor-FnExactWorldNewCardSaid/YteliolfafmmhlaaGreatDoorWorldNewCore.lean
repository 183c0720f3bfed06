/- The program's WorldNew puts together what the reference's does. -/
import Derived.Test.YteliolfafmmhlaaGreatDoorMk
import Derived.Test.YteliolfafmmhlaaGreatDoorNewWorlds
namespace Go.Proofs.YteliolfafmmhlaaGreatDoor.WorldNew
open Go Go.RowKit Go.Proofs Go.Proofs.YteliolfafmmhlaaGreatDoor.Ev Go.Proofs.YteliolfafmmhlaaGreatDoor.Pl Go.Proofs.YteliolfafmmhlaaGreatDoor.Fns
set_option linter.unusedVariables false

theorem same (k : Nat) (hk : fuel < k) (l : List ByteArray) (c : D6) (o : D8) (_ : Ty.Ok (.slice .str) l) (_ : Ty.Ok U6 c) (_ : Ty.Ok U8 o) (hl : cost (.slice .str) l ≤ big) (hc : cost U6 c ≤ big) (ho : cost U8 o ≤ big)
    (hs : cost (.slice .str) l + cost U6 c + cost U8 o ≤ big) : ∃ w, cost U14 w ≤ big ∧ F10 k l c o = some w ∧ F14 k l c o = some w := by
  have h := cost_len (e := .str) l
  exact ⟨newWorld k l c o, Nat.le_trans (newWorld_cost k l c o) hs, new_S k hk l c o (Nat.le_trans h hl) hc ho, new_I k hk l c o (Nat.le_trans h hl) hc ho⟩
end Go.Proofs.YteliolfafmmhlaaGreatDoor.WorldNew
