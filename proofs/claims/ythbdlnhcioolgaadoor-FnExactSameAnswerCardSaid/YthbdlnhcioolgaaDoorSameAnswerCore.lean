/- The program's SameAnswer and the reference's tell the same. -/
import Derived.Test.YthbdlnhcioolgaaDoorVersionIn
namespace Go.Proofs.YthbdlnhcioolgaaDoor.SameAnswer
open Go Go.RowKit Go.Proofs Go.Proofs.YthbdlnhcioolgaaDoor.Ev Go.Proofs.YthbdlnhcioolgaaDoor.Pl Go.Proofs.YthbdlnhcioolgaaDoor.Fns
set_option linter.unusedVariables false

theorem same (k : Nat) (hk : fuel < k) (a b : D2) (oka : Ty.Ok U2 a) (okb : Ty.Ok U2 b) (ca : cost U2 a ≤ big) (cb : cost U2 b ≤ big) :
    ∃ w, F16 k a b = some w ∧ F18 k a b = some w := by
  obtain ⟨v, h1, h2⟩ := version_same k hk a ca
  obtain ⟨u, g1, g2⟩ := version_same k hk b cb
  unfold F16 F18
  simp only [h1, h2, g1, g2, Option.bind_some]
  cases decide (a.1 = b.1) with
  | false => exact ⟨_, rfl, rfl⟩
  | true => cases decide (a.2.2 = b.2.2) with
    | false => exact ⟨_, rfl, rfl⟩
    | true => exact ⟨_, rfl, rfl⟩
end Go.Proofs.YthbdlnhcioolgaaDoor.SameAnswer
