/- The program's ShowEvent and the reference's tell the same text. -/
import Derived.Test.YthbdlnhcioolgaaDoorShowEvt
namespace Go.Proofs.YthbdlnhcioolgaaDoor.ShowEvent
open Go Go.RowKit Go.Proofs Go.Proofs.YthbdlnhcioolgaaDoor.Ev Go.Proofs.YthbdlnhcioolgaaDoor.Pl Go.Proofs.YthbdlnhcioolgaaDoor.Fns
set_option linter.unusedVariables false

theorem same (k : Nat) (hk : fuel < k) (e : D0) (ok : Ty.Ok U0 e) (hc : cost U0 e ≤ big) : ∃ w, F7 k e = some w ∧ F9 k e = some w := by
  have hu : e.2.2.2.1.size ≤ 1048576 := by
    have h1 : e.2.2.2.1.size ≤ big := by simp only [cost] at hc; omega
    exact h1
  obtain ⟨w, h1, h2, _⟩ := showEvent k hk e ok hu
  exact ⟨w, h1, h2⟩
end Go.Proofs.YthbdlnhcioolgaaDoor.ShowEvent
