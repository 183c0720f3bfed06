/- The program's ReadStored reads what the reference's reads. -/
import Derived.Test.YtigbabjhcihmaaaGreatDoorMk
import Derived.Test.YtigbabjhcihmaaaGreatDoorReadC
namespace Go.Proofs.YtigbabjhcihmaaaGreatDoor.ReadStored
open Go Go.RowKit Go.Proofs Go.Proofs.YtigbabjhcihmaaaGreatDoor.Ev Go.Proofs.YtigbabjhcihmaaaGreatDoor.Pl Go.Proofs.YtigbabjhcihmaaaGreatDoor.Fns
set_option linter.unusedVariables false
theorem same (k:Nat) (hk:fuel<k) (s:ByteArray) (hs:s.size≤big):∃ w:D2 × Bool,cost U2 w.1≤big∧F18 k s=some w∧F19 k s=some w:=by
  obtain ⟨r,h1,h2,h3,h4⟩:=readSt_S k hk s hs
  obtain ⟨q,g1,g2,g3,g4⟩:=readSt_I k hk s hs
  have e:r=q:=by
    cases hr:r.2 with
    | true =>
      obtain ⟨a1,a2,a3⟩:=h2 hr
      have:=g4 r.1 a2 (Nat.le_trans a1 hs) a3
      rw [this,← hr]
    | false =>
      cases hq:q.2 with
      | true =>
        obtain ⟨a1,a2,a3⟩:=g2 hq
        have:=h4 q.1 a2 (Nat.le_trans a1 hs) a3
        rw [this] at hr
        cases hr
      | false =>
        have b1:=h3 hr
        have b2:=g3 hq
        exact Prod.ext (b1.trans b2.symm) (hr.trans hq.symm)
  subst e
  refine ⟨r,?_,h1,g1⟩
  cases hr:r.2 with
  | true=>exact Nat.le_trans (h2 hr).1 hs
  | false=>rw [h3 hr,noSt_cost];exact Nat.zero_le _
end Go.Proofs.YtigbabjhcihmaaaGreatDoor.ReadStored
