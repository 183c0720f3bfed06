/- The program's OpenFlights and the reference's count alike. -/
import Derived.Test.YthbdlnhcioolgaaFam
namespace Go.Proofs.Ythbdlnhcioolgaa.OpenFlights
open Go Go.RowKit Go.Proofs Go.Proofs.Ythbdlnhcioolgaa.Ev Go.Proofs.Ythbdlnhcioolgaa.Pl Go.Proofs.Ythbdlnhcioolgaa.Fns
set_option linter.unusedVariables false

theorem same (k : Nat) (hk : fuel < k) (a : D14) (ok : Ty.Ok U14 a) (hc : cost U14 a ≤ big) : ∃ w, F14 k a = some w ∧ F16 k a = some w := by
  have he : F16 k a = F14 k a := rfl
  rw [he]
  suffices h : ∃ w, F14 k a = some w by obtain ⟨w, hw⟩ := h; exact ⟨w, hw, hw⟩
  have hlen : a.2.2.2.2.1.length ≤ 1048576 := by
    have h1 : cost (.slice U11) a.2.2.2.2.1 ≤ big := by simp only [cost] at hc ⊢; omega
    exact Nat.le_trans (cost_len (e := U11) a.2.2.2.2.1) h1
  have hk' : 2097152 < k := hk
  unfold F14
  refine Exists.imp (fun _ h => h.1) (iter_count (σ := Int × Int × Unit) (ρ := Int) (step := fun rec4 x3 => (bif (decide (x3.2.1 < (a.2.2.2.2.1.length : Int))) then (bif (decide (0 ≤ x3.2.1 ∧ x3.2.1 < (a.2.2.2.2.1.length : Int))) then (bif (a.2.2.2.2.1.getD x3.2.1.toNat Z11).2.1 then (rec4 ((wrap64 (x3.1 + (1 : Int))), (wrap64 (x3.2.1 + (1 : Int))), ())) else (rec4 (x3.1, (wrap64 (x3.2.1 + (1 : Int))), ()))) else none) else some x3.1))
    (fun i x => x.2.1 = (i : Int)) (fun _ => True) a.2.2.2.2.1.length ?_ ?_ k 0 ((0 : Int), (0 : Int), ()) rfl (Nat.zero_le _) (by omega))
  · rintro i ⟨xl, xi, _⟩ rec h1 hi hrec
    simp only at h1
    subst h1
    have e1 : decide ((i : Int) < (a.2.2.2.2.1.length : Int)) = true := dT (by omega)
    have e2 : decide (0 ≤ (i : Int) ∧ (i : Int) < (a.2.2.2.2.1.length : Int)) = true := dT (by omega)
    simp only [e1, e2, cond_true]
    rw [w64 (n := (i : Int) + 1) (by omega) (by omega)]
    cases (a.2.2.2.2.1.getD (i : Int).toNat Z11).2.1 <;> exact hrec _ (by simp)
  · rintro ⟨xl, xi, _⟩ rec h1
    simp only at h1
    subst h1
    rw [dF (show ¬ (a.2.2.2.2.1.length : Int) < (a.2.2.2.2.1.length : Int) by omega)]
    exact ⟨_, rfl, trivial⟩
end Go.Proofs.Ythbdlnhcioolgaa.OpenFlights
