/- The program's HitRate and the reference's tell the same number. -/
import Derived.Test.YthbdlnhcioolgaaFam
namespace Go.Proofs.Ythbdlnhcioolgaa.HitRate
open Go Go.RowKit Go.Proofs Go.Proofs.Ythbdlnhcioolgaa.Ev Go.Proofs.Ythbdlnhcioolgaa.Pl Go.Proofs.Ythbdlnhcioolgaa.Fns
set_option linter.unusedVariables false

theorem total (k : Nat) (hk : fuel < k) (l : List D0) (kind : Int) (hc : cost (.slice U0) l ≤ big) : ∃ r, F19 k l kind = some r := by
  have hl : l.length ≤ 1048576 := Nat.le_trans (cost_len (e := U0) l) hc
  have hk' : 2097152 < k := hk
  unfold F19
  refine Exists.imp (fun _ h => h.1) (iter_count (σ := Int × Int × Unit) (ρ := Int) (fun i x => x.2.1 = (i : Int)) (fun r => True) l.length ?_ ?_ k 0 ((0 : Int), (0 : Int), ()) rfl (Nat.zero_le _) (by omega))
  · rintro i ⟨xl, xi, _⟩ rec h1 hi hrec
    simp only at h1
    subst h1
    have e1 : decide ((i : Int) < (l.length : Int)) = true := dT (by omega)
    have e2 : decide (0 ≤ (i : Int) ∧ (i : Int) < (l.length : Int)) = true := dT (by omega)
    simp only [e1, e2, cond_true]
    rw [w64 (n := (i : Int) + 1) (by omega) (by omega)]
    cases decide ((l.getD (i : Int).toNat Z0).1 = kind) <;> exact hrec _ (by simp)
  · rintro ⟨xl, xi, _⟩ rec h1
    simp only at h1
    subst h1
    rw [dF (show ¬ (l.length : Int) < (l.length : Int) by omega)]
    exact ⟨_, rfl, trivial⟩

theorem same (k : Nat) (hk : fuel < k) (l : List D0) (ok : Ty.Ok (.slice U0) l) (hc : cost (.slice U0) l ≤ big) : ∃ w, F7 k l = some w ∧ F9 k l = some w := by
  have he : ∀ kind, F21 k l kind = F19 k l kind := fun _ => rfl
  unfold F7 F9
  simp only [he]
  obtain ⟨r1, h1⟩ := total k hk l 2 hc
  obtain ⟨r2, h2⟩ := total k hk l 3 hc
  obtain ⟨r3, h3⟩ := total k hk l 4 hc
  obtain ⟨r4, h4⟩ := total k hk l 5 hc
  simp only [h1, h2, h3, h4, Option.bind_some, Int.mul_comm (100 : Int)]
  by_cases h : wrap64 (wrap64 (wrap64 (r1 + r2) + r3) + r4) = 0
  · rw [dT h]; exact ⟨_, rfl, rfl⟩
  · rw [dF h]; exact ⟨_, rfl, rfl⟩
end Go.Proofs.Ythbdlnhcioolgaa.HitRate
