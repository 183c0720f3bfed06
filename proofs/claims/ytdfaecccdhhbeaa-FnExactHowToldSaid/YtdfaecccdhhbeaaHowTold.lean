/- For every input FnExactHowTold answers true: the program's HowTold tells what the reference's tells, and leaves its arguments as they were; no conditions. -/
import Derived.Test.YtdfaecccdhhbeaaFns3
import Derived.Test.YtdfaecccdhhbeaaCountKind
namespace Go.Proofs.Ytdfaecccdhhbeaa.HowTold
open Go Go.RowKit Go.Proofs Go.Proofs.Ytdfaecccdhhbeaa Go.Proofs.Ytdfaecccdhhbeaa.Ev Go.Proofs.Ytdfaecccdhhbeaa.Fns Go.Proofs.Ytdfaecccdhhbeaa.CountKind
open Go.ChangeShapes Go.WideShapes Go.ChangeAt
set_option linter.unusedVariables false

theorem same (k : Nat) (l : List EvD) (q : Int) : F20 k l q = F21 k l q := by
  unfold F20 F21
  congr 1
  funext rec x
  cases decide (x.2.1 < (l.length : Int)) with
  | false => rfl
  | true =>
    simp only [cond_true]
    cases h : decide (0 ≤ x.2.1 ∧ x.2.1 < (l.length : Int)) with
    | false => rfl
    | true => simp only [cond_true]

theorem total (k : Nat) (l : List EvD) (q : Int) (hl : l.length ≤ 1048576) (hk : 2097152 < k) : ∃ r, F21 k l q = some r := by
  unfold F21
  obtain ⟨r, h1, h2⟩ := iter_count (σ := Int × Int × Unit) (ρ := Int) (step := fun rec x => bif decide (x.2.1 < (l.length : Int)) then
     bif decide (0 ≤ x.2.1 ∧ x.2.1 < (l.length : Int)) then
       bif (!decide ((l.getD x.2.1.toNat Ev0).2.2.1 = q)) then rec (x.1, wrap64 (x.2.1 + 1), ()) else
         bif decide ((l.getD x.2.1.toNat Ev0).1 = 12) then rec (x.1, wrap64 (x.2.1 + 1), ()) else
           bif decide ((l.getD x.2.1.toNat Ev0).1 = 11) then some x.1 else rec ((l.getD x.2.1.toNat Ev0).1, wrap64 (x.2.1 + 1), ())
     else none
    else some 0) (fun i x => x.2.1 = (i : Int)) (fun r => True) l.length
    (by
      rintro i ⟨xl, xi, _⟩ rec h1 hi hrec
      simp only at h1
      subst h1
      have e1 : decide ((i : Int) < (l.length : Int)) = true := decide_eq_true (by omega)
      have e2 : decide (0 ≤ (i : Int) ∧ (i : Int) < (l.length : Int)) = true := decide_eq_true (by omega)
      simp only [e1, e2, cond_true]
      rw [CountKind.wrap_small (n := (i : Int) + 1) (by omega) (by omega)]
      cases decide ((l.getD (i : Int).toNat Ev0).2.2.1 = q) with | false => exact hrec _ (by simp) | true => cases decide ((l.getD (i : Int).toNat Ev0).1 = 12) with | true => exact hrec _ (by simp) | false => cases decide ((l.getD (i : Int).toNat Ev0).1 = 11) with | true => exact ⟨_, rfl, trivial⟩ | false => exact hrec _ (by simp))
    (by
      rintro ⟨xl, xi, _⟩ rec h1
      simp only at h1
      subst h1
      have e1 : decide ((l.length : Int) < (l.length : Int)) = false := decide_eq_false (by omega)
      simp only [e1, cond_false]
      exact ⟨_, rfl, trivial⟩)
    k 0 (0, 0, ()) rfl (Nat.zero_le _) (by omega)
  exact ⟨r, h1⟩

theorem plain (k : Nat) (hk : 2097152 < k) (l : List EvD) (q : Int) (hl : l.length ≤ maxLen) : F7 k l q = some true := by
  unfold F7
  
  skip
  obtain ⟨r, h1, h2⟩ := sz11 k l hl hk
  rw [h1]
  simp only [Option.bind_some]
  by_cases hr : r < 0
  · rw [decide_eq_true hr]; rfl
  · rw [decide_eq_false hr]
    have hle : l.length ≤ 1048576 := by rcases h2 with h2 | h2; exact absurd h2 hr; exact h2
    obtain ⟨w, hw⟩ := total k l q hle hk
    simp only [cond_false, to13 k l hle hk, Option.bind_some, same, hw, decide_true, Bool.not_true, eq15 k l hle hk]

theorem lifted (os : Os) (started : os.Started) (H : Type) (enc : TypeId × Value → H) :
    ReturnsInHanded {} Try.checked os 7 .any (Rows.fnExactHowToldSpec.pre6 enc Try.prog Try.f7 Rows.fnExactHowToldRow.domain false) (Rows.fnExactHowToldSpec.post enc Try.prog Try.f7 false true false false) := by
  refine returnsInHanded_of_change_sized (C := Try.checked) own started (by kernel_rfl) Try.func7
    (ChangeSpec.witness6 (enc := enc) (C := Try.checked) false ⟨#[], #[.slice none 0 0, .int .i64 0], []⟩ 8 (by kernel_rfl) (by kernel_rfl) (by kernel_rfl) (by kernel_rfl)) ?_
  intro W base args ds gs before hval hW hcnd hsz _
  exact law_frame (C := Try.checked) (cx := (T (fun _ _ => ⟨[], [], [], false⟩) 0).cx []) (tys := [.slice EvT, I]) (sem := fun x => F7 2097153 x.1 x.2.1) (b := 4) Try.func7 (ok7 2097153) rfl
    (by rw [Try.params7]; exact ⟨(tyB_sound _).1 24 (by kernel_rfl), (tyB_sound _).1 3 (by kernel_rfl), trivial⟩) (by kernel_rfl) Try.underlying4 (by kernel_rfl)
    (by rw [Try.params7]; intro t ht; simp at ht; rcases ht with rfl | rfl <;> exact ⟨by kernel_rfl, of_decide_eq_true (by kernel_rfl)⟩) rfl
    (fun H ds hd => by match ds, hd with | [d1, d2], _ => rfl)
    (fun x hx => plain 2097153 (by omega) x.1 x.2.1 hx.1.1) hval hW

theorem over : Rows.fnExactHowToldRow.holds Try.pinned (OpenSpec.ofChange Rows.fnExactHowToldSpec) :=
  OpenClaim.holds_of_wide 7 Try.f7 rfl rfl rfl rfl rfl rfl rfl ⟨rfl, rfl, rfl, rfl, rfl⟩ rfl rfl rfl rfl rfl (by kernel_rfl) Try.func7 (by kernel_rfl)
    (of_decide_eq_true (by kernel_rfl)) (by unfold Func.isWrapper; first | (rw [if_pos (by decide +kernel)]; kernel_rfl) | (rw [if_neg (by decide +kernel)]; exact ⟨rfl, rfl⟩))
    (fun os started H enc _ => lifted os started H enc)
end Go.Proofs.Ytdfaecccdhhbeaa.HowTold
namespace Go.Proofs.Ytdfaecccdhhbeaa
/-- The row, under a short name, for the claim. -/
theorem fnExactHowTold_holds : Rows.FnExactHowToldSaid := HowTold.over
end Go.Proofs.Ytdfaecccdhhbeaa
