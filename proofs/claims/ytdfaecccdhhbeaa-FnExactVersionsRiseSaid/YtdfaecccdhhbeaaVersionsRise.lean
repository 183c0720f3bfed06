/- For every input FnExactVersionsRise answers true: the program's VersionsRise tells what the reference's tells, and leaves its argument as it was; no conditions. -/
import Derived.Test.YtdfaecccdhhbeaaFns4
import Derived.Test.YtdfaecccdhhbeaaCountKind
namespace Go.Proofs.Ytdfaecccdhhbeaa.VersionsRise
open Go Go.RowKit Go.Proofs Go.Proofs.Ytdfaecccdhhbeaa Go.Proofs.Ytdfaecccdhhbeaa.Ev Go.Proofs.Ytdfaecccdhhbeaa.Fns Go.Proofs.Ytdfaecccdhhbeaa.CountKind
open Go.ChangeShapes Go.WideShapes Go.ChangeAt
set_option linter.unusedVariables false
set_option linter.unusedSimpArgs false
open Classical in
/-- a loop that looks for the first number with a property -/
theorem iter_search {ρ : Type} {step : (Int × Unit → Option ρ) → Int × Unit → Option ρ} (n : Nat) (p : Nat → Prop) (A B : Option ρ)
    (hs : ∀ j rec, j < n → step rec ((j : Int), ()) = if p j then A else rec (((j + 1 : Nat) : Int), ())) (he : ∀ rec, step rec ((n : Int), ()) = B) :
    ∀ (k j : Nat), j ≤ n → n - j < k → iter step k ((j : Int), ()) = if ∃ m, j ≤ m ∧ m < n ∧ p m then A else B
  | 0, j, hj, hk => by omega
  | k + 1, j, hj, hk => by
    simp only [iter]
    by_cases e : j = n
    · subst e
      rw [he, if_neg (by rintro ⟨m, h1, h2, _⟩; omega)]
    · rw [hs j _ (by omega)]
      by_cases hp : p j
      · rw [if_pos hp, if_pos ⟨j, Nat.le_refl _, by omega, hp⟩]
      · rw [if_neg hp, iter_search n p A B hs he k (j + 1) (by omega) (by omega)]
        congr 1
        apply propext
        constructor
        · rintro ⟨m, h1, h2, h3⟩; exact ⟨m, by omega, h2, h3⟩
        · rintro ⟨m, h1, h2, h3⟩
          refine ⟨m, ?_, h2, h3⟩
          rcases Nat.lt_or_ge j m with q | q
          · exact q
          · have : m = j := by omega
            subst this; exact absurd h3 hp

def pair (l : List EvD) (i j : Nat) : Prop :=
  (l.getD i Ev0).1 = 6 ∧ (l.getD j Ev0).1 = 6 ∧ (l.getD i Ev0).2.2.2.1 = (l.getD j Ev0).2.2.2.1 ∧ 0 < (l.getD i Ev0).2.2.2.2.1 ∧ (l.getD i Ev0).2.2.2.2.1 < (l.getD j Ev0).2.2.2.2.1
def bad (l : List EvD) (i : Nat) : Prop := ∃ j, 0 ≤ j ∧ j < i ∧ pair l i j

open Classical in
theorem say22 (k : Nat) (l : List EvD) (hl : l.length ≤ 1048576) (hk : 2097152 < k) : F22 k l = if ∃ m, 0 ≤ m ∧ m < l.length ∧ bad l m then some false else some true := by
  unfold F22
  refine iter_search l.length (bad l) (some false) (some true) (fun i rec hi => ?_) (fun rec => ?_) k 0 (Nat.zero_le _) (by omega)
  · simp only
    rw [decide_eq_true (show (i : Int) < (l.length : Int) by omega), cond_true]
    rw [show wrap64 ((i : Int) + 1) = ((i + 1 : Nat) : Int) by rw [CountKind.wrap_small (by omega) (by omega)]; simp]
    refine iter_search i (pair l i) (some false) (rec (((i + 1 : Nat) : Int), ())) (fun j rec2 hj => ?_) (fun rec2 => ?_) k 0 (Nat.zero_le _) (by omega)
    · simp only
      rw [show wrap64 ((j : Int) + 1) = ((j + 1 : Nat) : Int) by rw [CountKind.wrap_small (by omega) (by omega)]; simp]
      rw [decide_eq_true (show (j : Int) < (i : Int) by omega), decide_eq_true (show 0 ≤ (i : Int) ∧ (i : Int) < (l.length : Int) by omega), decide_eq_true (show 0 ≤ (j : Int) ∧ (j : Int) < (l.length : Int) by omega)]
      simp only [cond_true, Int.toNat_natCast]
      unfold pair
      by_cases h1 : (l.getD i Ev0).1 = 6 <;> by_cases h2 : (l.getD j Ev0).1 = 6 <;> by_cases h3 : (l.getD i Ev0).2.2.2.1 = (l.getD j Ev0).2.2.2.1 <;> by_cases h4 : 0 < (l.getD i Ev0).2.2.2.2.1 <;> by_cases h5 : (l.getD i Ev0).2.2.2.2.1 < (l.getD j Ev0).2.2.2.2.1 <;> simp only [h1, h2, h3, h4, h5, decide_true, decide_false, cond_true, cond_false, true_and, and_true, false_and, and_false, if_true, if_false]
    · simp only
      rw [decide_eq_false (show ¬ (i : Int) < (i : Int) by omega)]
      rfl
  · simp only
    rw [decide_eq_false (show ¬ (l.length : Int) < (l.length : Int) by omega)]
    rfl

open Classical in
theorem say23 (k : Nat) (l : List EvD) (hl : l.length ≤ 1048576) (hk : 2097152 < k) : F23 k l = if ∃ m, 0 ≤ m ∧ m < l.length ∧ bad l m then some false else some true := by
  unfold F23
  refine iter_search l.length (bad l) (some false) (some true) (fun i rec hi => ?_) (fun rec => ?_) k 0 (Nat.zero_le _) (by omega)
  · simp only
    rw [decide_eq_true (show (i : Int) < (l.length : Int) by omega), decide_eq_true (show 0 ≤ (i : Int) ∧ (i : Int) < (l.length : Int) by omega), decide_eq_true (show (0 : Int) ≤ 0 ∧ (0 : Int) ≤ (i : Int) ∧ (i : Int) ≤ (l.length : Int) by omega)]
    rw [show wrap64 ((i : Int) + 1) = ((i + 1 : Nat) : Int) by rw [CountKind.wrap_small (by omega) (by omega)]; simp]
    simp only [cond_true, Int.toNat_natCast]
    by_cases h1 : (l.getD i Ev0).1 = 6
    · by_cases h4 : 0 < (l.getD i Ev0).2.2.2.2.1
      · rw [decide_eq_true h1, decide_eq_false (show ¬ (l.getD i Ev0).2.2.2.2.1 ≤ 0 by omega)]
        simp only [Bool.not_true, cond_false]
        have hm : (l.drop (0 : Int).toNat).take ((i : Int) - 0).toNat = l.take i := by simp
        rw [hm]
        have hlen : (l.take i).length = i := by simp; omega
        rw [hlen]
        refine iter_search i (pair l i) (some false) (rec (((i + 1 : Nat) : Int), ())) (fun j rec2 hj => ?_) (fun rec2 => ?_) k 0 (Nat.zero_le _) (by omega)
        · simp only
          rw [show wrap64 ((j : Int) + 1) = ((j + 1 : Nat) : Int) by rw [CountKind.wrap_small (by omega) (by omega)]; simp]
          rw [decide_eq_true (show (j : Int) < (i : Int) by omega), decide_eq_true (show 0 ≤ (j : Int) ∧ (j : Int) < (i : Int) by omega), decide_eq_true (show (0 : Int) ≤ (j : Int) by omega)]
          have hg : (l.take i).getD j Ev0 = l.getD j Ev0 := by simp [List.getD_eq_getElem?_getD, List.getElem?_take, hj]
          have hs : decide ((l.getD j Ev0).2.2.2.1 = (l.getD i Ev0).2.2.2.1) = decide ((l.getD i Ev0).2.2.2.1 = (l.getD j Ev0).2.2.2.1) := by rw [Bool.eq_iff_iff]; simp only [decide_eq_true_eq]; exact eq_comm
          simp only [cond_true, Int.toNat_natCast, hg, hs]
          unfold pair
          by_cases h2 : (l.getD j Ev0).1 = 6 <;> by_cases h3 : (l.getD i Ev0).2.2.2.1 = (l.getD j Ev0).2.2.2.1 <;> by_cases h5 : (l.getD i Ev0).2.2.2.2.1 < (l.getD j Ev0).2.2.2.2.1 <;> simp only [h1, h2, h3, h4, h5, decide_true, decide_false, cond_true, cond_false, true_and, and_true, false_and, and_false, if_true, if_false]
        · simp only
          rw [decide_eq_false (show ¬ (i : Int) < (i : Int) by omega)]
          rfl
      · rw [decide_eq_true h1, decide_eq_true (show (l.getD i Ev0).2.2.2.2.1 ≤ 0 by omega)]
        rw [if_neg (by rintro ⟨j, _, _, _, _, _, h, _⟩; exact h4 h)]
        rfl
    · rw [decide_eq_false h1, if_neg (by rintro ⟨j, _, _, h, _⟩; exact h1 h)]
      rfl
  · simp only
    rw [decide_eq_false (show ¬ (l.length : Int) < (l.length : Int) by omega)]
    rfl

theorem plain (k : Nat) (hk : 2097152 < k) (l : List EvD) (hl : l.length ≤ maxLen) : F8 k l = some true := by
  unfold F8
  obtain ⟨r, h1, h2⟩ := sz11 k l hl hk
  rw [h1]
  simp only [Option.bind_some]
  by_cases hr : r < 0
  · rw [decide_eq_true hr]; rfl
  · rw [decide_eq_false hr]
    have hle : l.length ≤ 1048576 := by rcases h2 with h2 | h2; exact absurd h2 hr; exact h2
    have hw : ∃ w, F22 k l = some w ∧ F23 k l = some w := by
      rw [say22 k l hle hk, say23 k l hle hk]
      split <;> exact ⟨_, rfl, rfl⟩
    obtain ⟨w, hw, hw'⟩ := hw
    simp only [cond_false, to13 k l hle hk, Option.bind_some, hw, hw', beq_self_eq_true, Bool.not_true, eq15 k l hle hk]

theorem lifted (os : Os) (started : os.Started) (H : Type) (enc : TypeId × Value → H) :
    ReturnsInHanded {} Try.checked os 8 .any (Rows.fnExactVersionsRiseSpec.pre6 enc Try.prog Try.f8 Rows.fnExactVersionsRiseRow.domain false) (Rows.fnExactVersionsRiseSpec.post enc Try.prog Try.f8 false true false false) := by
  refine returnsInHanded_of_change_sized (C := Try.checked) own started (by kernel_rfl) Try.func8
    (ChangeSpec.witness6 (enc := enc) (C := Try.checked) false ⟨#[], #[.slice none 0 0], []⟩ 8 (by kernel_rfl) (by kernel_rfl) (by kernel_rfl) (by kernel_rfl)) ?_
  intro W base args ds gs before hval hW hcnd hsz _
  exact law_frame (C := Try.checked) (cx := (T (fun _ _ => ⟨[], [], [], false⟩) 0).cx []) (tys := [.slice EvT]) (sem := fun x => F8 2097153 x.1) (b := 4) Try.func8 (ok8 2097153) rfl
    (by rw [Try.params8]; exact ⟨(tyB_sound _).1 24 (by kernel_rfl), trivial⟩) (by kernel_rfl) Try.underlying4 (by kernel_rfl)
    (by rw [Try.params8]; intro t ht; simp at ht; subst ht; exact ⟨by kernel_rfl, of_decide_eq_true (by kernel_rfl)⟩) rfl
    (fun H ds hd => by match ds, hd with | [d1], _ => rfl)
    (fun x hx => plain 2097153 (by omega) x.1 hx.1.1) hval hW

theorem over : Rows.fnExactVersionsRiseRow.holds Try.pinned (OpenSpec.ofChange Rows.fnExactVersionsRiseSpec) :=
  OpenClaim.holds_of_wide 8 Try.f8 rfl rfl rfl rfl rfl rfl rfl ⟨rfl, rfl, rfl, rfl, rfl⟩ rfl rfl rfl rfl rfl (by kernel_rfl) Try.func8 (by kernel_rfl)
    (of_decide_eq_true (by kernel_rfl)) (by unfold Func.isWrapper; first | (rw [if_pos (by decide +kernel)]; kernel_rfl) | (rw [if_neg (by decide +kernel)]; exact ⟨rfl, rfl⟩))
    (fun os started H enc _ => lifted os started H enc)
end Go.Proofs.Ytdfaecccdhhbeaa.VersionsRise
namespace Go.Proofs.Ytdfaecccdhhbeaa
/-- The row, under a short name, for the claim. -/
theorem fnExactVersionsRise_holds : Rows.FnExactVersionsRiseSaid := VersionsRise.over
end Go.Proofs.Ytdfaecccdhhbeaa
