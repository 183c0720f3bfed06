/- For every input FnExactCountKind answers true: the program's CountKind counts what the reference's counts, and leaves its arguments as they were; no conditions. -/
import Derived.Test.YtdfaecccdhhbeaaFns
import Derived.Test.YtdfaecccdhhbeaaRows
import Derived.WalkKit
import Derived.ProofKit
import Derived.SizedLaws
namespace Go.Proofs.Ytdfaecccdhhbeaa.CountKind
open Go Go.RowKit Go.Proofs Go.Proofs.Ytdfaecccdhhbeaa Go.Proofs.Ytdfaecccdhhbeaa.Ev Go.Proofs.Ytdfaecccdhhbeaa.Fns
open Go.ChangeShapes Go.WideShapes Go.ChangeAt
set_option linter.unusedVariables false

/-- a loop that counts up -/
theorem iter_count {σ ρ : Type} {step : (σ → Option ρ) → σ → Option ρ} (I : Nat → σ → Prop) (R : ρ → Prop) (n : Nat)
    (hstep : ∀ i x rec, I i x → i < n → (∀ y, I (i + 1) y → ∃ r, rec y = some r ∧ R r) → ∃ r, step rec x = some r ∧ R r) (hend : ∀ x rec, I n x → ∃ r, step rec x = some r ∧ R r) :
    ∀ (k i : Nat) (x : σ), I i x → i ≤ n → n - i < k → ∃ r, iter step k x = some r ∧ R r
  | 0, i, x, h, hi, hk => by omega
  | k + 1, i, x, h, hi, hk => by
    by_cases e : i = n
    · subst e; exact hend x _ h
    · exact hstep i x _ h (by omega) fun y hy => iter_count I R n hstep hend k (i + 1) y hy (by omega) (by omega)

theorem wrap_small {n : Int} (h0 : 0 ≤ n) (h : n < 9223372036854775808) : wrap64 n = n := by unfold wrap64; omega

theorem to13 (k : Nat) (l : List EvD) (hl : l.length ≤ 1048576) (hk : 2097152 < k) : F13 k l = some l := by
  unfold F13
  rw [show decide (0 ≤ (l.length : Int) ∧ (l.length : Int) = (l.length : Int) ∧ (l.length : Int) < (most : Int)) = true by apply decide_eq_true; unfold most; omega]
  simp only [cond_true]
  obtain ⟨r, h1, h2⟩ := iter_count (σ := Int × List EvD × Unit) (ρ := List EvD) (step := fun rec x => bif decide (x.1 < (l.length : Int)) then
       bif decide (0 ≤ x.1 ∧ x.1 < (l.length : Int)) then
         (F27 (l.getD x.1.toNat Ev0)).bind fun y =>
           bif decide (0 ≤ x.1 ∧ x.1 < (x.2.1.length : Int)) then rec (wrap64 (x.1 + 1), x.2.1.set x.1.toNat y, ()) else none
       else none
      else some x.2.1) (fun i x => x.1 = (i : Int) ∧ x.2.1.length = l.length ∧ ∀ j, j < i → x.2.1[j]? = l[j]?) (fun r => r = l) l.length
    (by
      rintro i ⟨xi, xr, _⟩ rec ⟨h1, h2, h3⟩ hi hrec
      simp only at h1 h2 h3
      subst h1
      have e1 : decide ((i : Int) < (l.length : Int)) = true := decide_eq_true (by omega)
      have e2 : decide (0 ≤ (i : Int) ∧ (i : Int) < (l.length : Int)) = true := decide_eq_true (by omega)
      have e3 : decide (0 ≤ (i : Int) ∧ (i : Int) < (xr.length : Int)) = true := decide_eq_true (by omega)
      simp only [e1, e2, cond_true, F27, Option.bind_some, e3]
      rw [wrap_small (n := (i : Int) + 1) (by omega) (by omega)]
      refine hrec _ ⟨by simp, by simpa using h2, fun j hj => ?_⟩
      simp only [Int.toNat_natCast]
      rw [List.getElem?_set]
      by_cases e : i = j
      · subst e
        rw [if_pos rfl, if_pos (by omega), List.getD_eq_getElem?_getD, List.getElem?_eq_getElem hi]
        rfl
      · rw [if_neg e]
        exact h3 j (by omega))
    (by
      rintro ⟨xi, xr, _⟩ rec ⟨h1, h2, h3⟩
      simp only at h1 h2 h3
      subst h1
      have e1 : decide ((l.length : Int) < (l.length : Int)) = false := decide_eq_false (by omega)
      simp only [e1, cond_false]
      refine ⟨_, rfl, ?_⟩
      apply List.ext_getElem?
      intro j
      rcases Nat.lt_or_ge j l.length with q | q
      · exact h3 j q
      · rw [List.getElem?_eq_none (by omega), List.getElem?_eq_none (by omega)])
    k 0 (0, List.replicate ((l.length : Int)).toNat Ev0, ()) ⟨rfl, by simp, fun j hj => by omega⟩ (Nat.zero_le _) (by omega)
  rw [h1, h2]

theorem sz11 (k : Nat) (l : List EvD) (hl : l.length ≤ maxLen) (hk : 2097152 < k) : ∃ r, F11 k l 1048576 = some r ∧ (r < 0 ∨ l.length ≤ 1048576) := by
  unfold F11
  have hm : l.length ≤ 9223372036854775807 := by unfold maxLen at hl; omega
  by_cases h : (1048576 : Int) - (l.length : Int) < 0
  · have : wrap64 (1048576 - (l.length : Int)) < 0 := by unfold wrap64; omega
    rw [decide_eq_true this]
    exact ⟨-1, rfl, Or.inl (by decide)⟩
  · have hle : l.length ≤ 1048576 := by omega
    have hw : wrap64 (1048576 - (l.length : Int)) = 1048576 - (l.length : Int) := wrap_small (by omega) (by omega)
    rw [hw, decide_eq_false h]
    simp only [cond_false]
    obtain ⟨r, h1, h2⟩ := iter_count (σ := Int × Int × Unit) (ρ := Int) (step := fun rec x => bif decide (x.2.1 < (l.length : Int)) then
       bif decide (0 ≤ x.2.1 ∧ x.2.1 < (l.length : Int)) then
         (F26 (l.getD x.2.1.toNat Ev0) x.1).bind fun r => bif decide (r < 0) then some (-1) else rec (r, wrap64 (x.2.1 + 1), ())
       else none
      else some x.1) (fun i x => x.2.1 = (i : Int)) (fun r => True) l.length
      (by
        rintro i ⟨xl, xi, _⟩ rec h1 hi hrec
        simp only at h1
        subst h1
        have e1 : decide ((i : Int) < (l.length : Int)) = true := decide_eq_true (by omega)
        have e2 : decide (0 ≤ (i : Int) ∧ (i : Int) < (l.length : Int)) = true := decide_eq_true (by omega)
        simp only [e1, e2, cond_true]
        have h26 : ∃ q, F26 (l.getD (i : Int).toNat Ev0) xl = some q := by
          unfold F26
          cases decide (wrap64 (xl - ↑(ByteArray.size (l.getD (i : Int).toNat Ev0).2.2.2.1)) < 0) <;> exact ⟨_, rfl⟩
        obtain ⟨q, hq⟩ := h26
        rw [hq]
        simp only [Option.bind_some]
        cases decide (q < 0) with
        | true => exact ⟨-1, rfl, trivial⟩
        | false =>
          simp only [cond_false]
          rw [wrap_small (n := (i : Int) + 1) (by omega) (by omega)]
          exact hrec _ (by simp))
      (by
        rintro ⟨xl, xi, _⟩ rec h1
        simp only at h1
        subst h1
        have e1 : decide ((l.length : Int) < (l.length : Int)) = false := decide_eq_false (by omega)
        simp only [e1, cond_false]
        exact ⟨_, rfl, trivial⟩)
      k 0 (1048576 - (l.length : Int), 0, ()) rfl (Nat.zero_le _) (by omega)
    exact ⟨r, h1, Or.inr hle⟩

theorem count16 (k : Nat) (l : List EvD) (kind : Int) (hl : l.length ≤ 1048576) (hk : 2097152 < k) : ∃ r, F16 k l kind = some r := by
  unfold F16
  obtain ⟨r, h1, h2⟩ := iter_count (σ := Int × Int × Unit) (ρ := Int) (step := fun rec x => bif decide (x.2.1 < (l.length : Int)) then
     bif decide (0 ≤ x.2.1 ∧ x.2.1 < (l.length : Int)) then
       bif decide ((l.getD x.2.1.toNat Ev0).1 = kind) then rec (wrap64 (x.1 + 1), wrap64 (x.2.1 + 1), ()) else rec (x.1, wrap64 (x.2.1 + 1), ())
     else none
    else some x.1) (fun i x => x.2.1 = (i : Int)) (fun r => True) l.length
    (by
      rintro i ⟨xl, xi, _⟩ rec h1 hi hrec
      simp only at h1
      subst h1
      have e1 : decide ((i : Int) < (l.length : Int)) = true := decide_eq_true (by omega)
      have e2 : decide (0 ≤ (i : Int) ∧ (i : Int) < (l.length : Int)) = true := decide_eq_true (by omega)
      simp only [e1, e2, cond_true]
      rw [wrap_small (n := (i : Int) + 1) (by omega) (by omega)]
      cases decide ((l.getD (i : Int).toNat Ev0).1 = kind) <;> exact hrec _ (by simp))
    (by
      rintro ⟨xl, xi, _⟩ rec h1
      simp only at h1
      subst h1
      have e1 : decide ((l.length : Int) < (l.length : Int)) = false := decide_eq_false (by omega)
      simp only [e1, cond_false]
      exact ⟨_, rfl, trivial⟩)
    k 0 (0, 0, ()) rfl (Nat.zero_le _) (by omega)
  exact ⟨r, h1⟩

theorem eq30 (e : EvD) : F30 e e = some true := by
  unfold F30
  simp

theorem eq15 (k : Nat) (l : List EvD) (hl : l.length ≤ 1048576) (hk : 2097152 < k) : F15 k l l = some true := by
  unfold F15
  rw [show decide ((l.length : Int) = (l.length : Int)) = true from decide_eq_true rfl]
  simp only [Bool.not_true, cond_false]
  obtain ⟨r, h1, h2⟩ := iter_count (σ := Int × Unit) (ρ := Bool) (step := fun rec x => bif decide (x.1 < (l.length : Int)) then
     bif decide (0 ≤ x.1 ∧ x.1 < (l.length : Int)) then
       bif decide (0 ≤ x.1 ∧ x.1 < (l.length : Int)) then
         (F30 (l.getD x.1.toNat Ev0) (l.getD x.1.toNat Ev0)).bind fun r => bif (!r) then some false else rec (wrap64 (x.1 + 1), ())
       else none
     else none
    else some true) (fun i x => x.1 = (i : Int)) (fun r => r = true) l.length
    (by
      rintro i ⟨xi, _⟩ rec h1 hi hrec
      simp only at h1
      subst h1
      have e1 : decide ((i : Int) < (l.length : Int)) = true := decide_eq_true (by omega)
      have e2 : decide (0 ≤ (i : Int) ∧ (i : Int) < (l.length : Int)) = true := decide_eq_true (by omega)
      simp only [e1, e2, cond_true, eq30, Option.bind_some, Bool.not_true, cond_false]
      rw [wrap_small (n := (i : Int) + 1) (by omega) (by omega)]
      exact hrec _ (by simp))
    (by
      rintro ⟨xi, _⟩ rec h1
      simp only at h1
      subst h1
      have e1 : decide ((l.length : Int) < (l.length : Int)) = false := decide_eq_false (by omega)
      simp only [e1, cond_false]
      exact ⟨_, rfl, rfl⟩)
    k 0 (0, ()) rfl (Nat.zero_le _) (by omega)
  rw [h1, h2]

theorem plain (k : Nat) (hk : 2097152 < k) (l : List EvD) (kind : Int) (hl : l.length ≤ maxLen) : F5 k l kind = some true := by
  unfold F5
  obtain ⟨r, h1, h2⟩ := sz11 k l hl hk
  rw [h1]
  simp only [Option.bind_some]
  by_cases hr : r < 0
  · rw [decide_eq_true hr]; rfl
  · rw [decide_eq_false hr]
    have hle : l.length ≤ 1048576 := by rcases h2 with h2 | h2; exact absurd h2 hr; exact h2
    obtain ⟨w, hw⟩ := count16 k l kind hle hk
    simp only [cond_false, to13 k l hle hk, Option.bind_some, hw, decide_true, Bool.not_true, eq15 k l hle hk]

theorem own : ownKnob Try.prog.godebug = none := by kernel_rfl

theorem lifted (os : Os) (started : os.Started) (H : Type) (enc : TypeId × Value → H) :
    ReturnsInHanded {} Try.checked os 5 .any (Rows.fnExactCountKindSpec.pre6 enc Try.prog Try.f5 Rows.fnExactCountKindRow.domain false) (Rows.fnExactCountKindSpec.post enc Try.prog Try.f5 false true false false) := by
  refine returnsInHanded_of_change_sized (C := Try.checked) own started (by kernel_rfl) Try.func5
    (ChangeSpec.witness6 (enc := enc) (C := Try.checked) false ⟨#[], #[.slice none 0 0, .int .i64 0], []⟩ 8 (by kernel_rfl) (by kernel_rfl) (by kernel_rfl) (by kernel_rfl)) ?_
  intro W base args ds gs before hval hW hcnd hsz _
  exact law_frame (C := Try.checked) (cx := (T (fun _ _ => ⟨[], [], [], false⟩) 0).cx []) (tys := [.slice EvT, I]) (sem := fun x => F5 2097153 x.1 x.2.1) (b := 4) Try.func5 (ok5 2097153) rfl
    (by rw [Try.params5]; exact ⟨(tyB_sound _).1 24 (by kernel_rfl), (tyB_sound _).1 3 (by kernel_rfl), trivial⟩) (by kernel_rfl) Try.underlying4 (by kernel_rfl)
    (by rw [Try.params5]; intro t ht; simp at ht; rcases ht with rfl | rfl <;> exact ⟨by kernel_rfl, of_decide_eq_true (by kernel_rfl)⟩) rfl
    (fun H ds hd => by match ds, hd with | [d1, d2], _ => rfl)
    (fun x hx => plain 2097153 (by omega) x.1 x.2.1 hx.1.1) hval hW

theorem over : Rows.fnExactCountKindRow.holds Try.pinned (OpenSpec.ofChange Rows.fnExactCountKindSpec) :=
  OpenClaim.holds_of_wide 5 Try.f5 rfl rfl rfl rfl rfl rfl rfl ⟨rfl, rfl, rfl, rfl, rfl⟩ rfl rfl rfl rfl rfl (by kernel_rfl) Try.func5 (by kernel_rfl)
    (of_decide_eq_true (by kernel_rfl)) (by unfold Func.isWrapper; first | (rw [if_pos (by decide +kernel)]; kernel_rfl) | (rw [if_neg (by decide +kernel)]; exact ⟨rfl, rfl⟩))
    (fun os started H enc _ => lifted os started H enc)
theorem proved : Rows.FnExactCountKindSaid := over
end Go.Proofs.Ytdfaecccdhhbeaa.CountKind
namespace Go.Proofs.Ytdfaecccdhhbeaa
/-- The row, under a short name, for the claim. -/
theorem fnExactCountKind_holds : Rows.FnExactCountKindSaid := CountKind.proved
end Go.Proofs.Ytdfaecccdhhbeaa
