/- The program's InvalOk and the reference's tell the same. -/
import Derived.Test.YthbdlnhcioolgaaFam
namespace Go.Proofs.Ythbdlnhcioolgaa.InvalOk
open Go Go.RowKit Go.Proofs Go.Proofs.Ythbdlnhcioolgaa.Ev Go.Proofs.Ythbdlnhcioolgaa.Pl Go.Proofs.Ythbdlnhcioolgaa.Fns
set_option linter.unusedVariables false
set_option linter.unusedSimpArgs false

/-- where a request came: a place in the log, or -1 -/
theorem place (k : Nat) (hk : fuel < k) (l : List D0) (s : Int) (hl : l.length ≤ 1048576) : ∃ r : Int, F24 k l s = some r ∧ F23 k l s = some r ∧ -1 ≤ r ∧ r < l.length := by
  have hk' : 2097152 < k := hk
  have he : F23 k l s = F24 k l s := by
    unfold F23 F24
    congr 1
    funext rec x
    cases decide (x.1 < (l.length : Int)) with
    | false => rfl
    | true =>
      simp only [cond_true]
      cases h : decide (0 ≤ x.1 ∧ x.1 < (l.length : Int)) with
      | false => rfl
      | true => simp only [cond_true]
  rw [he]
  suffices h : ∃ r : Int, F24 k l s = some r ∧ (-1 ≤ r ∧ r < l.length) by
    obtain ⟨r, h1, h2⟩ := h
    exact ⟨r, h1, h1, h2⟩
  unfold F24
  refine iter_count (σ := Int × Unit) (ρ := Int) (fun i x => x.1 = (i : Int)) (fun r => -1 ≤ r ∧ r < l.length) l.length ?_ ?_ k 0 ((0 : Int), ()) rfl (Nat.zero_le _) (by omega)
  · rintro i ⟨xi, _⟩ rec h1 hi hrec
    simp only at h1
    subst h1
    have e1 : decide ((i : Int) < (l.length : Int)) = true := dT (by omega)
    have e2 : decide (0 ≤ (i : Int) ∧ (i : Int) < (l.length : Int)) = true := dT (by omega)
    simp only [e1, e2, cond_true]
    rw [w64 (n := (i : Int) + 1) (by omega) (by omega)]
    cases decide ((l.getD (i : Int).toNat Z0).1 = 1) with
    | false => exact hrec _ (by simp)
    | true => cases decide ((l.getD (i : Int).toNat Z0).2.2.1 = s) with
      | false => exact hrec _ (by simp)
      | true => exact ⟨_, rfl, by omega, by omega⟩
  · rintro ⟨xi, _⟩ rec h1
    simp only at h1
    subst h1
    rw [dF (show ¬ (l.length : Int) < (l.length : Int) by omega)]
    exact ⟨_, rfl, by omega, by omega⟩

/-- a change of what an answer told of, of a later version -/
def later (l : List D0) (i j : Nat) : Prop :=
  (l.getD j Z0).1 = 9 ∧ (l.getD j Z0).2.2.2.1 = (l.getD i Z0).2.2.2.1 ∧ (l.getD i Z0).2.2.2.2.1 < (l.getD j Z0).2.2.2.2.1

open Classical in
/-- a loop that looks for the first number with a property -/
theorem iter_search {ρ : Type} {step : (Int × Unit → Option ρ) → Int × Unit → Option ρ} (n : Nat) (p : Nat → Prop) (A B : Option ρ)
    (hs : ∀ j rec, j < n → step rec ((j : Int), ()) = if p j then A else rec (((j + 1 : Nat) : Int), ())) (he : ∀ rec, step rec ((n : Int), ()) = B) :
    ∀ (k j : Nat), j ≤ n → n - j < k → iter step k ((j : Int), ()) = if ∃ m, j ≤ m ∧ m < n ∧ p m then A else B
  | 0, j, hj, hk => by omega
  | k + 1, j, hj, hk => by
    simp only [iter]
    by_cases e : j = n
    · subst e
      rw [he, if_neg (by rintro ⟨m, h1, h2, _⟩; omega)]
    · rw [hs j _ (by omega)]
      by_cases hp : p j
      · rw [if_pos hp, if_pos ⟨j, Nat.le_refl _, by omega, hp⟩]
      · rw [if_neg hp, iter_search n p A B hs he k (j + 1) (by omega) (by omega)]
        congr 1
        apply propext
        constructor
        · rintro ⟨m, h1, h2, h3⟩; exact ⟨m, by omega, h2, h3⟩
        · rintro ⟨m, h1, h2, h3⟩
          refine ⟨m, ?_, h2, h3⟩
          rcases Nat.lt_or_ge j m with q | q
          · exact q
          · have : m = j := by omega
            subst this; exact absurd h3 hp

/-- what one entry says of the log: an answer that told of an old version -/
def bad (k : Nat) (l : List D0) (i : Nat) : Prop :=
  (l.getD i Z0).1 = 11 ∧ ¬ (l.getD i Z0).2.2.2.2.1 ≤ 0 ∧ ∃ r : Int, F24 k l (l.getD i Z0).2.2.1 = some r ∧ ∃ m, 0 ≤ m ∧ m < r.toNat ∧ later l i m

open Classical in
theorem sayS (k : Nat) (hk : fuel < k) (l : List D0) (hl : l.length ≤ 1048576) : F11 k l = if ∃ m, 0 ≤ m ∧ m < l.length ∧ bad k l m then some false else some true := by
  have hk' : 2097152 < k := hk
  unfold F11
  refine iter_search l.length (bad k l) (some false) (some true) (fun i rec hi => ?_) (fun rec => ?_) k 0 (Nat.zero_le _) (by omega)
  · simp only
    rw [dT (show (i : Int) < (l.length : Int) by omega), dT (show 0 ≤ (i : Int) ∧ (i : Int) < (l.length : Int) by omega), show wrap64 ((i : Int) + 1) = ((i + 1 : Nat) : Int) by rw [w64 (by omega) (by omega)]; simp]
    simp only [cond_true, Int.toNat_natCast]
    by_cases h1 : (l.getD i Z0).1 = 11
    · by_cases h2 : (l.getD i Z0).2.2.2.2.1 ≤ 0
      · rw [dT h1, dT h2, if_neg (by rintro ⟨_, h, _⟩; exact h h2)]; rfl
      · rw [dT h1, dF h2]
        simp only [Bool.not_true, cond_false]
        obtain ⟨r, q1, q2, q3, q4⟩ := place k hk l (l.getD i Z0).2.2.1 hl
        rw [q2]
        simp only [Option.bind_some]
        have hb : bad k l i ↔ ∃ m, 0 ≤ m ∧ m < r.toNat ∧ later l i m := by
          constructor
          · rintro ⟨_, _, r', e, h⟩; rw [q1] at e; cases e; exact h
          · intro h; exact ⟨h1, h2, r, q1, h⟩
        by_cases hr : 0 ≤ r
        · obtain ⟨n, rfl⟩ := Int.eq_ofNat_of_zero_le hr
          rw [show ((n : Int)).toNat = n from rfl] at hb
          have := iter_search (step := fun rec14 x13 => (bif (decide (x13.1 < (n : Int))) then (bif (decide (0 ≤ x13.1 ∧ x13.1 < (l.length : Int))) then (bif (decide ((l.getD x13.1.toNat Z0).1 = (9 : Int))) then (bif (decide (0 ≤ x13.1 ∧ x13.1 < (l.length : Int))) then (bif (decide ((l.getD x13.1.toNat Z0).2.2.2.1 = (l.getD i Z0).2.2.2.1)) then (bif (decide (0 ≤ x13.1 ∧ x13.1 < (l.length : Int))) then (bif (decide ((l.getD i Z0).2.2.2.2.1 < (l.getD x13.1.toNat Z0).2.2.2.2.1)) then some false else (rec14 ((wrap64 (x13.1 + (1 : Int))), ()))) else none) else (rec14 ((wrap64 (x13.1 + (1 : Int))), ()))) else none) else (rec14 ((wrap64 (x13.1 + (1 : Int))), ()))) else none) else (rec (((i + 1 : Nat) : Int), ())))) n (later l i) (some false) (rec (((i + 1 : Nat) : Int), ())) (fun j rec2 hj => ?_) (fun rec2 => ?_) k 0 (Nat.zero_le _) (by omega)
          · refine Eq.trans this ?_
            simp only [hb]
          · simp only
            rw [show wrap64 ((j : Int) + 1) = ((j + 1 : Nat) : Int) by rw [w64 (by omega) (by omega)]; simp]
            rw [dT (show (j : Int) < (n : Int) by omega), dT (show 0 ≤ (j : Int) ∧ (j : Int) < (l.length : Int) by omega)]
            simp only [cond_true, Int.toNat_natCast]
            unfold later
            by_cases h3 : (l.getD j Z0).1 = 9 <;> by_cases h4 : (l.getD j Z0).2.2.2.1 = (l.getD i Z0).2.2.2.1 <;> by_cases h5 : (l.getD i Z0).2.2.2.2.1 < (l.getD j Z0).2.2.2.2.1 <;> simp only [h3, h4, h5, decide_true, decide_false, cond_true, cond_false, true_and, and_true, false_and, and_false, if_true, if_false]
          · simp only
            rw [dF (show ¬ (n : Int) < (n : Int) by omega)]
            rfl
        · rw [if_neg (by rw [hb]; rintro ⟨m, _, h, _⟩; omega)]
          obtain ⟨k', rfl⟩ : ∃ k', k = k' + 1 := ⟨k - 1, by omega⟩
          simp only [iter]
          rw [dF (show ¬ (0 : Int) < r by omega)]
          rfl
    · rw [dF h1, if_neg (by rintro ⟨h, _⟩; exact h1 h)]; rfl
  · simp only
    rw [dF (show ¬ (l.length : Int) < (l.length : Int) by omega)]
    rfl

open Classical in
theorem sayI (k : Nat) (hk : fuel < k) (l : List D0) (hl : l.length ≤ 1048576) : F12 k l = if ∃ m, 0 ≤ m ∧ m < l.length ∧ bad k l m then some false else some true := by
  have hk' : 2097152 < k := hk
  unfold F12
  refine iter_search l.length (bad k l) (some false) (some true) (fun i rec hi => ?_) (fun rec => ?_) k 0 (Nat.zero_le _) (by omega)
  · simp only
    rw [dT (show (i : Int) < (l.length : Int) by omega), dT (show 0 ≤ (i : Int) ∧ (i : Int) < (l.length : Int) by omega), show wrap64 ((i : Int) + 1) = ((i + 1 : Nat) : Int) by rw [w64 (by omega) (by omega)]; simp]
    simp only [cond_true, Int.toNat_natCast]
    by_cases h1 : (l.getD i Z0).1 = 11
    · by_cases h2 : (l.getD i Z0).2.2.2.2.1 ≤ 0
      · rw [dT h1, dT h2, if_neg (by rintro ⟨_, h, _⟩; exact h h2)]; rfl
      · rw [dT h1, dF h2]
        simp only [Bool.not_true, cond_false]
        obtain ⟨r, q1, q2, q3, q4⟩ := place k hk l (l.getD i Z0).2.2.1 hl
        rw [q1]
        simp only [Option.bind_some]
        have hb : bad k l i ↔ ∃ m, 0 ≤ m ∧ m < r.toNat ∧ later l i m := by
          constructor
          · rintro ⟨_, _, r', e, h⟩; rw [q1] at e; cases e; exact h
          · intro h; exact ⟨h1, h2, r, q1, h⟩
        have hmax : (if r > (0 : Int) then r else (0 : Int)) = (r.toNat : Int) := by
          split <;> omega
        rw [hmax]
        generalize r.toNat = n at *
        have hn : n ≤ l.length := by omega
        rw [dT (show (0 : Int) ≤ 0 ∧ (0 : Int) ≤ (n : Int) ∧ (n : Int) ≤ (l.length : Int) by omega)]
        have hm : (l.drop (0 : Int).toNat).take ((n : Int) - 0).toNat = l.take n := by simp
        rw [hm]
        have hlen : (l.take n).length = n := by simp; omega
        rw [hlen]
        simp only [cond_true]
        have := iter_search (step := fun rec14 x13 => (bif (decide (x13.1 < (n : Int))) then (bif (decide (0 ≤ x13.1 ∧ x13.1 < (n : Int))) then (bif (decide (((l.take n).getD x13.1.toNat Z0).1 = (9 : Int))) then (bif (decide (((l.take n).getD x13.1.toNat Z0).2.2.2.1 = (l.getD i Z0).2.2.2.1)) then (bif (decide ((l.getD i Z0).2.2.2.2.1 < ((l.take n).getD x13.1.toNat Z0).2.2.2.2.1)) then (bif (decide ((0 : Int) ≤ x13.1)) then some false else (rec (((i + 1 : Nat) : Int), ()))) else (rec14 ((wrap64 (x13.1 + (1 : Int))), ()))) else (rec14 ((wrap64 (x13.1 + (1 : Int))), ()))) else (rec14 ((wrap64 (x13.1 + (1 : Int))), ()))) else none) else (bif (decide ((0 : Int) ≤ (-1 : Int))) then some false else (rec (((i + 1 : Nat) : Int), ()))))) n (later l i) (some false) (rec (((i + 1 : Nat) : Int), ())) (fun j rec2 hj => ?_) (fun rec2 => ?_) k 0 (Nat.zero_le _) (by omega)
        · refine Eq.trans this ?_
          simp only [hb]
        · simp only
          rw [show wrap64 ((j : Int) + 1) = ((j + 1 : Nat) : Int) by rw [w64 (by omega) (by omega)]; simp]
          rw [dT (show (j : Int) < (n : Int) by omega), dT (show 0 ≤ (j : Int) ∧ (j : Int) < (n : Int) by omega), dT (show (0 : Int) ≤ (j : Int) by omega)]
          have hg : (l.take n).getD j Z0 = l.getD j Z0 := by simp [List.getD_eq_getElem?_getD, List.getElem?_take, hj]
          simp only [cond_true, Int.toNat_natCast, hg]
          unfold later
          by_cases h3 : (l.getD j Z0).1 = 9 <;> by_cases h4 : (l.getD j Z0).2.2.2.1 = (l.getD i Z0).2.2.2.1 <;> by_cases h5 : (l.getD i Z0).2.2.2.2.1 < (l.getD j Z0).2.2.2.2.1 <;> simp only [h3, h4, h5, decide_true, decide_false, cond_true, cond_false, true_and, and_true, false_and, and_false, if_true, if_false]
        · simp only
          rw [dF (show ¬ (n : Int) < (n : Int) by omega)]
          rfl
    · rw [dF h1, if_neg (by rintro ⟨h, _⟩; exact h1 h)]; rfl
  · simp only
    rw [dF (show ¬ (l.length : Int) < (l.length : Int) by omega)]
    rfl

theorem same (k : Nat) (hk : fuel < k) (l : List D0) (ok : Ty.Ok (.slice U0) l) (hc : cost (.slice U0) l ≤ big) : ∃ w, F11 k l = some w ∧ F12 k l = some w := by
  have hl : l.length ≤ 1048576 := Nat.le_trans (cost_len (e := U0) l) hc
  rw [sayS k hk l hl, sayI k hk l hl]
  split <;> exact ⟨_, rfl, rfl⟩
end Go.Proofs.Ythbdlnhcioolgaa.InvalOk
