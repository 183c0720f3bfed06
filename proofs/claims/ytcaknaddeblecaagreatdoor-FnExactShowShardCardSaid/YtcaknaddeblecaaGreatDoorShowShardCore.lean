/- The program's ShowShard and the reference's tell the same text. -/
import Derived.Test.YtcaknaddeblecaaGreatDoorShards
import Derived.Test.YtcaknaddeblecaaGreatDoorJoins
namespace Go.Proofs.YtcaknaddeblecaaGreatDoor.ShowShard
open Go Go.RowKit Go.Proofs Go.Proofs.YtcaknaddeblecaaGreatDoor.Ev Go.Proofs.YtcaknaddeblecaaGreatDoor.Pl Go.Proofs.YtcaknaddeblecaaGreatDoor.Fns
set_option linter.unusedVariables false
set_option linter.unusedSimpArgs false
set_option maxRecDepth 100000

theorem facts {k : Nat} {a : D4} (h : shardOk k a = true) : a.2.2.1.length ≤ 8 ∧ 0 ≤ a.2.2.2 ∧ a.2.2.2 ≤ 8 := by
  unfold shardOk at h
  simp only [Bool.and_eq_true, Bool.or_eq_true, Bool.not_eq_true', decide_eq_true_eq, decide_eq_false_iff_not] at h
  obtain ⟨⟨⟨⟨⟨h1, h2⟩, h3⟩, h4⟩, h5⟩, h6⟩ := h
  omega

def slotAt (a : D4) (i : Nat) : D3 := a.2.2.1.getD ((a.2.2.2 + (i : Int)).tmod (a.2.2.1.length : Int)).toNat Z3
def wordOf (s : D3) : ByteArray := bif s.2 then ((s.1.1 ++ (ByteArray.mk #[58])) ++ dtext (s.1.2.2.1.2.2.size : Int)) ++ (ByteArray.mk #[42]) else (s.1.1 ++ (ByteArray.mk #[58])) ++ dtext (s.1.2.2.1.2.2.size : Int)
def words (a : D4) (n : Nat) : List ByteArray := (List.range n).map fun i => wordOf (slotAt a i)

theorem words_succ (a : D4) (n : Nat) : words a (n + 1) = words a n ++ [wordOf (slotAt a n)] := by
  unfold words
  rw [List.range_succ, List.map_append]; rfl
theorem words_len (a : D4) (n : Nat) : (words a n).length = n := by simp [words]
theorem words_empty (a : D4) (n : Nat) : (words a n).isEmpty = !decide (0 < n) := by
  cases n with
  | zero => rfl
  | succ n => rw [words_succ]; simp

theorem slot_small {a : D4} (hc : cost U4 a ≤ big) {i : Nat} (h0 : 0 ≤ a.2.2.2) (hi : i < a.2.2.1.length) : (slotAt a i).1.1.size ≤ 1048576 ∧ (slotAt a i).1.2.2.1.2.2.size ≤ 1048576 := by
  rw [shard_cost] at hc
  have hpos : (0 : Int) < (a.2.2.1.length : Int) := by omega
  have h1 : 0 ≤ (a.2.2.2 + (i : Int)).tmod (a.2.2.1.length : Int) := Int.tmod_nonneg _ (by omega)
  have h2 : (a.2.2.2 + (i : Int)).tmod (a.2.2.1.length : Int) < (a.2.2.1.length : Int) := Int.tmod_lt_of_pos _ hpos
  have h3 := (slot_costs hc (i := ((a.2.2.2 + (i : Int)).tmod (a.2.2.1.length : Int)).toNat) (by omega)).1
  have h3' : cost U2 (slotAt a i).1 ≤ 1048576 := h3
  have h4 := stored_cost (a := (slotAt a i).1)
  have h5 : cost U1 (slotAt a i).1.2.2.1 = cost (.slice U0) (slotAt a i).1.2.2.1.2.1 + (slotAt a i).1.2.2.1.2.2.size := by simp only [cost]; omega
  omega

theorem same (k : Nat) (hk : fuel < k) (a : D4) (ok : Ty.Ok U4 a) (hc : cost U4 a ≤ big) : ∃ w, F14 k a = some w ∧ F16 k a = some w := by
  have hk' : 2097152 < k := hk
  unfold F14 F16
  rw [shard_S k hk a hc, shard_I k hk a hc]
  simp only [Option.bind_some]
  cases hs : shardOk k a with
  | false => exact ⟨_, rfl, rfl⟩
  | true =>
    simp only [Bool.not_true, cond_false]
    obtain ⟨f1, f2, f3⟩ := facts hs
    have hsm : ∀ i, i < a.2.2.1.length → (slotAt a i).1.1.size ≤ 1048576 ∧ (slotAt a i).1.2.2.1.2.2.size ≤ 1048576 := fun i hi => slot_small hc f2 hi
    have hsp : (ByteArray.mk #[32]).size = 1 := rfl
    have hco : (ByteArray.mk #[58]).size = 1 := rfl
    have hst : (ByteArray.mk #[42]).size = 1 := rfl
    have hw : ∀ i, i < a.2.2.1.length → (wordOf (slotAt a i)).size ≤ 1048600 := by
      intro i hi
      have h1 := hsm i hi
      have h2 := (dtext_eq k hk ((slotAt a i).1.2.2.1.2.2.size : Int) (by omega)).2.2
      unfold wordOf
      cases (slotAt a i).2 <;> simp only [cond_true, cond_false, ByteArray.size_append, hco, hst] <;> omega
    have hj : ∀ n, n ≤ a.2.2.1.length → (joinB (words a n) (ByteArray.mk #[32])).size ≤ 1048601 * n := by
      intro n
      induction n with
      | zero => intro _; exact Nat.le_refl _
      | succ n ih =>
        intro hn
        rw [words_succ, joinB_snoc, words_empty]
        have h1 := ih (by omega)
        have h2 := hw n (by omega)
        cases decide (0 < n) <;> simp only [Bool.not_true, Bool.not_false, cond_true, cond_false, ByteArray.size_append, hsp] <;> omega
    have hjn := hj a.2.2.1.length (Nat.le_refl _)
    refine ⟨joinB (words a a.2.2.1.length) (ByteArray.mk #[32]), ?_, ?_⟩
    · refine iter_to (fun i x => x.2.1 = (i : Int) ∧ x.1 = joinB (words a i) (ByteArray.mk #[32])) _ a.2.2.1.length ?_ ?_ k _ ⟨rfl, rfl⟩ (by omega)
      · rintro i ⟨xs, xi, _⟩ rec ⟨h1, h2⟩ hi hrec
        simp only at h1 h2
        subst h1; subst h2
        have hb := hj i (by omega)
        obtain ⟨b1, b2⟩ := hsm i hi
        have hpos : (0 : Int) < (a.2.2.1.length : Int) := by omega
        have t1 : 0 ≤ (a.2.2.2 + (i : Int)).tmod (a.2.2.1.length : Int) := Int.tmod_nonneg _ (by omega)
        have t2 : (a.2.2.2 + (i : Int)).tmod (a.2.2.1.length : Int) < (a.2.2.1.length : Int) := Int.tmod_lt_of_pos _ hpos
        have hslot : a.2.2.1.getD ((a.2.2.2 + (i : Int)).tmod (a.2.2.1.length : Int)).toNat Z3 = slotAt a i := rfl
        simp only
        rw [w64 (n := a.2.2.2 + (i : Int)) (by omega) (by omega), w64 (n := (i : Int) + 1) (by omega) (by omega), dT (show (i : Int) < (a.2.2.1.length : Int) by omega), dF (show ¬ (a.2.2.1.length : Int) = 0 by omega), dT (And.intro t1 t2), hslot]
        simp only [cond_true, cond_false]
        obtain ⟨d1, d2, d3⟩ := dtext_eq k hk ((slotAt a i).1.2.2.1.2.2.size : Int) (by omega)
        rw [d1]
        simp only [Option.bind_some]
        have hnext := hrec (joinB (words a (i + 1)) (ByteArray.mk #[32]), (i : Int) + 1, ()) ⟨by simp, rfl⟩
        rw [words_succ, joinB_snoc, words_empty] at hnext
        by_cases h0 : 0 < i
        · rw [dT h0] at hnext
          rw [dT (show (0 : Int) < (i : Int) by omega)]
          simp only [Bool.not_true, cond_true, cond_false] at hnext ⊢
          rw [fits (by omega), fits (by simp only [ByteArray.size_append, hsp, hco]; omega), fits (by simp only [ByteArray.size_append, hsp, hco]; omega), fits (by simp only [ByteArray.size_append, hsp, hco]; omega)]
          simp only [cond_true]
          unfold wordOf at hnext
          cases hu : (slotAt a i).2 with
          | true =>
            rw [hu] at hnext
            rw [fits (by simp only [ByteArray.size_append, hsp, hco, hst]; omega)]
            simp only [cond_true, ba_assoc] at hnext ⊢
            exact hnext
          | false =>
            rw [hu] at hnext
            simp only [cond_false, ba_assoc] at hnext ⊢
            exact hnext
        · rw [dF h0] at hnext
          rw [dF (show ¬ (0 : Int) < (i : Int) by omega)]
          simp only [Bool.not_false, cond_true, cond_false] at hnext ⊢
          rw [fits (by omega), fits (by simp only [ByteArray.size_append, hsp, hco]; omega), fits (by simp only [ByteArray.size_append, hsp, hco]; omega)]
          simp only [cond_true]
          unfold wordOf at hnext
          cases hu : (slotAt a i).2 with
          | true =>
            rw [hu] at hnext
            rw [fits (by simp only [ByteArray.size_append, hsp, hco, hst]; omega)]
            simp only [cond_true, ba_assoc] at hnext ⊢
            exact hnext
          | false =>
            rw [hu] at hnext
            simp only [cond_false, ba_assoc] at hnext ⊢
            exact hnext
      · rintro ⟨xs, xi, _⟩ rec ⟨h1, h2⟩
        simp only at h1 h2
        subst h1; subst h2
        simp only
        rw [dF (show ¬ (a.2.2.1.length : Int) < (a.2.2.1.length : Int) by omega)]
        rfl
    · refine iter_to (fun i x => x.1 = (i : Int) ∧ x.2.1 = words a i) _ a.2.2.1.length ?_ ?_ k _ ⟨rfl, rfl⟩ (by omega)
      · rintro i ⟨xi, xs, _⟩ rec ⟨h1, h2⟩ hi hrec
        simp only at h1 h2
        subst h1; subst h2
        obtain ⟨b1, b2⟩ := hsm i hi
        have hpos : (0 : Int) < (a.2.2.1.length : Int) := by omega
        have t1 : 0 ≤ (a.2.2.2 + (i : Int)).tmod (a.2.2.1.length : Int) := Int.tmod_nonneg _ (by omega)
        have t2 : (a.2.2.2 + (i : Int)).tmod (a.2.2.1.length : Int) < (a.2.2.1.length : Int) := Int.tmod_lt_of_pos _ hpos
        have hslot : a.2.2.1.getD ((a.2.2.2 + (i : Int)).tmod (a.2.2.1.length : Int)).toNat Z3 = slotAt a i := rfl
        simp only
        rw [w64 (n := a.2.2.2 + (i : Int)) (by omega) (by omega), w64 (n := (i : Int) + 1) (by omega) (by omega), dT (show (i : Int) < (a.2.2.1.length : Int) by omega), dF (show ¬ (a.2.2.1.length : Int) = 0 by omega), dT (And.intro t1 t2), hslot]
        simp only [cond_true, cond_false]
        obtain ⟨d1, d2, d3⟩ := dtext_eq k hk ((slotAt a i).1.2.2.1.2.2.size : Int) (by omega)
        rw [d2]
        simp only [Option.bind_some]
        have hnext := hrec ((i : Int) + 1, words a (i + 1), ()) ⟨by simp, rfl⟩
        rw [words_succ] at hnext
        have hm : ∀ w : ByteArray, decide ((words a i).length + ([w] : List ByteArray).length < most) = true := fun w => dT (by rw [words_len]; show i + 1 < 8589934592; omega)
        rw [fits (by omega), fits (by simp only [ByteArray.size_append, hsp, hco]; omega)]
        simp only [cond_true]
        unfold wordOf at hnext
        cases hu : (slotAt a i).2 with
        | true =>
          rw [hu] at hnext
          rw [fits (by simp only [ByteArray.size_append, hsp, hco, hst]; omega)]
          simp only [hm, cond_true] at hnext ⊢
          exact hnext
        | false =>
          rw [hu] at hnext
          simp only [hm, cond_true, cond_false] at hnext ⊢
          exact hnext
      · rintro ⟨xi, xs, _⟩ rec ⟨h1, h2⟩
        simp only at h1 h2
        subst h1; subst h2
        simp only
        rw [dF (show ¬ (a.2.2.1.length : Int) < (a.2.2.1.length : Int) by omega), semJoin_some (by rw [words_len]; omega) (by omega)]
        rfl
end Go.Proofs.YtcaknaddeblecaaGreatDoor.ShowShard
