/- The program's TagOf and VersionIn tell what the reference's tell. -/
import Derived.Test.YthbdlnhcioolgaaDoorFieldGet
namespace Go.Proofs.YthbdlnhcioolgaaDoor.Fns
open Go Go.RowKit Go.Proofs Go.Proofs.YthbdlnhcioolgaaDoor.Ev Go.Proofs.YthbdlnhcioolgaaDoor.Pl
set_option linter.unusedVariables false
set_option linter.unusedSimpArgs false
set_option maxRecDepth 100000

theorem tag_same (k : Nat) (hk : fuel < k) (n : Int) : ∃ w, F40 k n = some w ∧ F44 k n = some w ∧ w.size ≤ 24 := by
  unfold F40 F44 F31 F36
  by_cases h1 : 1 ≤ n
  · rw [dT h1]
    by_cases h2 : n ≤ 100000
    · rw [dT h2]
      obtain ⟨w, q1, q2, q3⟩ := num k hk n ⟨by omega, by omega⟩
      have ha : (ByteArray.mk #[34, 118]).size = 2 := rfl
      have hb : (ByteArray.mk #[34]).size = 1 := rfl
      refine ⟨((ByteArray.mk #[34, 118]) ++ w) ++ (ByteArray.mk #[34]), ?_, ?_, by simp only [ByteArray.size_append, ha, hb]; omega⟩
      · simp only [cond_true, Option.bind_some, Bool.not_true, cond_false, q1]
        rw [fits (by omega), cond_true, fits (by rw [ByteArray.size_append]; omega), cond_true]
      · simp only [cond_true, Option.bind_some, Bool.not_true, cond_false, q2]
        rw [fits (by omega), cond_true, fits (by rw [ByteArray.size_append]; omega), cond_true]
    · rw [dF h2]; exact ⟨_, rfl, rfl, by decide⟩
  · rw [dF h1]; exact ⟨_, rfl, rfl, by decide⟩

theorem itoa_ne (n : Int) : Lib.itoa n ≠ [] := by
  unfold Lib.itoa
  split
  · simp
  · exact digits_ne _

theorem version_same (k : Nat) (hk : fuel < k) (a : D2) (hc : cost U2 a ≤ big) : ∃ w, F27 k a = some w ∧ F29 k a = some w := by
  have hf : cost (.slice U1) a.2.1 ≤ big := by simp only [cost] at hc ⊢; omega
  obtain ⟨r, h1, h2, h3⟩ := get_same k hk a.2.1 (ByteArray.mk #[101, 116, 97, 103]) hf
  unfold F27 F29
  rw [h1, h2]
  simp only [Option.bind_some]
  by_cases h : r.1.size < 4
  · rw [dT (show (r.1.size : Int) < 4 by omega)]
    refine ⟨0, rfl, ?_⟩
    by_cases h' : r.1.size < 3
    · rw [dT (show (r.1.size : Int) < 3 by omega)]; rfl
    · have h3 : r.1.size = 3 := by omega
      rw [dF (show ¬ (r.1.size : Int) < 3 by omega), h3]
      have hw : wrap64 (((3 : Nat) : Int) - 1) = 2 := by rw [w64 (by omega) (by omega)]; omega
      rw [hw, dT (show 0 ≤ (2 : Int) ∧ (2 : Int) ≤ 2 ∧ (2 : Int) ≤ ((3 : Nat) : Int) by omega)]
      have hx : (r.1.extract (2 : Int).toNat (2 : Int).toNat).data.toList = [] := by
        have : (r.1.extract (2 : Int).toNat (2 : Int).toNat).size = 0 := by rw [ByteArray.size_extract]; show min 2 r.1.size - 2 = 0; omega
        rw [size_data] at this
        exact List.length_eq_zero_iff.mp this
      rw [readI_no k _ (by rw [size_data, hx]; exact Nat.zero_le _) (fun n _ _ e => itoa_ne n (by rw [← e, hx]))]
      rfl
  · rw [dF (show ¬ (r.1.size : Int) < 4 by omega), dF (show ¬ (r.1.size : Int) < 3 by omega)]
    have hw : wrap64 ((r.1.size : Int) - 1) = ((r.1.size - 1 : Nat) : Int) := by rw [w64 (by omega) (by omega)]; omega
    rw [hw, dT (show 0 ≤ (2 : Int) ∧ (2 : Int) ≤ ((r.1.size - 1 : Nat) : Int) ∧ ((r.1.size - 1 : Nat) : Int) ≤ (r.1.size : Int) by omega)]
    simp only [cond_false, cond_true, Int.toNat_natCast]
    have hbig : (r.1.extract (2 : Int).toNat (r.1.size - 1)).size ≤ 281474976710656 := by rw [ByteArray.size_extract]; omega
    obtain ⟨q, q1, q2, q3⟩ := read_same k hk (r.1.extract (2 : Int).toNat (r.1.size - 1)) hbig
    rw [q1, q2]
    simp only [Option.bind_some]
    cases hq : q.2 with
    | false => exact ⟨0, rfl, rfl⟩
    | true =>
      obtain ⟨w, t1, t2, _⟩ := tag_same k hk q.1
      simp only [Bool.not_true, cond_false, t1, t2, Option.bind_some]
      by_cases he : w = r.1
      · rw [dT he]; exact ⟨_, rfl, rfl⟩
      · rw [dF he]; exact ⟨_, rfl, rfl⟩
end Go.Proofs.YthbdlnhcioolgaaDoor.Fns
