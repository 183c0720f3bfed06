/- Copies of stored parts: what the program and the reference hand on is what they got. -/
import Derived.Test.YtigbabjhcihmaaaGreatDoorFam
import Derived.Test.YtigbabjhcihmaaaGreatDoorLoops
namespace Go.Proofs.YtigbabjhcihmaaaGreatDoor.Fns
open Go Go.RowKit Go.Proofs Go.Proofs.YtigbabjhcihmaaaGreatDoor.Ev Go.Proofs.YtigbabjhcihmaaaGreatDoor.Pl
set_option linter.unusedVariables false
set_option linter.unusedSimpArgs false

theorem fields_len {x : D5} (h : cost U5 x ≤ big) : x.2.1.length ≤ 1048576 := by
  have : cost U5 x = 0 + (cost (.slice U0) x.2.1 + cost .str x.2.2) := rfl
  have h2 := cost_len (e := U0) x.2.1
  have h3 : big = 1048576 := rfl
  omega
theorem copyResp_S (k : Nat) (x : D5) (h : cost U5 x ≤ big) : F260 k x = some x := by
  have := fields_len h
  unfold F260
  rw [dT (by show 0 + x.2.1.length < 8589934592; omega)]
  rfl
theorem copyResp_I (k : Nat) (x : D5) (h : cost U5 x ≤ big) : F265 k x = some x := by
  have := fields_len h
  unfold F265 semClone
  rw [dT (by omega)]
  rfl

theorem stored_parts {x : D6} (h : cost U6 x ≤ big) : x.2.1.length ≤ 1048576 ∧ cost U5 x.2.2.1 ≤ big := by
  have h1 : cost U6 x = x.1.size + (cost (.slice U0) x.2.1 + (cost U5 x.2.2.1 + (0 + 0))) := rfl
  have h2 := cost_len (e := U0) x.2.1
  have h3 : big = 1048576 := rfl
  omega
theorem copyStored_S (k : Nat) (x : D6) (h : cost U6 x ≤ big) : F194 k x = some x := by
  obtain ⟨h1, h2⟩ := stored_parts h
  unfold F194
  rw [dT (by show 0 + x.2.1.length < 8589934592; omega), copyResp_S k _ h2]
  rfl
theorem copyStored_I (k : Nat) (x : D6) (h : cost U6 x ≤ big) : F205 k x = some x := by
  obtain ⟨h1, h2⟩ := stored_parts h
  unfold F205 semClone
  rw [dT (by omega), copyResp_I k _ h2]
  rfl

theorem shard_parts {x : D8} (h : cost U8 x ≤ big) : x.2.2.1.length ≤ 1048576 ∧ ∀ (i : Nat) (hi : i < x.2.2.1.length), cost U6 (x.2.2.1[i]'hi).1 ≤ big := by
  have h1 : cost U8 x = 0 + (0 + (cost (.slice U7) x.2.2.1 + 0)) := rfl
  have h2 := cost_len (e := U7) x.2.2.1
  have h3 : big = 1048576 := rfl
  refine ⟨by omega, fun i hi => ?_⟩
  have h4 := cost_get (e := U7) hi
  have h5 : cost U7 (x.2.2.1[i]'hi) = cost U6 (x.2.2.1[i]'hi).1 + 0 := rfl
  omega
theorem copyShard_S (k : Nat) (hk : fuel < k) (x : D8) (h : cost U8 x ≤ big) : F104 k x = some x := by
  obtain ⟨hl, hs⟩ := shard_parts h
  have hk' : 2097152 < k := hk
  unfold F104
  refine iter_flat x.2.2.1 (fun y => [y]) x (fun i hi rec => ?_) (fun rec => ?_) k (by omega)
  · have e1 : decide ((i : Int) < (x.2.2.1.length : Int)) = true := dT (by omega)
    have e2 : decide (0 ≤ (i : Int) ∧ (i : Int) < (x.2.2.1.length : Int)) = true := dT (by omega)
    simp only [e1, e2, cond_true, Int.toNat_natCast, getD_lt hi]
    rw [copyStored_S k _ (hs i hi)]
    have hf := flat_len' x.2.2.1 (fun y => [y]) i hi
    rw [flat_self x.2.2.1] at hf
    simp only [List.length_singleton] at hf
    simp only [Option.bind_some, List.length_singleton]
    rw [dT (show ((x.2.2.1.take i).flatMap fun y => [y]).length + 1 < 8589934592 by omega), cond_true, w64 (n := (i : Int) + 1) (by omega) (by omega)]
    rfl
  · rw [dF (show ¬ ((x.2.2.1.length : Int) < (x.2.2.1.length : Int)) by omega), flat_self]; rfl
theorem copyShard_I (k : Nat) (hk : fuel < k) (x : D8) (h : cost U8 x ≤ big) : F120 k x = some x := by
  obtain ⟨hl, hs⟩ := shard_parts h
  have hk' : 2097152 < k := hk
  unfold F120
  refine iter_flat x.2.2.1 (fun y => [y]) x (fun i hi rec => ?_) (fun rec => ?_) k (by omega)
  · have e1 : decide ((i : Int) < (x.2.2.1.length : Int)) = true := dT (by omega)
    have e2 : decide (0 ≤ (i : Int) ∧ (i : Int) < (x.2.2.1.length : Int)) = true := dT (by omega)
    simp only [e1, e2, cond_true, Int.toNat_natCast, getD_lt hi]
    rw [copyStored_I k _ (hs i hi)]
    have hf := flat_len' x.2.2.1 (fun y => [y]) i hi
    rw [flat_self x.2.2.1] at hf
    simp only [List.length_singleton] at hf
    simp only [Option.bind_some, List.length_singleton]
    rw [dT (show ((x.2.2.1.take i).flatMap fun y => [y]).length + 1 < 8589934592 by omega), cond_true, w64 (n := (i : Int) + 1) (by omega) (by omega)]
    rfl
  · rw [dF (show ¬ ((x.2.2.1.length : Int) < (x.2.2.1.length : Int)) by omega), flat_self]; rfl

theorem cache_parts {x : D10} (h : cost U10 x ≤ big) : x.1.length ≤ 1048576 ∧ x.2.length ≤ 1048576 ∧ ∀ (i : Nat) (hi : i < x.1.length), cost U8 (x.1[i]'hi) ≤ big := by
  have h1 : cost U10 x = cost (.slice U8) x.1 + cost (.slice U9) x.2 := rfl
  have h2 := cost_len (e := U8) x.1
  have h3 := cost_len (e := U9) x.2
  have h4 : big = 1048576 := rfl
  exact ⟨by omega, by omega, fun i hi => Nat.le_trans (cost_get (e := U8) hi) (by omega)⟩
theorem copyCache_S (k : Nat) (hk : fuel < k) (x : D10) (h : cost U10 x ≤ big) : F37 k x = some x := by
  obtain ⟨hl, hg, hs⟩ := cache_parts h
  have hk' : 2097152 < k := hk
  unfold F37
  rw [dT (show ([] : List D9).length + x.2.length < 8589934592 by show 0 + x.2.length < _; omega), cond_true]
  refine iter_flat x.1 (fun y => [y]) x (fun i hi rec => ?_) (fun rec => ?_) k (by omega)
  · have e1 : decide ((i : Int) < (x.1.length : Int)) = true := dT (by omega)
    have e2 : decide (0 ≤ (i : Int) ∧ (i : Int) < (x.1.length : Int)) = true := dT (by omega)
    simp only [e1, e2, cond_true, Int.toNat_natCast, getD_lt hi]
    rw [copyShard_S k hk _ (hs i hi)]
    have hf := flat_len' x.1 (fun y => [y]) i hi
    rw [flat_self x.1] at hf
    simp only [List.length_singleton] at hf
    simp only [Option.bind_some, List.length_singleton]
    rw [dT (show ((x.1.take i).flatMap fun y => [y]).length + 1 < 8589934592 by omega), cond_true, w64 (n := (i : Int) + 1) (by omega) (by omega)]
    rfl
  · rw [dF (show ¬ ((x.1.length : Int) < (x.1.length : Int)) by omega), flat_self]; rfl
theorem copyCache_I (k : Nat) (hk : fuel < k) (x : D10) (h : cost U10 x ≤ big) : F44 k x = some x := by
  obtain ⟨hl, hg, hs⟩ := cache_parts h
  have hk' : 2097152 < k := hk
  unfold F44 semClone
  rw [dT (by omega)]
  simp only [cond_true, Option.bind_some]
  refine iter_flat x.1 (fun y => [y]) x (fun i hi rec => ?_) (fun rec => ?_) k (by omega)
  · have e1 : decide ((i : Int) < (x.1.length : Int)) = true := dT (by omega)
    have e2 : decide (0 ≤ (i : Int) ∧ (i : Int) < (x.1.length : Int)) = true := dT (by omega)
    simp only [e1, e2, cond_true, Int.toNat_natCast, getD_lt hi]
    rw [copyShard_I k hk _ (hs i hi)]
    have hf := flat_len' x.1 (fun y => [y]) i hi
    rw [flat_self x.1] at hf
    simp only [List.length_singleton] at hf
    simp only [Option.bind_some, List.length_singleton]
    rw [dT (show ((x.1.take i).flatMap fun y => [y]).length + 1 < 8589934592 by omega), cond_true, w64 (n := (i : Int) + 1) (by omega) (by omega)]
    rfl
  · rw [dF (show ¬ ((x.1.length : Int) < (x.1.length : Int)) by omega), flat_self]; rfl

theorem origin_parts {x : D2} (h : cost U2 x ≤ big) : x.length ≤ 1048576 ∧ ∀ (i : Nat) (hi : i < x.length), (x[i]'hi).2.2.2.2.2.2.length ≤ 1048576 := by
  have h1 : cost U2 x = cost (.slice U1) x := rfl
  have h2 := cost_len (e := U1) x
  have h3 : big = 1048576 := rfl
  refine ⟨by omega, fun i hi => ?_⟩
  have h4 := cost_get (e := U1) hi
  have h5 : cost U1 (x[i]'hi) = (x[i]'hi).1.size + ((x[i]'hi).2.1.size + (0 + (0 + (0 + (0 + cost (.slice U0) (x[i]'hi).2.2.2.2.2.2))))) := rfl
  have h6 := cost_len (e := U0) (x[i]'hi).2.2.2.2.2.2
  omega
theorem copyOrigin_S (k : Nat) (hk : fuel < k) (x : D2) (h : cost U2 x ≤ big) : F169 k x = some x := by
  obtain ⟨hl, hs⟩ := origin_parts h
  have hk' : 2097152 < k := hk
  unfold F169
  refine iter_flat x (fun y => [y]) x (fun i hi rec => ?_) (fun rec => ?_) k (by omega)
  · have e1 : decide ((i : Int) < (x.length : Int)) = true := dT (by omega)
    have e2 : decide (0 ≤ (i : Int) ∧ (i : Int) < (x.length : Int)) = true := dT (by omega)
    simp only [e1, e2, cond_true, Int.toNat_natCast, getD_lt hi]
    have hf := flat_len' x (fun y => [y]) i hi
    rw [flat_self x] at hf
    simp only [List.length_singleton] at hf
    have := hs i hi
    simp only [Option.bind_some, List.length_singleton]
    rw [dT (show ([] : List D0).length + (x[i]'hi).2.2.2.2.2.2.length < 8589934592 by show 0 + (x[i]'hi).2.2.2.2.2.2.length < _; omega), cond_true]
    rw [dT (show ((x.take i).flatMap fun y => [y]).length + 1 < 8589934592 by omega), cond_true, w64 (n := (i : Int) + 1) (by omega) (by omega)]
    rfl
  · rw [dF (show ¬ ((x.length : Int) < (x.length : Int)) by omega), flat_self]; rfl
theorem copyOrigin_I (k : Nat) (hk : fuel < k) (x : D2) (h : cost U2 x ≤ big) : F174 k x = some x := by
  obtain ⟨hl, hs⟩ := origin_parts h
  have hk' : 2097152 < k := hk
  unfold F174 semClone
  refine iter_flat x (fun y => [y]) x (fun i hi rec => ?_) (fun rec => ?_) k (by omega)
  · have e1 : decide ((i : Int) < (x.length : Int)) = true := dT (by omega)
    have e2 : decide (0 ≤ (i : Int) ∧ (i : Int) < (x.length : Int)) = true := dT (by omega)
    simp only [e1, e2, cond_true, Int.toNat_natCast, getD_lt hi]
    have hf := flat_len' x (fun y => [y]) i hi
    rw [flat_self x] at hf
    simp only [List.length_singleton] at hf
    have := hs i hi
    rw [dT (by omega)]
    simp only [cond_true, Option.bind_some, List.length_singleton]
    rw [dT (show ((x.take i).flatMap fun y => [y]).length + 1 < 8589934592 by omega), cond_true, w64 (n := (i : Int) + 1) (by omega) (by omega)]
    rfl
  · rw [dF (show ¬ ((x.length : Int) < (x.length : Int)) by omega), flat_self]; rfl
end Go.Proofs.YtigbabjhcihmaaaGreatDoor.Fns
