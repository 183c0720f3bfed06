/- Caches, origins, requests: which are one. The program's tests are the reference's. -/
import Derived.Test.YtigbabjhcihmaaaGreatDoorShards
namespace Go.Proofs.YtigbabjhcihmaaaGreatDoor.Fns
open Go Go.RowKit Go.Proofs Go.Proofs.YtigbabjhcihmaaaGreatDoor.Ev Go.Proofs.YtigbabjhcihmaaaGreatDoor.Pl
set_option linter.unusedVariables false
set_option linter.unusedSimpArgs false
set_option maxRecDepth 100000

theorem fnv_some (k : Nat) (hk : fuel < k) (s : ByteArray) (hs : s.size ≤ 1048576) : ∃ n, F196 k s = some n := by
  have hk' : 2097152 < k := hk
  unfold F196
  obtain ⟨r, h, _⟩ := iter_count (ρ := Int) (fun i (x : Int × Int × Unit) => x.2.1 = (i : Int)) (fun _ => True) s.size (step := fun (rec4 : Int × Int × Unit → Option Int) x3 => (bif (decide (x3.2.1 < (s.size : Int))) then (bif (decide (0 ≤ x3.2.1 ∧ x3.2.1 < (s.size : Int))) then (bif (decide ((4294967296 : Int) = 0)) then none else (rec4 (((wrap64 ((bitsXor .i64 x3.1 (wrap64 ((bt s x3.2.1)))) * (16777619 : Int))).tmod (4294967296 : Int)), (wrap64 (x3.2.1 + (1 : Int))), ()))) else none) else some x3.1)) (by
    rintro i ⟨xs, xi, _⟩ rec h1 hi hrec
    simp only at h1
    subst h1
    simp only
    rw [dT (show (i : Int) < (s.size : Int) by omega), dT (show 0 ≤ (i : Int) ∧ (i : Int) < (s.size : Int) by omega), dF (show ¬ (4294967296 : Int) = 0 by omega), w64 (n := (i : Int) + 1) (by omega) (by omega)]
    exact hrec _ rfl) (by
    rintro ⟨xs, xi, _⟩ rec h1
    simp only at h1
    subst h1
    simp only
    rw [dF (show ¬ (s.size : Int) < (s.size : Int) by omega)]
    exact ⟨_, rfl, trivial⟩) k 0 ((2166136261 : Int), (0 : Int), ()) rfl (Nat.zero_le _) (by omega)
  exact ⟨r, h⟩

def shardOf (k : Nat) (c : D10) (s : ByteArray) : Int := (F106 k c s).getD 0
theorem shardOf_S (k : Nat) (hk : fuel < k) (c : D10) (s : ByteArray) (hs : s.size ≤ 1048576) : F106 k c s = some (shardOf k c s) := by
  obtain ⟨n, hn⟩ := fnv_some k hk s hs
  suffices h : ∃ r, F106 k c s = some r by
    obtain ⟨r, h⟩ := h
    unfold shardOf
    rw [h]; rfl
  unfold F106
  rw [hn, Option.bind_some]
  by_cases h : (c.1.length : Int) = 0
  · rw [dT h]; exact ⟨_, rfl⟩
  · rw [dF h]; exact ⟨_, rfl⟩
theorem shardOf_I (k : Nat) (hk : fuel < k) (c : D10) (s : ByteArray) (hs : s.size ≤ 1048576) : F122 k c s = some (shardOf k c s) := shardOf_S k hk c s hs

def homeOk (k : Nat) (c : D10) (i : Nat) : Bool := shardOk k (c.1.getD i Z8) && (List.range (c.1.getD i Z8).2.2.1.length).all fun j => decide (shardOf k c ((c.1.getD i Z8).2.2.1.getD j Z7).1.1 = (i : Int))
def genOk (l : List D9) (i : Nat) : Bool := uriOk (l.getD i Z9).1 && (decide (1 ≤ (l.getD i Z9).2) && decide ((l.getD i Z9).2 ≤ 1000000)) && (decide (i = 0) || lessText (l.getD (i - 1) Z9).1 (l.getD i Z9).1)
def cacheOk (k : Nat) (c : D10) : Bool := (decide (1 ≤ (c.1.length : Int)) && decide ((c.1.length : Int) ≤ 4)) && ((List.range c.1.length).all (homeOk k c) && (List.range c.2.length).all (genOk c.2))

theorem cache_cost {c : D10} : cost U10 c = cost (.slice U8) c.1 + cost (.slice U9) c.2 := by simp only [cost]

theorem gen_cost {g : D9} : cost U9 g = g.1.size := by simp only [cost]; omega

theorem home_costs {c : D10} (hc : cost U10 c ≤ big) {i : Nat} (hi : i < c.1.length) : cost U8 (c.1.getD i Z8) ≤ big ∧ (c.1.getD i Z8).2.2.1.length ≤ 1048576 ∧ ∀ j, j < (c.1.getD i Z8).2.2.1.length → ((c.1.getD i Z8).2.2.1.getD j Z7).1.1.size ≤ 1048576 := by
  have hc' : cost U10 c ≤ 1048576 := hc
  have h0 := cache_cost (c := c)
  have h1 : cost U8 (c.1.getD i Z8) ≤ cost (.slice U8) c.1 := cost_mem (getD_mem hi)
  have h2 := shard_cost (a := c.1.getD i Z8)
  have h3 : (c.1.getD i Z8).2.2.1.length ≤ cost (.slice U7) (c.1.getD i Z8).2.2.1 := cost_len (e := U7) _
  refine ⟨by show _ ≤ 1048576; omega, by omega, fun j hj => ?_⟩
  have h4 := (slot_costs (l := (c.1.getD i Z8).2.2.1) (by show _ ≤ 1048576; omega) hj).1
  have h5 := stored_cost (a := ((c.1.getD i Z8).2.2.1.getD j Z7).1)
  have h4' : cost U6 ((c.1.getD i Z8).2.2.1.getD j Z7).1 ≤ 1048576 := h4
  omega

theorem gens_S (k : Nat) (hk : fuel < k) (l : List D9) (hc : cost (.slice U9) l ≤ big) : iter (σ := Int × Unit) (fun rec25 x24 => (bif (decide (x24.1 < (l.length : Int))) then (bif (decide (0 ≤ x24.1 ∧ x24.1 < (l.length : Int))) then ((F112 k (l.getD x24.1.toNat Z9).1).bind fun r26 => (bif (!r26) then some false else (bif (decide (0 ≤ x24.1 ∧ x24.1 < (l.length : Int))) then ((F166 k (l.getD x24.1.toNat Z9).2 (1 : Int) (1000000 : Int)).bind fun r27 => (bif (!r27) then some false else (bif (decide ((0 : Int) < x24.1)) then (bif (decide (0 ≤ x24.1 ∧ x24.1 < (l.length : Int))) then (bif (decide (0 ≤ (wrap64 (x24.1 - (1 : Int))) ∧ (wrap64 (x24.1 - (1 : Int))) < (l.length : Int))) then (bif (lessText (l.getD x24.1.toNat Z9).1 (l.getD (wrap64 (x24.1 - (1 : Int))).toNat Z9).1 || decide ((l.getD x24.1.toNat Z9).1 = (l.getD (wrap64 (x24.1 - (1 : Int))).toNat Z9).1)) then some false else (rec25 ((wrap64 (x24.1 + (1 : Int))), ()))) else none) else none) else (rec25 ((wrap64 (x24.1 + (1 : Int))), ()))))) else none))) else none) else some true)) k ((0 : Int), ()) = some ((List.range l.length).all (genOk l)) := by
  have hk' : 2097152 < k := hk
  have hc' : cost (.slice U9) l ≤ 1048576 := hc
  have hlen : l.length ≤ cost (.slice U9) l := cost_len (e := U9) l
  refine (iter_idx l.length (genOk l) (some false) (some true) (fun i hi rec => ?_) (fun rec => ?_) k (by omega)).trans ?_
  · have h1 : cost U9 (l.getD i Z9) ≤ cost (.slice U9) l := cost_mem (getD_mem hi)
    rw [gen_cost] at h1
    simp only [Int.toNat_natCast]
    rw [dT (show (i : Int) < (l.length : Int) by omega), dT (show 0 ≤ (i : Int) ∧ (i : Int) < (l.length : Int) by omega), w64 (n := (i : Int) + 1) (by omega) (by omega), uri_S k _ (by omega) (by omega), in_S]
    simp only [cond_true, Option.bind_some]
    unfold genOk
    by_cases h0 : i = 0
    · rw [dT h0, dF (show ¬ (0 : Int) < (i : Int) by omega)]
      cases uriOk (l.getD i Z9).1 <;> cases (decide (1 ≤ (l.getD i Z9).2) && decide ((l.getD i Z9).2 ≤ 1000000)) <;> rfl
    · rw [dF h0, dT (show (0 : Int) < (i : Int) by omega), w64 (n := (i : Int) - 1) (by omega) (by omega), dT (show 0 ≤ (i : Int) - 1 ∧ (i : Int) - 1 < (l.length : Int) by omega), show ((i : Int) - 1).toNat = i - 1 by omega, ← less_not]
      cases uriOk (l.getD i Z9).1 <;> cases (decide (1 ≤ (l.getD i Z9).2) && decide ((l.getD i Z9).2 ≤ 1000000)) <;> cases lessText (l.getD (i - 1) Z9).1 (l.getD i Z9).1 <;> rfl
  · simp only
    rw [dF (show ¬ (l.length : Int) < (l.length : Int) by omega)]; rfl
  · cases (List.range l.length).all (genOk l) <;> rfl

theorem gens_I (k : Nat) (hk : fuel < k) (l : List D9) (hc : cost (.slice U9) l ≤ big) : iter (σ := Int × Unit) (fun rec25 x24 => (bif (decide (x24.1 < (l.length : Int))) then (bif (decide (0 ≤ x24.1 ∧ x24.1 < (l.length : Int))) then ((F128 k (l.getD x24.1.toNat Z9).1).bind fun r26 => (bif (!r26) then some false else ((F176 k (l.getD x24.1.toNat Z9).2 (1 : Int) (1000000 : Int)).bind fun r27 => (bif (!r27) then some false else (bif (decide ((0 : Int) < x24.1)) then (bif (decide (0 ≤ (wrap64 (x24.1 - (1 : Int))) ∧ (wrap64 (x24.1 - (1 : Int))) < (l.length : Int))) then (bif (!lessText (l.getD (wrap64 (x24.1 - (1 : Int))).toNat Z9).1 (l.getD x24.1.toNat Z9).1) then some false else (rec25 ((wrap64 (x24.1 + (1 : Int))), ()))) else none) else (rec25 ((wrap64 (x24.1 + (1 : Int))), ()))))))) else none) else some true)) k ((0 : Int), ()) = some ((List.range l.length).all (genOk l)) := by
  have hk' : 2097152 < k := hk
  have hc' : cost (.slice U9) l ≤ 1048576 := hc
  have hlen : l.length ≤ cost (.slice U9) l := cost_len (e := U9) l
  refine (iter_idx l.length (genOk l) (some false) (some true) (fun i hi rec => ?_) (fun rec => ?_) k (by omega)).trans ?_
  · have h1 : cost U9 (l.getD i Z9) ≤ cost (.slice U9) l := cost_mem (getD_mem hi)
    rw [gen_cost] at h1
    simp only [Int.toNat_natCast]
    rw [dT (show (i : Int) < (l.length : Int) by omega), dT (show 0 ≤ (i : Int) ∧ (i : Int) < (l.length : Int) by omega), w64 (n := (i : Int) + 1) (by omega) (by omega), uri_I k _ (by omega) (by omega), in_I]
    simp only [cond_true, Option.bind_some]
    unfold genOk
    by_cases h0 : i = 0
    · rw [dT h0, dF (show ¬ (0 : Int) < (i : Int) by omega)]
      cases uriOk (l.getD i Z9).1 <;> cases (decide (1 ≤ (l.getD i Z9).2) && decide ((l.getD i Z9).2 ≤ 1000000)) <;> rfl
    · rw [dF h0, dT (show (0 : Int) < (i : Int) by omega), w64 (n := (i : Int) - 1) (by omega) (by omega), dT (show 0 ≤ (i : Int) - 1 ∧ (i : Int) - 1 < (l.length : Int) by omega), show ((i : Int) - 1).toNat = i - 1 by omega]
      cases uriOk (l.getD i Z9).1 <;> cases (decide (1 ≤ (l.getD i Z9).2) && decide ((l.getD i Z9).2 ≤ 1000000)) <;> cases lessText (l.getD (i - 1) Z9).1 (l.getD i Z9).1 <;> rfl
  · simp only
    rw [dF (show ¬ (l.length : Int) < (l.length : Int) by omega)]; rfl
  · cases (List.range l.length).all (genOk l) <;> rfl

theorem cache_S (k : Nat) (hk : fuel < k) (c : D10) (hc : cost U10 c ≤ big) : F105 k c = some (cacheOk k c) := by
  have hk' : 2097152 < k := hk
  have hc' : cost U10 c ≤ 1048576 := hc
  have h0 := cache_cost (c := c)
  have hlen : c.1.length ≤ cost (.slice U8) c.1 := cost_len (e := U8) c.1
  unfold F105 cacheOk
  rw [in_S, gens_S k hk c.2 (by show _ ≤ 1048576; omega)]
  simp only [Option.bind_some]
  cases (decide (1 ≤ (c.1.length : Int)) && decide ((c.1.length : Int) ≤ 4)) with
  | false => rfl
  | true =>
    simp only [Bool.not_true, cond_false, Bool.true_and]
    refine (iter_idx c.1.length (homeOk k c) (some false) (some ((List.range c.2.length).all (genOk c.2))) (fun i hi rec => ?_) (fun rec => ?_) k (by omega)).trans ?_
    · obtain ⟨b1, b2, b3⟩ := home_costs hc hi
      have hin : iter (σ := Int × Unit) (fun rec18 x17 => (bif (decide (0 ≤ (i : Int) ∧ (i : Int) < (c.1.length : Int))) then (bif (decide (x17.1 < ((c.1.getD i Z8).2.2.1.length : Int))) then (bif (decide (0 ≤ (i : Int) ∧ (i : Int) < (c.1.length : Int))) then (bif (decide (0 ≤ x17.1 ∧ x17.1 < ((c.1.getD i Z8).2.2.1.length : Int))) then ((F106 k c ((c.1.getD i Z8).2.2.1.getD x17.1.toNat Z7).1.1).bind fun r19 => (bif (!decide (r19 = (i : Int))) then some false else (rec18 ((wrap64 (x17.1 + (1 : Int))), ())))) else none) else none) else (rec ((wrap64 ((i : Int) + (1 : Int))), ()))) else none)) k ((0 : Int), ()) = bif ((List.range (c.1.getD i Z8).2.2.1.length).all fun j => decide (shardOf k c ((c.1.getD i Z8).2.2.1.getD j Z7).1.1 = (i : Int))) then rec (((i + 1 : Nat) : Int), ()) else some false := by
        refine iter_idx _ (fun j => decide (shardOf k c ((c.1.getD i Z8).2.2.1.getD j Z7).1.1 = (i : Int))) (some false) (rec (((i + 1 : Nat) : Int), ())) (fun j hj rec' => ?_) (fun rec' => ?_) k (by omega)
        · simp only [Int.toNat_natCast]
          rw [dT (show 0 ≤ (i : Int) ∧ (i : Int) < (c.1.length : Int) by omega), dT (show (j : Int) < ((c.1.getD i Z8).2.2.1.length : Int) by omega), dT (show 0 ≤ (j : Int) ∧ (j : Int) < ((c.1.getD i Z8).2.2.1.length : Int) by omega), w64 (n := (j : Int) + 1) (by omega) (by omega), shardOf_S k hk c _ (b3 j hj)]
          simp only [cond_true, Option.bind_some]
          cases decide (shardOf k c ((c.1.getD i Z8).2.2.1.getD j Z7).1.1 = (i : Int)) <;> rfl
        · simp only
          rw [dT (show 0 ≤ (i : Int) ∧ (i : Int) < (c.1.length : Int) by omega), dF (show ¬ ((c.1.getD i Z8).2.2.1.length : Int) < ((c.1.getD i Z8).2.2.1.length : Int) by omega), w64 (n := (i : Int) + 1) (by omega) (by omega)]
          rfl
      simp only [Int.toNat_natCast] at hin ⊢
      rw [hin, dT (show (i : Int) < (c.1.length : Int) by omega), dT (show 0 ≤ (i : Int) ∧ (i : Int) < (c.1.length : Int) by omega), shard_S k hk _ b1]
      simp only [cond_true, Option.bind_some]
      unfold homeOk
      cases shardOk k (c.1.getD i Z8) <;> rfl
    · simp only
      rw [dF (show ¬ (c.1.length : Int) < (c.1.length : Int) by omega)]; rfl
    · cases (List.range c.1.length).all (homeOk k c) <;> rfl

theorem cache_I (k : Nat) (hk : fuel < k) (c : D10) (hc : cost U10 c ≤ big) : F121 k c = some (cacheOk k c) := by
  have hk' : 2097152 < k := hk
  have hc' : cost U10 c ≤ 1048576 := hc
  have h0 := cache_cost (c := c)
  have hlen : c.1.length ≤ cost (.slice U8) c.1 := cost_len (e := U8) c.1
  unfold F121 cacheOk
  rw [in_I, gens_I k hk c.2 (by show _ ≤ 1048576; omega)]
  simp only [Option.bind_some]
  cases (decide (1 ≤ (c.1.length : Int)) && decide ((c.1.length : Int) ≤ 4)) with
  | false => rfl
  | true =>
    simp only [Bool.not_true, cond_false, Bool.true_and]
    refine (iter_idx c.1.length (homeOk k c) (some false) (some ((List.range c.2.length).all (genOk c.2))) (fun i hi rec => ?_) (fun rec => ?_) k (by omega)).trans ?_
    · obtain ⟨b1, b2, b3⟩ := home_costs hc hi
      have hin : iter (σ := Int × Unit) (fun rec18 x17 => (bif (decide (x17.1 < ((c.1.getD i Z8).2.2.1.length : Int))) then (bif (decide (0 ≤ x17.1 ∧ x17.1 < ((c.1.getD i Z8).2.2.1.length : Int))) then ((F122 k c ((c.1.getD i Z8).2.2.1.getD x17.1.toNat Z7).1.1).bind fun r19 => (bif (!decide (r19 = (i : Int))) then (bif (decide ((0 : Int) ≤ x17.1)) then some false else (rec ((wrap64 ((i : Int) + (1 : Int))), ()))) else (rec18 ((wrap64 (x17.1 + (1 : Int))), ())))) else none) else (bif (decide ((0 : Int) ≤ (-1 : Int))) then some false else (rec ((wrap64 ((i : Int) + (1 : Int))), ()))))) k ((0 : Int), ()) = bif ((List.range (c.1.getD i Z8).2.2.1.length).all fun j => decide (shardOf k c ((c.1.getD i Z8).2.2.1.getD j Z7).1.1 = (i : Int))) then rec (((i + 1 : Nat) : Int), ()) else some false := by
        refine iter_idx _ (fun j => decide (shardOf k c ((c.1.getD i Z8).2.2.1.getD j Z7).1.1 = (i : Int))) (some false) (rec (((i + 1 : Nat) : Int), ())) (fun j hj rec' => ?_) (fun rec' => ?_) k (by omega)
        · simp only [Int.toNat_natCast]
          rw [dT (show (j : Int) < ((c.1.getD i Z8).2.2.1.length : Int) by omega), dT (show 0 ≤ (j : Int) ∧ (j : Int) < ((c.1.getD i Z8).2.2.1.length : Int) by omega), w64 (n := (j : Int) + 1) (by omega) (by omega), shardOf_I k hk c _ (b3 j hj), dT (show (0 : Int) ≤ (j : Int) by omega)]
          simp only [cond_true, Option.bind_some]
          cases decide (shardOf k c ((c.1.getD i Z8).2.2.1.getD j Z7).1.1 = (i : Int)) <;> rfl
        · simp only
          rw [dF (show ¬ ((c.1.getD i Z8).2.2.1.length : Int) < ((c.1.getD i Z8).2.2.1.length : Int) by omega), w64 (n := (i : Int) + 1) (by omega) (by omega)]
          rfl
      simp only [Int.toNat_natCast] at hin ⊢
      rw [hin, dT (show (i : Int) < (c.1.length : Int) by omega), dT (show 0 ≤ (i : Int) ∧ (i : Int) < (c.1.length : Int) by omega), shard_I k hk _ b1]
      simp only [cond_true, Option.bind_some]
      unfold homeOk
      cases shardOk k (c.1.getD i Z8) <;> rfl
    · simp only
      rw [dF (show ¬ (c.1.length : Int) < (c.1.length : Int) by omega)]; rfl
    · cases (List.range c.1.length).all (homeOk k c) <;> rfl
end Go.Proofs.YtigbabjhcihmaaaGreatDoor.Fns
