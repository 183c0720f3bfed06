/- Shards, caches, origins, requests: which are one. The program's tests are the reference's. -/
import Derived.Test.YtigbabjhcihmaaaGreatDoorStored
namespace Go.Proofs.YtigbabjhcihmaaaGreatDoor.Fns
open Go Go.RowKit Go.Proofs Go.Proofs.YtigbabjhcihmaaaGreatDoor.Ev Go.Proofs.YtigbabjhcihmaaaGreatDoor.Pl
set_option linter.unusedVariables false
set_option linter.unusedSimpArgs false
set_option maxRecDepth 100000

/-- a loop that asks at each place -/
theorem iter_idx {ρ : Type} {step : (Int × Unit → Option ρ) → Int × Unit → Option ρ} (n : Nat) (q : Nat → Bool) (A B : Option ρ)
    (hs : ∀ (i : Nat), i < n → ∀ rec, step rec ((i : Int), ()) = bif q i then rec (((i + 1 : Nat) : Int), ()) else A) (he : ∀ rec, step rec ((n : Int), ()) = B) (k : Nat) (hk : n < k) :
    iter step k ((0 : Int), ()) = bif (List.range n).all q then B else A := by
  have hl : (List.range n).length = n := List.length_range
  refine iter_list (List.range n) q A B (fun i h rec => ?_) (fun rec => ?_) k (by omega)
  · rw [List.getElem_range]; exact hs i (by omega) rec
  · rw [hl]; exact he rec

theorem less_lists : ∀ (x y : List UInt8), (!Op.bytesLess x y) = (Op.bytesLess y x || decide (y = x))
  | [], [] => by simp [Op.bytesLess]
  | _ :: _, [] => by simp [Op.bytesLess]
  | [], _ :: _ => by simp [Op.bytesLess]
  | a :: x, b :: y => by
    have ih := less_lists x y
    rw [Op.bytesLess, Op.bytesLess]
    by_cases h1 : a < b
    · have h2 : ¬ b < a := fun h => by rw [UInt8.lt_iff_toNat_lt] at h h1; omega
      have h3 : ¬ b = a := fun h => by subst h; rw [UInt8.lt_iff_toNat_lt] at h1; omega
      simp [h1, h2, h3]
    · by_cases h3 : b = a
      · subst h3
        have h2 : ¬ b < b := h1
        simp [h2, ih]
      · have h2 : b < a := by
          rw [UInt8.lt_iff_toNat_lt] at h1 ⊢
          have : b.toNat ≠ a.toNat := fun e => h3 (UInt8.toNat_inj.mp e)
          omega
        have h4 : ¬ a = b := fun e => h3 e.symm
        simp [h1, h2, h3, h4]

theorem less_not (a b : ByteArray) : (!lessText a b) = (lessText b a || decide (b = a)) := by
  unfold lessText
  rw [less_lists]
  have : decide (b.toList = a.toList) = decide (b = a) := by
    rw [decide_eq_decide, Lib.toList_data, Lib.toList_data]
    exact ⟨fun h => bytes_ext h, fun h => by rw [h]⟩
  rw [this]

/-! ### the same fields -/
theorem range_all_eq {α : Type} [DecidableEq α] {z : α} (a b : List α) (h : a.length = b.length) : ((List.range a.length).all fun i => decide (a.getD i z = b.getD i z)) = decide (a = b) := by
  by_cases e : a = b
  · subst e
    rw [dT rfl]
    simp
  · rw [dF e, List.all_eq_false]
    have : ∃ i, i < a.length ∧ a.getD i z ≠ b.getD i z := by
      apply Classical.byContradiction
      intro hn
      apply e
      apply List.ext_getElem h
      intro i h1 h2
      have h3 : a.getD i z = b.getD i z := Classical.byContradiction fun hc => hn ⟨i, h1, hc⟩
      rw [getD_lt h1, getD_lt h2] at h3
      exact h3
    obtain ⟨i, h1, h2⟩ := this
    exact ⟨i, List.mem_range.mpr h1, by simp only [dF h2]; simp⟩

theorem sameF_S (k : Nat) (hk : fuel < k) (a b : List D0) (ha : a.length ≤ 1048576) : F261 k a b = some (decide (a = b)) := by
  have hk' : 2097152 < k := hk
  unfold F261
  by_cases h : a.length = b.length
  · rw [dT (show (a.length : Int) = (b.length : Int) by omega)]
    simp only [Bool.not_true, cond_false]
    refine (iter_idx a.length (fun i => decide (a.getD i Z0 = b.getD i Z0)) (some false) (some true) (fun i hi rec => ?_) (fun rec => ?_) k (by omega)).trans ?_
    · simp only [Int.toNat_natCast]
      rw [dT (show (i : Int) < (a.length : Int) by omega), dT (show 0 ≤ (i : Int) ∧ (i : Int) < (a.length : Int) by omega), dT (show 0 ≤ (i : Int) ∧ (i : Int) < (b.length : Int) by omega), w64 (n := (i : Int) + 1) (by omega) (by omega)]
      have e : (decide ((a.getD i Z0).1 = (b.getD i Z0).1) && decide ((a.getD i Z0).2 = (b.getD i Z0).2)) = decide (a.getD i Z0 = b.getD i Z0) := by
        rw [← Bool.decide_and, decide_eq_decide]
        exact (Prod.ext_iff).symm
      rw [e]
      cases decide (a.getD i Z0 = b.getD i Z0) <;> rfl
    · simp only
      rw [dF (show ¬ (a.length : Int) < (a.length : Int) by omega)]; rfl
    · rw [range_all_eq a b h]
      cases decide (a = b) <;> rfl
  · rw [dF (show ¬ (a.length : Int) = (b.length : Int) by omega), dF (fun e => h (by rw [e]))]
    rfl

theorem sameF_I (k : Nat) (hk : fuel < k) (a b : List D0) (ha : a.length ≤ 1048576) : F268 k a b = some (decide (a = b)) := by
  have h : ((F261 k a b).bind fun r => some r) = some (decide (a = b)) := by rw [sameF_S k hk a b ha]; rfl
  exact h

def alike (a b : D6) : Bool := decide (a.1 = b.1) && decide (a.2.1 = b.2.1)
theorem alike_comm (a b : D6) : alike a b = alike b a := by
  unfold alike
  rw [show decide (a.1 = b.1) = decide (b.1 = a.1) by rw [decide_eq_decide]; exact eq_comm, show decide (a.2.1 = b.2.1) = decide (b.2.1 = a.2.1) by rw [decide_eq_decide]; exact eq_comm]

theorem alike_S (k : Nat) (hk : fuel < k) (a b : D6) (ha : a.2.1.length ≤ 1048576) : F198 k a b = some (alike a b) := by
  unfold F198 alike
  rw [sameF_S k hk _ _ ha]
  cases decide (a.1 = b.1) <;> rfl
theorem alike_I (k : Nat) (hk : fuel < k) (a b : D6) (ha : a.2.1.length ≤ 1048576) : F213 k a b = some (alike a b) := by
  unfold F213 alike
  rw [sameF_I k hk _ _ ha]
  cases decide (a.1 = b.1) <;> rfl

/-! ### a shard -/
def slotOk (l : List D7) (i : Nat) : Bool := storedOk (l.getD i Z7).1 && (List.range i).all fun j => !alike (l.getD j Z7).1 (l.getD i Z7).1
def slotsOk (l : List D7) : Bool := (List.range l.length).all (slotOk l)

theorem slot_costs {l : List D7} (hc : cost (.slice U7) l ≤ big) {i : Nat} (hi : i < l.length) : cost U6 (l.getD i Z7).1 ≤ big ∧ (l.getD i Z7).1.2.1.length ≤ 1048576 := by
  have h1 : cost U7 (l.getD i Z7) ≤ cost (.slice U7) l := cost_mem (getD_mem hi)
  have h2 : cost U7 (l.getD i Z7) = cost U6 (l.getD i Z7).1 := by simp only [cost]; omega
  have h3 := stored_cost (a := (l.getD i Z7).1)
  have h4 : (l.getD i Z7).1.2.1.length ≤ cost (.slice U0) (l.getD i Z7).1.2.1 := cost_len (e := U0) _
  have hc' : cost (.slice U7) l ≤ 1048576 := hc
  exact ⟨by show _ ≤ 1048576; omega, by omega⟩

theorem filled_some (k : Nat) (hk : fuel < k) (l : List D7) (hl : l.length ≤ 1048576) : ∃ n, F214 k l = some n := by
  have hk' : 2097152 < k := hk
  unfold F214
  obtain ⟨r, h, _⟩ := iter_count (ρ := Int) (fun i (x : Int × Int × Unit) => x.2.1 = (i : Int)) (fun _ => True) l.length (step := fun (rec4 : Int × Int × Unit → Option Int) x3 => (bif (decide (x3.2.1 < (l.length : Int))) then (bif (decide (0 ≤ x3.2.1 ∧ x3.2.1 < (l.length : Int))) then (rec4 ((wrap64 (x3.1 + ((l.getD x3.2.1.toNat Z7).1.2.2.1.2.2.size : Int))), (wrap64 (x3.2.1 + (1 : Int))), ())) else none) else some x3.1)) (by
    rintro i ⟨xs, xi, _⟩ rec h1 hi hrec
    simp only at h1
    subst h1
    simp only
    rw [dT (show (i : Int) < (l.length : Int) by omega), dT (show 0 ≤ (i : Int) ∧ (i : Int) < (l.length : Int) by omega), w64 (n := (i : Int) + 1) (by omega) (by omega)]
    exact hrec _ rfl) (by
    rintro ⟨xs, xi, _⟩ rec h1
    simp only at h1
    subst h1
    simp only
    rw [dF (show ¬ (l.length : Int) < (l.length : Int) by omega)]
    exact ⟨_, rfl, trivial⟩) k 0 ((0 : Int), (0 : Int), ()) rfl (Nat.zero_le _) (by omega)
  exact ⟨r, h⟩

def filled (k : Nat) (l : List D7) : Int := (F214 k l).getD 0
def shardOk (k : Nat) (a : D8) : Bool := (decide (1 ≤ a.1) && decide (a.1 ≤ 8)) && (decide (0 ≤ a.2.1) && decide (a.2.1 ≤ 500)) && !decide (a.1 < (a.2.2.1.length : Int)) && !decide (a.2.1 < filled k a.2.2.1) && (decide (a.2.2.2 = 0) || (decide (0 ≤ a.2.2.2) && decide (a.2.2.2 ≤ (a.2.2.1.length : Int) - 1))) && slotsOk a.2.2.1

theorem shard_cost {a : D8} : cost U8 a = cost (.slice U7) a.2.2.1 := by simp only [cost]; omega

theorem shard_S (k : Nat) (hk : fuel < k) (a : D8) (hc : cost U8 a ≤ big) : F195 k a = some (shardOk k a) := by
  rw [shard_cost] at hc
  have hlen : a.2.2.1.length ≤ 1048576 := Nat.le_trans (cost_len (e := U7) a.2.2.1) hc
  have hk' : 2097152 < k := hk
  obtain ⟨n, hn⟩ := filled_some k hk a.2.2.1 hlen
  have hf : F200 k a = some n := hn
  have hfl : filled k a.2.2.1 = n := by unfold filled; rw [hn]; rfl
  unfold F195 shardOk
  rw [hf, in_S, in_S, in_S, hfl, w64 (n := (a.2.2.1.length : Int) - 1) (by omega) (by omega)]
  simp only [Option.bind_some]
  have hin : ∀ (i : Nat) (hi : i < a.2.2.1.length) (rec : Int × Unit → Option Bool), iter (σ := Int × Unit) (fun rec21 x20 => (bif (decide (x20.1 < (i : Int))) then (bif (decide (0 ≤ x20.1 ∧ x20.1 < (a.2.2.1.length : Int))) then (bif (decide (0 ≤ (i : Int) ∧ (i : Int) < (a.2.2.1.length : Int))) then ((F198 k (a.2.2.1.getD x20.1.toNat Z7).1 (a.2.2.1.getD (i : Int).toNat Z7).1).bind fun r22 => (bif r22 then some false else (rec21 ((wrap64 (x20.1 + (1 : Int))), ())))) else none) else none) else (rec ((wrap64 ((i : Int) + (1 : Int))), ())))) k ((0 : Int), ()) = bif ((List.range i).all fun j => !alike (a.2.2.1.getD j Z7).1 (a.2.2.1.getD i Z7).1) then rec ((((i + 1 : Nat) : Int)), ()) else some false := by
    intro i hi rec
    refine iter_idx i (fun j => !alike (a.2.2.1.getD j Z7).1 (a.2.2.1.getD i Z7).1) (some false) (rec ((((i + 1 : Nat) : Int)), ())) (fun j hj rec' => ?_) (fun rec' => ?_) k (by omega)
    · simp only [Int.toNat_natCast]
      rw [dT (show (j : Int) < (i : Int) by omega), dT (show 0 ≤ (j : Int) ∧ (j : Int) < (a.2.2.1.length : Int) by omega), dT (show 0 ≤ (i : Int) ∧ (i : Int) < (a.2.2.1.length : Int) by omega), w64 (n := (j : Int) + 1) (by omega) (by omega), alike_S k hk _ _ (slot_costs hc (show j < a.2.2.1.length by omega)).2]
      simp only [cond_true, Option.bind_some]
      cases alike (a.2.2.1.getD j Z7).1 (a.2.2.1.getD i Z7).1 <;> rfl
    · simp only
      rw [dF (show ¬ (i : Int) < (i : Int) by omega), w64 (n := (i : Int) + 1) (by omega) (by omega)]
      rfl
  have hloop : iter (σ := Int × Unit) (fun rec15 x14 => (bif (decide (x14.1 < (a.2.2.1.length : Int))) then (bif (decide (0 ≤ x14.1 ∧ x14.1 < (a.2.2.1.length : Int))) then ((F109 k (a.2.2.1.getD x14.1.toNat Z7).1).bind fun r16 => (bif (!r16) then some false else (iter (σ := Int × Unit) (fun rec21 x20 => (bif (decide (x20.1 < x14.1)) then (bif (decide (0 ≤ x20.1 ∧ x20.1 < (a.2.2.1.length : Int))) then (bif (decide (0 ≤ x14.1 ∧ x14.1 < (a.2.2.1.length : Int))) then ((F198 k (a.2.2.1.getD x20.1.toNat Z7).1 (a.2.2.1.getD x14.1.toNat Z7).1).bind fun r22 => (bif r22 then some false else (rec21 ((wrap64 (x20.1 + (1 : Int))), ())))) else none) else none) else (rec15 ((wrap64 (x14.1 + (1 : Int))), ())))) k ((0 : Int), ())))) else none) else some true)) k ((0 : Int), ()) = some (slotsOk a.2.2.1) := by
    refine (iter_idx a.2.2.1.length (slotOk a.2.2.1) (some false) (some true) (fun i hi rec => ?_) (fun rec => ?_) k (by omega)).trans ?_
    · have h1 := hin i hi rec
      simp only [Int.toNat_natCast] at h1 ⊢
      rw [h1, dT (show (i : Int) < (a.2.2.1.length : Int) by omega), dT (show 0 ≤ (i : Int) ∧ (i : Int) < (a.2.2.1.length : Int) by omega), stored_S k hk _ (slot_costs hc hi).1]
      simp only [cond_true, Option.bind_some]
      unfold slotOk
      cases storedOk (a.2.2.1.getD i Z7).1 <;> rfl
    · simp only
      rw [dF (show ¬ (a.2.2.1.length : Int) < (a.2.2.1.length : Int) by omega)]; rfl
    · unfold slotsOk
      cases (List.range a.2.2.1.length).all (slotOk a.2.2.1) <;> rfl
  rw [hloop]
  cases (decide (1 ≤ a.1) && decide (a.1 ≤ 8)) <;> cases (decide (0 ≤ a.2.1) && decide (a.2.1 ≤ 500)) <;> cases decide (a.1 < (a.2.2.1.length : Int)) <;> cases decide (a.2.1 < n) <;> cases decide (a.2.2.2 = 0) <;> cases (decide (0 ≤ a.2.2.2) && decide (a.2.2.2 ≤ (a.2.2.1.length : Int) - 1)) <;> rfl

theorem take_getD {α : Type} {z : α} (l : List α) (i j : Nat) (h : j < i) : (l.take i).getD j z = l.getD j z := by
  rw [List.getD_eq_getElem?_getD, List.getD_eq_getElem?_getD, List.getElem?_take, if_pos h]

theorem shard_I (k : Nat) (hk : fuel < k) (a : D8) (hc : cost U8 a ≤ big) : F206 k a = some (shardOk k a) := by
  rw [shard_cost] at hc
  have hlen : a.2.2.1.length ≤ 1048576 := Nat.le_trans (cost_len (e := U7) a.2.2.1) hc
  have hk' : 2097152 < k := hk
  obtain ⟨n, hn⟩ := filled_some k hk a.2.2.1 hlen
  have hfl : filled k a.2.2.1 = n := by unfold filled; rw [hn]; rfl
  unfold F206 F177 shardOk
  rw [hn, in_I, in_I, in_I, hfl, w64 (n := (a.2.2.1.length : Int) - 1) (by omega) (by omega)]
  simp only [Option.bind_some]
  have hin : ∀ (i : Nat) (hi : i < a.2.2.1.length) (rec : Int × Unit → Option Bool), iter (σ := Int × Unit) (fun rec19 x18 => (bif (decide (x18.1 < (((a.2.2.1.drop (0 : Int).toNat).take ((i : Int) - (0 : Int)).toNat).length : Int))) then (bif (decide (0 ≤ x18.1 ∧ x18.1 < (((a.2.2.1.drop (0 : Int).toNat).take ((i : Int) - (0 : Int)).toNat).length : Int))) then ((F213 k (a.2.2.1.getD (i : Int).toNat Z7).1 (((a.2.2.1.drop (0 : Int).toNat).take ((i : Int) - (0 : Int)).toNat).getD x18.1.toNat Z7).1).bind fun r20 => (bif r20 then (bif (decide ((0 : Int) ≤ x18.1)) then some false else (rec ((wrap64 ((i : Int) + (1 : Int))), ()))) else (rec19 ((wrap64 (x18.1 + (1 : Int))), ())))) else none) else (bif (decide ((0 : Int) ≤ (-1 : Int))) then some false else (rec ((wrap64 ((i : Int) + (1 : Int))), ()))))) k ((0 : Int), ()) = bif ((List.range i).all fun j => !alike (a.2.2.1.getD j Z7).1 (a.2.2.1.getD i Z7).1) then rec ((((i + 1 : Nat) : Int)), ()) else some false := by
    intro i hi rec
    have hsub : (a.2.2.1.drop (0 : Int).toNat).take ((i : Int) - (0 : Int)).toNat = a.2.2.1.take i := by
      rw [show ((i : Int) - 0).toNat = i by omega]; rfl
    have hll : (a.2.2.1.take i).length = i := by rw [List.length_take]; omega
    rw [hsub]
    refine iter_idx i (fun j => !alike (a.2.2.1.getD j Z7).1 (a.2.2.1.getD i Z7).1) (some false) (rec ((((i + 1 : Nat) : Int)), ())) (fun j hj rec' => ?_) (fun rec' => ?_) k (by omega)
    · simp only [Int.toNat_natCast, hll]
      rw [dT (show (j : Int) < (i : Int) by omega), dT (show 0 ≤ (j : Int) ∧ (j : Int) < (i : Int) by omega), w64 (n := (j : Int) + 1) (by omega) (by omega), alike_I k hk _ _ (slot_costs hc hi).2, take_getD _ i j hj, alike_comm, dT (show (0 : Int) ≤ (j : Int) by omega)]
      simp only [cond_true, Option.bind_some]
      cases alike (a.2.2.1.getD j Z7).1 (a.2.2.1.getD i Z7).1 <;> rfl
    · simp only [hll]
      rw [dF (show ¬ (i : Int) < (i : Int) by omega), w64 (n := (i : Int) + 1) (by omega) (by omega)]
      rfl
  have hloop : iter (σ := Int × Unit) (fun rec13 x12 => (bif (decide (x12.1 < (a.2.2.1.length : Int))) then (bif (decide (0 ≤ x12.1 ∧ x12.1 < (a.2.2.1.length : Int))) then ((F125 k (a.2.2.1.getD x12.1.toNat Z7).1).bind fun r14 => (bif (!r14) then some false else (bif (decide (0 ≤ (0 : Int) ∧ (0 : Int) ≤ x12.1 ∧ x12.1 ≤ (a.2.2.1.length : Int))) then (iter (σ := Int × Unit) (fun rec19 x18 => (bif (decide (x18.1 < (((a.2.2.1.drop (0 : Int).toNat).take (x12.1 - (0 : Int)).toNat).length : Int))) then (bif (decide (0 ≤ x18.1 ∧ x18.1 < (((a.2.2.1.drop (0 : Int).toNat).take (x12.1 - (0 : Int)).toNat).length : Int))) then ((F213 k (a.2.2.1.getD x12.1.toNat Z7).1 (((a.2.2.1.drop (0 : Int).toNat).take (x12.1 - (0 : Int)).toNat).getD x18.1.toNat Z7).1).bind fun r20 => (bif r20 then (bif (decide ((0 : Int) ≤ x18.1)) then some false else (rec13 ((wrap64 (x12.1 + (1 : Int))), ()))) else (rec19 ((wrap64 (x18.1 + (1 : Int))), ())))) else none) else (bif (decide ((0 : Int) ≤ (-1 : Int))) then some false else (rec13 ((wrap64 (x12.1 + (1 : Int))), ()))))) k ((0 : Int), ())) else none))) else none) else (some (decide (n ≤ a.2.1))))) k ((0 : Int), ()) = some (slotsOk a.2.2.1 && decide (n ≤ a.2.1)) := by
    refine (iter_idx a.2.2.1.length (slotOk a.2.2.1) (some false) (some (decide (n ≤ a.2.1))) (fun i hi rec => ?_) (fun rec => ?_) k (by omega)).trans ?_
    · have h1 := hin i hi rec
      simp only at h1 ⊢
      rw [h1, dT (show (i : Int) < (a.2.2.1.length : Int) by omega), dT (show 0 ≤ (i : Int) ∧ (i : Int) < (a.2.2.1.length : Int) by omega), dT (show 0 ≤ (0 : Int) ∧ (0 : Int) ≤ (i : Int) ∧ (i : Int) ≤ (a.2.2.1.length : Int) by omega)]
      simp only [Int.toNat_natCast]
      rw [stored_I k hk _ (slot_costs hc hi).1]
      simp only [cond_true, Option.bind_some]
      unfold slotOk
      cases storedOk (a.2.2.1.getD i Z7).1 <;> rfl
    · simp only
      rw [dF (show ¬ (a.2.2.1.length : Int) < (a.2.2.1.length : Int) by omega)]; rfl
    · unfold slotsOk
      cases (List.range a.2.2.1.length).all (slotOk a.2.2.1) <;> rfl
  rw [hloop]
  have hnn : decide (n ≤ a.2.1) = !decide (a.2.1 < n) := by
    by_cases h : a.2.1 < n
    · rw [dT h, dF (by omega)]; rfl
    · rw [dF h, dT (by omega)]; rfl
  rw [hnn]
  cases (decide (1 ≤ a.1) && decide (a.1 ≤ 8)) <;> cases (decide (0 ≤ a.2.1) && decide (a.2.1 ≤ 500)) <;> cases decide (a.1 < (a.2.2.1.length : Int)) <;> cases decide (a.2.1 < n) <;> cases decide (a.2.2.2 = 0) <;> cases (decide (0 ≤ a.2.2.2) && decide (a.2.2.2 ≤ (a.2.2.1.length : Int) - 1)) <;> cases slotsOk a.2.2.1 <;> rfl
end Go.Proofs.YtigbabjhcihmaaaGreatDoor.Fns
