/- The program's Joinable and the reference's tell the same. -/
import Derived.Test.YtcaknaddeblecaaGreatDoorDirs
namespace Go.Proofs.YtcaknaddeblecaaGreatDoor.Joinable
open Go Go.RowKit Go.Proofs Go.Proofs.YtcaknaddeblecaaGreatDoor.Ev Go.Proofs.YtcaknaddeblecaaGreatDoor.Pl Go.Proofs.YtcaknaddeblecaaGreatDoor.Fns
set_option linter.unusedVariables false
set_option linter.unusedSimpArgs false
set_option maxRecDepth 100000

abbrev nAuth : ByteArray := ByteArray.mk #[97, 117, 116, 104, 111, 114, 105, 122, 97, 116, 105, 111, 110]
abbrev nInm : ByteArray := ByteArray.mk #[105, 102, 45, 110, 111, 110, 101, 45, 109, 97, 116, 99, 104]
abbrev nIms : ByteArray := ByteArray.mk #[105, 102, 45, 109, 111, 100, 105, 102, 105, 101, 100, 45, 115, 105, 110, 99, 101]
abbrev nStore : ByteArray := ByteArray.mk #[110, 111, 45, 115, 116, 111, 114, 101]
abbrev nCache : ByteArray := ByteArray.mk #[110, 111, 45, 99, 97, 99, 104, 101]
abbrev nGet : ByteArray := ByteArray.mk #[71, 69, 84]
def ownB (q : D7) : Bool := !decide (q.1 = nGet) || hasN nAuth q.2.2.1 || hasN nInm q.2.2.1 || hasN nIms q.2.2.1 || ccHas q.2.2.1 nStore || ccHas q.2.2.1 nCache

theorem req_cost {q : D7} : cost (.slice U0) q.2.2.1 ≤ cost U7 q := by simp only [cost]; omega

theorem own_S (k : Nat) (hk : fuel < k) (q : D7) (hc : cost U7 q ≤ big) : F68 k q = some (ownB q) := by
  have h := Nat.le_trans (req_cost (q := q)) hc
  unfold F68 ownB
  rw [getS k hk _ _ h, getS k hk _ _ h, getS k hk _ _ h, cc_S k hk _ _ h, cc_S k hk _ _ h]
  simp only [Option.bind_some]
  show cond _ _ (cond (hasN nAuth q.2.2.1) _ (cond (hasN nInm q.2.2.1) _ (cond (hasN nIms q.2.2.1) _ _))) = _
  cases decide (q.1 = nGet) <;> cases hasN nAuth q.2.2.1 <;> cases hasN nInm q.2.2.1 <;> cases hasN nIms q.2.2.1 <;> cases ccHas q.2.2.1 nStore <;> rfl

theorem own_I (k : Nat) (hk : fuel < k) (q : D7) (hc : cost U7 q ≤ big) : F74 k q = some (ownB q) := by
  have h := Nat.le_trans (req_cost (q := q)) hc
  unfold F74 ownB
  rw [has_I k hk _ _ h, has_I k hk _ _ h, has_I k hk _ _ h, cc_I k hk _ _ h, cc_I k hk _ _ h]
  simp only [Option.bind_some]
  cases decide (q.1 = nGet) <;> cases hasN nAuth q.2.2.1 <;> cases hasN nInm q.2.2.1 <;> cases hasN nIms q.2.2.1 <;> cases ccHas q.2.2.1 nStore <;> rfl

def genOf (c : D6) (u : ByteArray) : Int := bif decide (c.2.findIdx (fun g => decide (g.1 = u)) < c.2.length) then (c.2.getD (c.2.findIdx (fun g => decide (g.1 = u))) Z5).2 else 0

theorem gen_S (k : Nat) (hk : fuel < k) (c : D6) (u : ByteArray) (hl : c.2.length ≤ 1048576) : F69 k c u = some (genOf c u) := by
  have hk' : 2097152 < k := hk
  unfold F69
  refine (iter_find c.2 (fun g => decide (g.1 = u)) (fun j => bif decide (j < c.2.length) then some (c.2.getD j Z5).2 else some 0) (fun i hi rec => ?_) (fun rec => ?_) k (by omega)).trans ?_
  · simp only [Int.toNat_natCast]
    rw [dT (show (i : Int) < (c.2.length : Int) by omega), dT (show 0 ≤ (i : Int) ∧ (i : Int) < (c.2.length : Int) by omega), w64 (n := (i : Int) + 1) (by omega) (by omega), dT hi]
    simp only [cond_true, getD_lt hi, Int.natCast_add, Int.cast_ofNat_Int]
  · simp only
    rw [dF (show ¬ (c.2.length : Int) < (c.2.length : Int) by omega), dF (show ¬ c.2.length < c.2.length by omega)]
    rfl
  · unfold genOf
    cases decide (c.2.findIdx (fun g => decide (g.1 = u)) < c.2.length) <;> rfl

theorem gen_I (k : Nat) (hk : fuel < k) (c : D6) (u : ByteArray) (hl : c.2.length ≤ 1048576) : F77 k c u = some (genOf c u) := by
  have hk' : 2097152 < k := hk
  unfold F77
  refine (iter_find c.2 (fun g => decide (g.1 = u)) (fun j => bif decide (j < c.2.length) then some (c.2.getD j Z5).2 else some 0) (fun i hi rec => ?_) (fun rec => ?_) k (by omega)).trans ?_
  · simp only [Int.toNat_natCast]
    rw [dT (show (i : Int) < (c.2.length : Int) by omega), dT (show 0 ≤ (i : Int) ∧ (i : Int) < (c.2.length : Int) by omega), w64 (n := (i : Int) + 1) (by omega) (by omega), dT hi]
    simp only [cond_true, getD_lt hi, Int.natCast_add, Int.cast_ofNat_Int]
  · simp only
    rw [dF (show ¬ (c.2.length : Int) < (c.2.length : Int) by omega), dF (show ¬ c.2.length < c.2.length by omega)]
    rfl
  · unfold genOf
    cases decide (c.2.findIdx (fun g => decide (g.1 = u)) < c.2.length) <;> rfl

theorem same (k : Nat) (hk : fuel < k) (a : D14) (q : D7) (ok : Ty.Ok U14 a) (okq : Ty.Ok U7 q) (hc : cost U14 a ≤ big) (hq : cost U7 q ≤ big) : ∃ w, F25 k a q = some w ∧ F28 k a q = some w := by
  have hk' : 2097152 < k := hk
  have hc' : cost U14 a ≤ 1048576 := hc
  have hg : a.2.2.2.1.2.length ≤ 1048576 := by
    have h1 : a.2.2.2.1.2.length ≤ cost (.slice U5) a.2.2.2.1.2 := cost_len (e := U5) _
    have h2 : cost (.slice U5) a.2.2.2.1.2 ≤ cost U14 a := by simp only [cost]; omega
    omega
  have hf : a.2.2.2.2.1.length ≤ 1048576 := by
    have h1 : a.2.2.2.2.1.length ≤ cost (.slice U10) a.2.2.2.2.1 := cost_len (e := U10) _
    have h2 : cost (.slice U10) a.2.2.2.2.1 ≤ cost U14 a := by simp only [cost]; omega
    omega
  unfold F25 F28
  rw [own_S k hk q hq, own_I k hk q hq]
  simp only [Option.bind_some, gen_S k hk a.2.2.2.1 q.2.1 hg, gen_I k hk a.2.2.2.1 q.2.1 hg]
  cases ownB q with
  | true => exact ⟨_, rfl, rfl⟩
  | false =>
    simp only [cond_false]
    suffices h : ∃ w, iter (σ := Int × Unit) (fun rec6 x5 => (bif (decide (x5.1 < (a.2.2.2.2.1.length : Int))) then (bif (decide (0 ≤ x5.1 ∧ x5.1 < (a.2.2.2.2.1.length : Int))) then (bif (a.2.2.2.2.1.getD x5.1.toNat Z10).2.1 then (bif (decide ((a.2.2.2.2.1.getD x5.1.toNat Z10).1 = q.2.1)) then (bif (decide ((a.2.2.2.2.1.getD x5.1.toNat Z10).2.2.1 = genOf a.2.2.2.1 q.2.1)) then some x5.1 else (rec6 ((wrap64 (x5.1 + (1 : Int))), ()))) else (rec6 ((wrap64 (x5.1 + (1 : Int))), ()))) else (rec6 ((wrap64 (x5.1 + (1 : Int))), ()))) else none) else some (-1 : Int))) k ((0 : Int), ()) = some w from h.imp fun w h => ⟨h, h⟩
    refine ⟨bif decide (a.2.2.2.2.1.findIdx (fun f => f.2.1 && (decide (f.1 = q.2.1) && decide (f.2.2.1 = genOf a.2.2.2.1 q.2.1))) < a.2.2.2.2.1.length) then ((a.2.2.2.2.1.findIdx (fun f => f.2.1 && (decide (f.1 = q.2.1) && decide (f.2.2.1 = genOf a.2.2.2.1 q.2.1))) : Nat) : Int) else -1, ?_⟩
    refine (iter_find a.2.2.2.2.1 (fun f => f.2.1 && (decide (f.1 = q.2.1) && decide (f.2.2.1 = genOf a.2.2.2.1 q.2.1))) (fun j => bif decide (j < a.2.2.2.2.1.length) then some (j : Int) else some (-1)) (fun i hi rec => ?_) (fun rec => ?_) k (by omega)).trans ?_
    · simp only [Int.toNat_natCast]
      rw [dT (show (i : Int) < (a.2.2.2.2.1.length : Int) by omega), dT (show 0 ≤ (i : Int) ∧ (i : Int) < (a.2.2.2.2.1.length : Int) by omega), w64 (n := (i : Int) + 1) (by omega) (by omega), dT hi]
      simp only [cond_true, getD_lt hi, Int.natCast_add, Int.cast_ofNat_Int]
      cases a.2.2.2.2.1[i].2.1 <;> cases decide (a.2.2.2.2.1[i].1 = q.2.1) <;> cases decide (a.2.2.2.2.1[i].2.2.1 = genOf a.2.2.2.1 q.2.1) <;> rfl
    · simp only
      rw [dF (show ¬ (a.2.2.2.2.1.length : Int) < (a.2.2.2.2.1.length : Int) by omega), dF (show ¬ a.2.2.2.2.1.length < a.2.2.2.2.1.length by omega)]
      rfl
    · cases decide (a.2.2.2.2.1.findIdx (fun f => f.2.1 && (decide (f.1 = q.2.1) && decide (f.2.2.1 = genOf a.2.2.2.1 q.2.1))) < a.2.2.2.2.1.length) <;> rfl
end Go.Proofs.YtcaknaddeblecaaGreatDoor.Joinable
