/- Worlds: which are one. The program's test is the reference's. -/
import Derived.Test.YteliolfafmmhlaaGreatDoorCaches
import Derived.Test.YteliolfafmmhlaaGreatDoorOrigins
namespace Go.Proofs.YteliolfafmmhlaaGreatDoor.Fns
open Go Go.RowKit Go.Proofs Go.Proofs.YteliolfafmmhlaaGreatDoor.Ev Go.Proofs.YteliolfafmmhlaaGreatDoor.Pl
set_option linter.unusedVariables false
set_option linter.unusedSimpArgs false
set_option maxRecDepth 100000
set_option maxHeartbeats 4000000

def connOk (n : Int) (c : D11) : Bool := (decide (0 ≤ c.1) && decide (c.1 ≤ 7)) && (decide (-1 ≤ c.2.2.2.2.2.2.2.1) && decide (c.2.2.2.2.2.2.2.1 ≤ n - 1)) && !(decide (c.1 = 5) && decide (c.2.2.2.2.2.2.2.1 < 0)) && !decide ((1500 : Int) < (c.2.1.size : Int)) && (!(decide (1 ≤ c.1) && decide (c.1 ≤ 6)) || reqOk c.2.2.2.1)

theorem conn_I (k : Nat) (hk : fuel < k) (c : D11) (n : Int) (h0 : 0 ≤ n) (h1 : n ≤ 1048576) (hc : cost U9 c.2.2.2.1 ≤ big) : F145 k c n = some (connOk n c) := by
  unfold F145 connOk
  rw [in_I, in_I, in_I, req_I k hk _ hc, w64 (n := n - 1) (by omega) (by omega)]
  simp only [Option.bind_some]
  have hf : (bif (decide ((0 : Int) ≤ c.2.2.2.2.2.2.2.1) && decide (c.2.2.2.2.2.2.2.1 ≤ n - 1)) then some true else (bif (decide (c.2.2.2.2.2.2.2.1 = (-1 : Int))) then some (!decide (c.1 = (5 : Int))) else some false)) = some ((decide (-1 ≤ c.2.2.2.2.2.2.2.1) && decide (c.2.2.2.2.2.2.2.1 ≤ n - 1)) && !(decide (c.1 = 5) && decide (c.2.2.2.2.2.2.2.1 < 0))) := by
    by_cases g1 : (0 : Int) ≤ c.2.2.2.2.2.2.2.1
    · rw [dT g1, dT (show -1 ≤ c.2.2.2.2.2.2.2.1 by omega), dF (show ¬ c.2.2.2.2.2.2.2.1 < 0 by omega), dF (show ¬ c.2.2.2.2.2.2.2.1 = -1 by omega)]
      cases decide (c.2.2.2.2.2.2.2.1 ≤ n - 1) <;> cases decide (c.1 = 5) <;> rfl
    · rw [dF g1, dT (show c.2.2.2.2.2.2.2.1 < 0 by omega)]
      by_cases g2 : c.2.2.2.2.2.2.2.1 = -1
      · rw [dT g2, dT (show -1 ≤ c.2.2.2.2.2.2.2.1 by omega), dT (show c.2.2.2.2.2.2.2.1 ≤ n - 1 by omega)]
        cases decide (c.1 = 5) <;> rfl
      · rw [dF g2, dF (show ¬ -1 ≤ c.2.2.2.2.2.2.2.1 by omega)]
        rfl
  rw [hf]
  cases (decide (0 ≤ c.1) && decide (c.1 ≤ 7)) <;> cases (decide (1 ≤ c.1) && decide (c.1 ≤ 6)) <;> cases (decide (-1 ≤ c.2.2.2.2.2.2.2.1) && decide (c.2.2.2.2.2.2.2.1 ≤ n - 1)) <;> cases (decide (c.1 = 5) && decide (c.2.2.2.2.2.2.2.1 < 0)) <;> cases decide ((1500 : Int) < (c.2.1.size : Int)) <;> cases reqOk c.2.2.2.1 <;> rfl

def worldOk (k : Nat) (w : D14) : Bool := cacheOk k w.2.2.2.1 && originOk w.2.2.2.2.2.1 && (decide (0 ≤ w.1) && decide (w.1 ≤ 2000000000)) && !decide ((4 : Int) < (w.2.2.1.length : Int)) && !decide (w.2.1 < 0) && w.2.2.1.all (connOk (w.2.2.2.2.1.length : Int))

theorem world_cost {w : D14} : cost U14 w = cost (.slice U11) w.2.2.1 + cost U6 w.2.2.2.1 + cost (.slice U12) w.2.2.2.2.1 + cost (.slice U7) w.2.2.2.2.2.1 + cost (.slice U13) w.2.2.2.2.2.2 := by simp only [cost]; omega
theorem conn_cost {c : D11} : cost U9 c.2.2.2.1 ≤ cost U11 c := by simp only [cost]; omega

theorem world_S (k : Nat) (hk : fuel < k) (w : D14) (hc : cost U14 w ≤ big) : F80 k w = some (worldOk k w) := by
  have hk' : 2097152 < k := hk
  have hc' : cost U14 w ≤ 1048576 := hc
  have h := world_cost (w := w)
  have hlen : w.2.2.1.length ≤ cost (.slice U11) w.2.2.1 := cost_len (e := U11) w.2.2.1
  have hfl : w.2.2.2.2.1.length ≤ cost (.slice U12) w.2.2.2.2.1 := cost_len (e := U12) w.2.2.2.2.1
  unfold F80 worldOk
  rw [cache_S k hk _ (by show _ ≤ 1048576; omega), origin_S k hk _ (by show _ ≤ 1048576; omega), in_S]
  have hloop : iter (σ := Int × Unit) (fun rec11 x10 => (bif (decide (x10.1 < (w.2.2.1.length : Int))) then (bif (decide (0 ≤ x10.1 ∧ x10.1 < (w.2.2.1.length : Int))) then ((F81 k (w.2.2.1.getD x10.1.toNat Z11).1 (0 : Int) (7 : Int)).bind fun r12 => (bif (!r12) then some false else ((F81 k (w.2.2.1.getD x10.1.toNat Z11).2.2.2.2.2.2.2.1 (-1 : Int) (wrap64 ((w.2.2.2.2.1.length : Int) - (1 : Int)))).bind fun r13 => (bif (!r13) then some false else (bif (decide ((w.2.2.1.getD x10.1.toNat Z11).1 = (5 : Int))) then (bif (decide ((w.2.2.1.getD x10.1.toNat Z11).2.2.2.2.2.2.2.1 < (0 : Int))) then some false else (bif (decide ((1500 : Int) < ((w.2.2.1.getD x10.1.toNat Z11).2.1.size : Int))) then some false else (bif (decide ((1 : Int) ≤ (w.2.2.1.getD x10.1.toNat Z11).1)) then (bif (decide ((w.2.2.1.getD x10.1.toNat Z11).1 ≤ (6 : Int))) then ((F135 k (w.2.2.1.getD x10.1.toNat Z11).2.2.2.1).bind fun r14 => (bif (!r14) then some false else (rec11 ((wrap64 (x10.1 + (1 : Int))), ())))) else (rec11 ((wrap64 (x10.1 + (1 : Int))), ()))) else (rec11 ((wrap64 (x10.1 + (1 : Int))), ()))))) else (bif (decide ((1500 : Int) < ((w.2.2.1.getD x10.1.toNat Z11).2.1.size : Int))) then some false else (bif (decide ((1 : Int) ≤ (w.2.2.1.getD x10.1.toNat Z11).1)) then (bif (decide ((w.2.2.1.getD x10.1.toNat Z11).1 ≤ (6 : Int))) then ((F135 k (w.2.2.1.getD x10.1.toNat Z11).2.2.2.1).bind fun r15 => (bif (!r15) then some false else (rec11 ((wrap64 (x10.1 + (1 : Int))), ())))) else (rec11 ((wrap64 (x10.1 + (1 : Int))), ()))) else (rec11 ((wrap64 (x10.1 + (1 : Int))), ()))))))))) else none) else some true)) k ((0 : Int), ()) = some (w.2.2.1.all (connOk (w.2.2.2.2.1.length : Int))) := by
    refine (iter_list w.2.2.1 (connOk (w.2.2.2.2.1.length : Int)) (some false) (some true) (fun i hi rec => ?_) (fun rec => ?_) k (by omega)).trans ?_
    · have h1 : cost U11 (w.2.2.1.getD i Z11) ≤ cost (.slice U11) w.2.2.1 := cost_mem (getD_mem hi)
      have h2 := conn_cost (c := w.2.2.1.getD i Z11)
      have hg : w.2.2.1.getD i Z11 = w.2.2.1[i] := getD_lt hi
      rw [← hg]
      simp only [Int.toNat_natCast]
      rw [dT (show (i : Int) < (w.2.2.1.length : Int) by omega), dT (show 0 ≤ (i : Int) ∧ (i : Int) < (w.2.2.1.length : Int) by omega), w64 (n := (i : Int) + 1) (by omega) (by omega), in_S, in_S, req_S k hk _ (by show _ ≤ 1048576; omega), w64 (n := (w.2.2.2.2.1.length : Int) - 1) (by omega) (by omega)]
      simp only [cond_true, Option.bind_some]
      unfold connOk
      cases (decide (0 ≤ (w.2.2.1.getD i Z11).1) && decide ((w.2.2.1.getD i Z11).1 ≤ 7)) <;> cases (decide (-1 ≤ (w.2.2.1.getD i Z11).2.2.2.2.2.2.2.1) && decide ((w.2.2.1.getD i Z11).2.2.2.2.2.2.2.1 ≤ (w.2.2.2.2.1.length : Int) - 1)) <;> cases decide ((w.2.2.1.getD i Z11).1 = 5) <;> cases decide ((w.2.2.1.getD i Z11).2.2.2.2.2.2.2.1 < 0) <;> cases decide ((1500 : Int) < ((w.2.2.1.getD i Z11).2.1.size : Int)) <;> cases decide (1 ≤ (w.2.2.1.getD i Z11).1) <;> cases decide ((w.2.2.1.getD i Z11).1 ≤ 6) <;> cases reqOk (w.2.2.1.getD i Z11).2.2.2.1 <;> rfl
    · simp only
      rw [dF (show ¬ (w.2.2.1.length : Int) < (w.2.2.1.length : Int) by omega)]; rfl
    · cases w.2.2.1.all (connOk (w.2.2.2.2.1.length : Int)) <;> rfl
  rw [hloop]
  simp only [Option.bind_some]
  cases cacheOk k w.2.2.2.1 <;> cases originOk w.2.2.2.2.2.1 <;> cases (decide (0 ≤ w.1) && decide (w.1 ≤ 2000000000)) <;> cases decide ((4 : Int) < (w.2.2.1.length : Int)) <;> cases decide (w.2.1 < 0) <;> rfl

theorem world_I (k : Nat) (hk : fuel < k) (w : D14) (hc : cost U14 w ≤ big) : F86 k w = some (worldOk k w) := by
  have hk' : 2097152 < k := hk
  have hc' : cost U14 w ≤ 1048576 := hc
  have h := world_cost (w := w)
  have hlen : w.2.2.1.length ≤ cost (.slice U11) w.2.2.1 := cost_len (e := U11) w.2.2.1
  have hfl : w.2.2.2.2.1.length ≤ cost (.slice U12) w.2.2.2.2.1 := cost_len (e := U12) w.2.2.2.2.1
  unfold F86 worldOk
  rw [cache_I k hk _ (by show _ ≤ 1048576; omega), origin_I k hk _ (by show _ ≤ 1048576; omega), in_I]
  have hloop : iter (σ := Int × Unit) (fun rec8 x7 => (bif (decide (x7.1 < (w.2.2.1.length : Int))) then (bif (decide (0 ≤ x7.1 ∧ x7.1 < (w.2.2.1.length : Int))) then ((F145 k (w.2.2.1.getD x7.1.toNat Z11) (w.2.2.2.2.1.length : Int)).bind fun r9 => (bif (!r9) then some (!(decide ((0 : Int) ≤ x7.1))) else (rec8 ((wrap64 (x7.1 + (1 : Int))), ())))) else none) else some (!(decide ((0 : Int) ≤ (-1 : Int)))))) k ((0 : Int), ()) = some (w.2.2.1.all (connOk (w.2.2.2.2.1.length : Int))) := by
    refine (iter_list w.2.2.1 (connOk (w.2.2.2.2.1.length : Int)) (some false) (some true) (fun i hi rec => ?_) (fun rec => ?_) k (by omega)).trans ?_
    · have h1 : cost U11 (w.2.2.1.getD i Z11) ≤ cost (.slice U11) w.2.2.1 := cost_mem (getD_mem hi)
      have h2 := conn_cost (c := w.2.2.1.getD i Z11)
      have hg : w.2.2.1.getD i Z11 = w.2.2.1[i] := getD_lt hi
      rw [← hg]
      simp only [Int.toNat_natCast]
      rw [dT (show (i : Int) < (w.2.2.1.length : Int) by omega), dT (show 0 ≤ (i : Int) ∧ (i : Int) < (w.2.2.1.length : Int) by omega), w64 (n := (i : Int) + 1) (by omega) (by omega), conn_I k hk _ _ (by omega) (by omega) (by show _ ≤ 1048576; omega), dT (show (0 : Int) ≤ (i : Int) by omega)]
      simp only [cond_true, Option.bind_some]
      cases connOk (w.2.2.2.2.1.length : Int) (w.2.2.1.getD i Z11) <;> rfl
    · simp only
      rw [dF (show ¬ (w.2.2.1.length : Int) < (w.2.2.1.length : Int) by omega)]; rfl
    · cases w.2.2.1.all (connOk (w.2.2.2.2.1.length : Int)) <;> rfl
  rw [hloop]
  simp only [Option.bind_some]
  cases cacheOk k w.2.2.2.1 <;> cases originOk w.2.2.2.2.2.1 <;> cases (decide (0 ≤ w.1) && decide (w.1 ≤ 2000000000)) <;> cases decide ((4 : Int) < (w.2.2.1.length : Int)) <;> cases decide (w.2.1 < 0) <;> rfl
end Go.Proofs.YteliolfafmmhlaaGreatDoor.Fns
