/- Origins, requests: which are one. The program's tests are the reference's. -/
import Derived.Test.YtigbabjhcihmaaaGreatDoorShards
namespace Go.Proofs.YtigbabjhcihmaaaGreatDoor.Fns
open Go Go.RowKit Go.Proofs Go.Proofs.YtigbabjhcihmaaaGreatDoor.Ev Go.Proofs.YtigbabjhcihmaaaGreatDoor.Pl
set_option linter.unusedVariables false
set_option linter.unusedSimpArgs false
set_option maxRecDepth 100000

/-! ### origins -/
def resOk (l : List D1) (i : Nat) : Bool := uriOk (l.getD i Z1).1 && !decide ((60 : Int) < ((l.getD i Z1).2.1.size : Int)) && (decide (1 ≤ (l.getD i Z1).2.2.1) && decide ((l.getD i Z1).2.2.1 ≤ 100000)) && (decide (0 ≤ (l.getD i Z1).2.2.2.1) && decide ((l.getD i Z1).2.2.2.1 ≤ 2000000000)) && plainF (l.getD i Z1).2.2.2.2.2.2 && !decide ((6 : Int) < ((l.getD i Z1).2.2.2.2.2.2.length : Int)) && (decide (i = 0) || lessText (l.getD (i - 1) Z1).1 (l.getD i Z1).1)
def originOk (l : D2) : Bool := (List.range (l : List D1).length).all (resOk l) && decide (((l : List D1).length : Int) ≤ 8)

theorem res_cost {r : D1} : cost U1 r = r.1.size + r.2.1.size + cost (.slice U0) r.2.2.2.2.2.2 := by simp only [cost]; omega

theorem origin_S (k : Nat) (hk : fuel < k) (l : List D1) (hc : cost (.slice U1) l ≤ big) : F168 k l = some (originOk l) := by
  have hk' : 2097152 < k := hk
  have hc' : cost (.slice U1) l ≤ 1048576 := hc
  have hlen : l.length ≤ cost (.slice U1) l := cost_len (e := U1) l
  unfold F168
  refine (iter_idx l.length (resOk l) (some false) (some (decide ((l.length : Int) ≤ 8))) (fun i hi rec => ?_) (fun rec => ?_) k (by omega)).trans ?_
  · have h1 : cost U1 (l.getD i Z1) ≤ cost (.slice U1) l := cost_mem (getD_mem hi)
    rw [res_cost] at h1
    simp only [Int.toNat_natCast]
    rw [dT (show (i : Int) < (l.length : Int) by omega), dT (show 0 ≤ (i : Int) ∧ (i : Int) < (l.length : Int) by omega), w64 (n := (i : Int) + 1) (by omega) (by omega), uri_S k _ (by omega) (by omega), in_S, in_S, plain_S k hk _ (by show _ ≤ 1048576; omega)]
    simp only [cond_true, Option.bind_some]
    unfold resOk
    by_cases h0 : i = 0
    · rw [dT h0, dF (show ¬ (0 : Int) < (i : Int) by omega)]
      cases uriOk (l.getD i Z1).1 <;> cases decide ((60 : Int) < ((l.getD i Z1).2.1.size : Int)) <;> cases (decide (1 ≤ (l.getD i Z1).2.2.1) && decide ((l.getD i Z1).2.2.1 ≤ 100000)) <;> cases (decide (0 ≤ (l.getD i Z1).2.2.2.1) && decide ((l.getD i Z1).2.2.2.1 ≤ 2000000000)) <;> cases plainF (l.getD i Z1).2.2.2.2.2.2 <;> cases decide ((6 : Int) < ((l.getD i Z1).2.2.2.2.2.2.length : Int)) <;> rfl
    · rw [dF h0, dT (show (0 : Int) < (i : Int) by omega), w64 (n := (i : Int) - 1) (by omega) (by omega), dT (show 0 ≤ (i : Int) - 1 ∧ (i : Int) - 1 < (l.length : Int) by omega), show ((i : Int) - 1).toNat = i - 1 by omega, ← less_not]
      cases uriOk (l.getD i Z1).1 <;> cases decide ((60 : Int) < ((l.getD i Z1).2.1.size : Int)) <;> cases (decide (1 ≤ (l.getD i Z1).2.2.1) && decide ((l.getD i Z1).2.2.1 ≤ 100000)) <;> cases (decide (0 ≤ (l.getD i Z1).2.2.2.1) && decide ((l.getD i Z1).2.2.2.1 ≤ 2000000000)) <;> cases plainF (l.getD i Z1).2.2.2.2.2.2 <;> cases decide ((6 : Int) < ((l.getD i Z1).2.2.2.2.2.2.length : Int)) <;> cases lessText (l.getD (i - 1) Z1).1 (l.getD i Z1).1 <;> rfl
  · simp only
    rw [dF (show ¬ (l.length : Int) < (l.length : Int) by omega)]; rfl
  · unfold originOk
    cases (List.range l.length).all (resOk l) <;> rfl

theorem origin_I (k : Nat) (hk : fuel < k) (l : List D1) (hc : cost (.slice U1) l ≤ big) : F173 k l = some (originOk l) := by
  have hk' : 2097152 < k := hk
  have hc' : cost (.slice U1) l ≤ 1048576 := hc
  have hlen : l.length ≤ cost (.slice U1) l := cost_len (e := U1) l
  unfold F173
  refine (iter_idx l.length (resOk l) (some false) (some (decide ((l.length : Int) ≤ 8))) (fun i hi rec => ?_) (fun rec => ?_) k (by omega)).trans ?_
  · have h1 : cost U1 (l.getD i Z1) ≤ cost (.slice U1) l := cost_mem (getD_mem hi)
    rw [res_cost] at h1
    simp only [Int.toNat_natCast]
    rw [dT (show (i : Int) < (l.length : Int) by omega), dT (show 0 ≤ (i : Int) ∧ (i : Int) < (l.length : Int) by omega), w64 (n := (i : Int) + 1) (by omega) (by omega), uri_I k _ (by omega) (by omega), in_I, in_I, plain_I k hk _ (by show _ ≤ 1048576; omega)]
    simp only [cond_true, Option.bind_some]
    unfold resOk
    by_cases h0 : i = 0
    · rw [dT h0, dF (show ¬ (0 : Int) < (i : Int) by omega)]
      cases uriOk (l.getD i Z1).1 <;> cases decide ((60 : Int) < ((l.getD i Z1).2.1.size : Int)) <;> cases (decide (1 ≤ (l.getD i Z1).2.2.1) && decide ((l.getD i Z1).2.2.1 ≤ 100000)) <;> cases (decide (0 ≤ (l.getD i Z1).2.2.2.1) && decide ((l.getD i Z1).2.2.2.1 ≤ 2000000000)) <;> cases plainF (l.getD i Z1).2.2.2.2.2.2 <;> cases decide ((6 : Int) < ((l.getD i Z1).2.2.2.2.2.2.length : Int)) <;> rfl
    · rw [dF h0, dT (show (0 : Int) < (i : Int) by omega), w64 (n := (i : Int) - 1) (by omega) (by omega), dT (show 0 ≤ (i : Int) - 1 ∧ (i : Int) - 1 < (l.length : Int) by omega), show ((i : Int) - 1).toNat = i - 1 by omega]
      cases uriOk (l.getD i Z1).1 <;> cases decide ((60 : Int) < ((l.getD i Z1).2.1.size : Int)) <;> cases (decide (1 ≤ (l.getD i Z1).2.2.1) && decide ((l.getD i Z1).2.2.1 ≤ 100000)) <;> cases (decide (0 ≤ (l.getD i Z1).2.2.2.1) && decide ((l.getD i Z1).2.2.2.1 ≤ 2000000000)) <;> cases plainF (l.getD i Z1).2.2.2.2.2.2 <;> cases decide ((6 : Int) < ((l.getD i Z1).2.2.2.2.2.2.length : Int)) <;> cases lessText (l.getD (i - 1) Z1).1 (l.getD i Z1).1 <;> rfl
  · simp only
    rw [dF (show ¬ (l.length : Int) < (l.length : Int) by omega)]; rfl
  · unfold originOk
    cases (List.range l.length).all (resOk l) <;> rfl

/-! ### requests -/
def reqOk (a : D11) : Bool := isTok a.1 && decide ((a.1.size : Int) ≤ 10) && uriOk a.2.1 && plainF a.2.2.1 && decide ((a.2.2.2.size : Int) ≤ 60)
theorem req_cost {a : D11} : cost U11 a = a.1.size + a.2.1.size + cost (.slice U0) a.2.2.1 + a.2.2.2.size := by simp only [cost]; omega
end Go.Proofs.YtigbabjhcihmaaaGreatDoor.Fns
