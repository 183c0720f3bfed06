/- The program's Answers and the reference's put together the same row. -/
import Derived.Test.YteliolfafmmhlaaFam
import Derived.Test.YteliolfafmmhlaaMk
import Derived.Test.YteliolfafmmhlaaLoops
namespace Go.Proofs.Yteliolfafmmhlaa.Answers
open Go Go.RowKit Go.Proofs Go.Proofs.Yteliolfafmmhlaa.Ev Go.Proofs.Yteliolfafmmhlaa.Pl Go.Proofs.Yteliolfafmmhlaa.Fns
set_option linter.unusedVariables false
set_option linter.unusedSimpArgs false

theorem fields_len {x : D2} (h : cost U2 x ≤ big) : x.2.1.length ≤ 1048576 := by
  have : cost U2 x = 0 + (cost (.slice U0) x.2.1 + cost .str x.2.2) := rfl
  have h2 := cost_len (e := U0) x.2.1
  have h3 : big = 1048576 := rfl
  omega

theorem resp1 (k : Nat) (x : D2) (h : cost U2 x ≤ big) : F45 k x = some x := by
  have := fields_len h
  unfold F45
  rw [dT (by show 0 + x.2.1.length < 8589934592; omega)]
  rfl
theorem resp2 (k : Nat) (x : D2) (h : cost U2 x ≤ big) : F52 k x = some x := by
  have := fields_len h
  unfold F52 semClone
  rw [dT (by omega)]
  rfl

theorem told_resp {x : D4} : cost U2 x.2 ≤ cost U4 x := by show _ ≤ 0 + cost U2 x.2; omega

theorem told1 (k : Nat) (hk : fuel < k) (l : List D4) (h : cost (.slice U4) l ≤ big) : F18 k l = some l := by
  have hl := cost_len (e := U4) l
  have hb : big = 1048576 := rfl
  have hk' : 2097152 < k := hk
  unfold F18
  refine iter_flat l (fun x => [x]) l (fun i hi rec => ?_) (fun rec => ?_) k (by omega)
  · have e1 : decide ((i : Int) < (l.length : Int)) = true := dT (by omega)
    have e2 : decide (0 ≤ (i : Int) ∧ (i : Int) < (l.length : Int)) = true := dT (by omega)
    have hc := cost_get (e := U4) hi
    simp only [e1, e2, cond_true, Int.toNat_natCast, getD_lt hi]
    rw [resp1 k _ (Nat.le_trans (Nat.le_trans told_resp hc) h)]
    have hf := flat_len' l (fun x => [x]) i hi
    rw [flat_self l] at hf
    simp only [List.length_singleton] at hf
    simp only [Option.bind_some, List.length_singleton]
    rw [dT (show ((l.take i).flatMap fun x => [x]).length + 1 < 8589934592 by omega), cond_true, w64 (n := (i : Int) + 1) (by omega) (by omega)]
    rfl
  · rw [dF (show ¬ ((l.length : Int) < (l.length : Int)) by omega), flat_self]; rfl

theorem told2 (k : Nat) (hk : fuel < k) (l : List D4) (h : cost (.slice U4) l ≤ big) : F24 k l = some l := by
  have hl := cost_len (e := U4) l
  have hb : big = 1048576 := rfl
  have hk' : 2097152 < k := hk
  unfold F24
  refine iter_flat l (fun x => [x]) l (fun i hi rec => ?_) (fun rec => ?_) k (by omega)
  · have e1 : decide ((i : Int) < (l.length : Int)) = true := dT (by omega)
    have e2 : decide (0 ≤ (i : Int) ∧ (i : Int) < (l.length : Int)) = true := dT (by omega)
    have hc := cost_get (e := U4) hi
    simp only [e1, e2, cond_true, Int.toNat_natCast, getD_lt hi]
    rw [resp2 k _ (Nat.le_trans (Nat.le_trans told_resp hc) h)]
    have hf := flat_len' l (fun x => [x]) i hi
    rw [flat_self l] at hf
    simp only [List.length_singleton] at hf
    simp only [Option.bind_some, List.length_singleton]
    rw [dT (show ((l.take i).flatMap fun x => [x]).length + 1 < 8589934592 by omega), cond_true, w64 (n := (i : Int) + 1) (by omega) (by omega)]
    rfl
  · rw [dF (show ¬ ((l.length : Int) < (l.length : Int)) by omega), flat_self]; rfl

abbrev outOf (c : D5) : List D4 := c.2.2.2.2.2.2.2.2.2.2.2.2.2
def told (a : D14) : List D4 := a.2.2.1.flatMap outOf

theorem out_cost (c : D5) : cost (.slice U4) (outOf c) ≤ cost U5 c := by
  simp only [cost, outOf]; omega
theorem conns_cost (a : D14) : cost (.slice U5) a.2.2.1 ≤ cost U14 a := by
  simp only [cost]; omega
theorem told_cost (a : D14) : cost (.slice U4) (told a) ≤ cost U14 a := by
  refine Nat.le_trans ?_ (conns_cost a)
  unfold told
  rw [cost_flat (e := U4) outOf]
  have h := sum_le (f := fun x => cost (.slice U4) (outOf x)) (g := cost U5) a.2.2.1 fun x _ => out_cost x
  exact Nat.le_trans h (Nat.le_add_left _ _)

theorem spec_answers (k : Nat) (hk : fuel < k) (a : D14) (h : cost U14 a ≤ big) : F5 k a = some (told a) := by
  have hb : big = 1048576 := rfl
  have hk' : 2097152 < k := hk
  have hcc := Nat.le_trans (conns_cost a) h
  have hl := cost_len (e := U5) a.2.2.1
  have ht := Nat.le_trans (told_cost a) h
  have htl := cost_len (e := U4) (told a)
  unfold F5
  refine iter_flat a.2.2.1 outOf (told a) (fun i hi rec => ?_) (fun rec => ?_) k (by omega)
  · have e1 : decide ((i : Int) < (a.2.2.1.length : Int)) = true := dT (by omega)
    have e2 : decide (0 ≤ (i : Int) ∧ (i : Int) < (a.2.2.1.length : Int)) = true := dT (by omega)
    have hc := cost_get (e := U5) hi
    have ho := out_cost (a.2.2.1[i]'hi)
    simp only [e1, e2, cond_true, Int.toNat_natCast, getD_lt hi]
    rw [told1 k hk _ (by show cost (.slice U4) (outOf (a.2.2.1[i]'hi)) ≤ big; omega)]
    have hf := flat_len' a.2.2.1 outOf i hi
    have hf' : (a.2.2.1.flatMap outOf).length ≤ 1048576 := Nat.le_trans htl (by omega)
    have hm : most = 8589934592 := rfl
    have e3 : decide (((a.2.2.1.take i).flatMap outOf).length + (outOf (a.2.2.1[i]'hi)).length < most) = true := dT (by omega)
    have e4 : wrap64 ((i : Int) + 1) = ((i + 1 : Nat) : Int) := by rw [w64 (n := (i : Int) + 1) (by omega) (by omega)]; omega
    simp only [Option.bind_some, e3, e4, cond_true]
  · rw [dF (show ¬ ((a.2.2.1.length : Int) < (a.2.2.1.length : Int)) by omega)]; rfl

theorem impl_answers (k : Nat) (hk : fuel < k) (a : D14) (h : cost U14 a ≤ big) : F7 k a = some (told a) := by
  have hb : big = 1048576 := rfl
  have hk' : 2097152 < k := hk
  have hcc := Nat.le_trans (conns_cost a) h
  have hl := cost_len (e := U5) a.2.2.1
  have ht := Nat.le_trans (told_cost a) h
  have htl := cost_len (e := U4) (told a)
  unfold F7
  refine iter_flat a.2.2.1 outOf (told a) (fun i hi rec => ?_) (fun rec => ?_) k (by omega)
  · have e1 : decide ((i : Int) < (a.2.2.1.length : Int)) = true := dT (by omega)
    have e2 : decide (0 ≤ (i : Int) ∧ (i : Int) < (a.2.2.1.length : Int)) = true := dT (by omega)
    have hc := cost_get (e := U5) hi
    have ho := out_cost (a.2.2.1[i]'hi)
    simp only [e1, e2, cond_true, Int.toNat_natCast, getD_lt hi]
    rw [told2 k hk _ (by show cost (.slice U4) (outOf (a.2.2.1[i]'hi)) ≤ big; omega)]
    have hf := flat_len' a.2.2.1 outOf i hi
    have hf' : (a.2.2.1.flatMap outOf).length ≤ 1048576 := Nat.le_trans htl (by omega)
    have hm : most = 8589934592 := rfl
    have e3 : decide (((a.2.2.1.take i).flatMap outOf).length + (outOf (a.2.2.1[i]'hi)).length < most) = true := dT (by omega)
    have e4 : wrap64 ((i : Int) + 1) = ((i + 1 : Nat) : Int) := by rw [w64 (n := (i : Int) + 1) (by omega) (by omega)]; omega
    simp only [Option.bind_some, e3, e4, cond_true]
  · rw [dF (show ¬ ((a.2.2.1.length : Int) < (a.2.2.1.length : Int)) by omega)]; rfl

theorem same (k : Nat) (hk : fuel < k) (a : D14) (ok : Ty.Ok U14 a) (h : cost U14 a ≤ big) : ∃ w, cost (.slice U4) w ≤ big ∧ F5 k a = some w ∧ F7 k a = some w :=
  ⟨told a, Nat.le_trans (told_cost a) h, spec_answers k hk a h, impl_answers k hk a h⟩
end Go.Proofs.Yteliolfafmmhlaa.Answers
