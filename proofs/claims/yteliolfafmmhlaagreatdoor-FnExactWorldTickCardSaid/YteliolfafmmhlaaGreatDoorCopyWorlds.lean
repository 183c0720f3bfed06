/- Copies of worlds: what the program and the reference hand on is what they got. -/
import Derived.Test.YteliolfafmmhlaaGreatDoorNewWorlds
namespace Go.Proofs.YteliolfafmmhlaaGreatDoor.Fns
open Go Go.RowKit Go.Proofs Go.Proofs.YteliolfafmmhlaaGreatDoor.Ev Go.Proofs.YteliolfafmmhlaaGreatDoor.Pl
set_option linter.unusedVariables false
set_option linter.unusedSimpArgs false

theorem req_len {x : D9} (h : cost U9 x ≤ big) : x.2.2.1.length ≤ 1048576 := by
  have h1 : cost U9 x = x.1.size + (x.2.1.size + (cost (.slice U0) x.2.2.1 + x.2.2.2.size)) := rfl
  have h2 := cost_len (e := U0) x.2.2.1
  have h3 : big = 1048576 := rfl
  omega
theorem copyReq_S (k : Nat) (x : D9) (h : cost U9 x ≤ big) : F133 k x = some x := by
  have := req_len h
  unfold F133
  rw [dT (by show 0 + x.2.2.1.length < 8589934592; omega)]
  rfl
theorem copyReq_I (k : Nat) (x : D9) (h : cost U9 x ≤ big) : F141 k x = some x := by
  have := req_len h
  unfold F141 semClone
  rw [dT (by omega)]
  rfl

theorem told_parts {l : List D10} (h : cost (.slice U10) l ≤ big) : l.length ≤ 1048576 ∧ ∀ (i : Nat) (hi : i < l.length), cost U1 (l[i]'hi).2 ≤ big := by
  have h2 := cost_len (e := U10) l
  have h3 : big = 1048576 := rfl
  refine ⟨by omega, fun i hi => ?_⟩
  have h4 := cost_get (e := U10) hi
  have h5 : cost U10 (l[i]'hi) = 0 + cost U1 (l[i]'hi).2 := rfl
  omega
theorem copyTold_S (k : Nat) (hk : fuel < k) (l : List D10) (h : cost (.slice U10) l ≤ big) : F178 k l = some l := by
  obtain ⟨hl, hs⟩ := told_parts h
  have hk' : 2097152 < k := hk
  unfold F178
  refine iter_flat l (fun y => [y]) l (fun i hi rec => ?_) (fun rec => ?_) k (by omega)
  · have e1 : decide ((i : Int) < (l.length : Int)) = true := dT (by omega)
    have e2 : decide (0 ≤ (i : Int) ∧ (i : Int) < (l.length : Int)) = true := dT (by omega)
    simp only [e1, e2, cond_true, Int.toNat_natCast, getD_lt hi]
    rw [copyResp_S k _ (hs i hi)]
    have hf := flat_len' l (fun y => [y]) i hi
    rw [flat_self l] at hf
    simp only [List.length_singleton] at hf
    simp only [Option.bind_some, List.length_singleton]
    rw [dT (show ((l.take i).flatMap fun y => [y]).length + 1 < 8589934592 by omega), cond_true, w64 (n := (i : Int) + 1) (by omega) (by omega)]
    rfl
  · rw [dF (show ¬ ((l.length : Int) < (l.length : Int)) by omega), flat_self]; rfl
theorem copyTold_I (k : Nat) (hk : fuel < k) (l : List D10) (h : cost (.slice U10) l ≤ big) : F209 k l = some l := by
  obtain ⟨hl, hs⟩ := told_parts h
  have hk' : 2097152 < k := hk
  unfold F209
  refine iter_flat l (fun y => [y]) l (fun i hi rec => ?_) (fun rec => ?_) k (by omega)
  · have e1 : decide ((i : Int) < (l.length : Int)) = true := dT (by omega)
    have e2 : decide (0 ≤ (i : Int) ∧ (i : Int) < (l.length : Int)) = true := dT (by omega)
    simp only [e1, e2, cond_true, Int.toNat_natCast, getD_lt hi]
    rw [copyResp_I k _ (hs i hi)]
    have hf := flat_len' l (fun y => [y]) i hi
    rw [flat_self l] at hf
    simp only [List.length_singleton] at hf
    simp only [Option.bind_some, List.length_singleton]
    rw [dT (show ((l.take i).flatMap fun y => [y]).length + 1 < 8589934592 by omega), cond_true, w64 (n := (i : Int) + 1) (by omega) (by omega)]
    rfl
  · rw [dF (show ¬ ((l.length : Int) < (l.length : Int)) by omega), flat_self]; rfl

theorem conn_parts {c : D11} (h : cost U11 c ≤ big) : cost U9 c.2.2.2.1 ≤ big ∧ cost U9 c.2.2.2.2.1 ≤ big ∧ cost U2 c.2.2.2.2.2.1 ≤ big ∧ cost U1 c.2.2.2.2.2.2.2.2.2.2.2.2.1 ≤ big ∧ cost (.slice U10) c.2.2.2.2.2.2.2.2.2.2.2.2.2 ≤ big := by
  have h1 : cost U11 c = 0 + (c.2.1.size + (0 + (cost U9 c.2.2.2.1 + (cost U9 c.2.2.2.2.1 + (cost U2 c.2.2.2.2.2.1 + (0 + (0 + (0 + (0 + (0 + (0 + (cost U1 c.2.2.2.2.2.2.2.2.2.2.2.2.1 + cost (.slice U10) c.2.2.2.2.2.2.2.2.2.2.2.2.2)))))))))))) := rfl
  have h3 : big = 1048576 := rfl
  omega
theorem copyConn_S (k : Nat) (hk : fuel < k) (c : D11) (h : cost U11 c ≤ big) : F132 k c = some c := by
  obtain ⟨h1, h2, h3, h4, h5⟩ := conn_parts h
  unfold F132
  rw [copyReq_S k _ h1, copyReq_S k _ h2, copyStored_S k _ h3, copyResp_S k _ h4, copyTold_S k hk _ h5]
  rfl
theorem copyConn_I (k : Nat) (hk : fuel < k) (c : D11) (h : cost U11 c ≤ big) : F185 k c = some c := by
  obtain ⟨h1, h2, h3, h4, h5⟩ := conn_parts h
  unfold F185
  rw [copyReq_I k _ h1, copyReq_I k _ h2, copyStored_I k _ h3, copyResp_I k _ h4, copyTold_I k hk _ h5]
  rfl
theorem copyConns_I (k : Nat) (hk : fuel < k) (l : List D11) (h : cost (.slice U11) l ≤ big) : F139 k l = some l := by
  have hl := cost_len (e := U11) l
  have hb : big = 1048576 := rfl
  have hk' : 2097152 < k := hk
  unfold F139 semClone
  rw [dT (by omega)]
  simp only [cond_true, Option.bind_some]
  refine iter_flat l (fun y => [y]) l (fun i hi rec => ?_) (fun rec => ?_) k (by omega)
  · have e1 : decide ((i : Int) < (l.length : Int)) = true := dT (by omega)
    have e2 : decide (0 ≤ (i : Int) ∧ (i : Int) < (l.length : Int)) = true := dT (by omega)
    simp only [e1, e2, cond_true, Int.toNat_natCast, getD_lt hi]
    rw [copyConn_I k hk _ (Nat.le_trans (cost_get (e := U11) hi) h)]
    have hf : ((l.take i).flatMap fun y => [y]).length = i := by rw [flat_self, List.length_take]; omega
    simp only [Option.bind_some]
    rw [dT (show (i : Int) = (((l.take i).flatMap fun y => [y]).length : Int) ∧ ((l.take i).flatMap fun y => [y]).length < l.length by rw [hf]; exact ⟨rfl, hi⟩), cond_true, w64 (n := (i : Int) + 1) (by omega) (by omega)]
    rfl
  · rw [dF (show ¬ ((l.length : Int) < (l.length : Int)) by omega), flat_self, dT rfl]; rfl

theorem flight_parts {f : D12} (h : cost U12 f ≤ big) : cost U9 f.2.2.2.2.2.1 ≤ big ∧ cost U1 f.2.2.2.2.2.2.1 ≤ big := by
  have h1 : cost U12 f = f.1.size + (0 + (0 + (0 + (0 + (cost U9 f.2.2.2.2.2.1 + (cost U1 f.2.2.2.2.2.2.1 + (0 + 0))))))) := rfl
  have h3 : big = 1048576 := rfl
  omega

theorem world_parts {w : D14} (h : cost U14 w ≤ big) : cost (.slice U11) w.2.2.1 ≤ big ∧ cost U6 w.2.2.2.1 ≤ big ∧ cost (.slice U12) w.2.2.2.2.1 ≤ big ∧ cost U8 w.2.2.2.2.2.1 ≤ big ∧ w.2.2.2.2.2.2.length ≤ 1048576 := by
  have h1 : cost U14 w = 0 + (0 + (cost (.slice U11) w.2.2.1 + (cost U6 w.2.2.2.1 + (cost (.slice U12) w.2.2.2.2.1 + (cost U8 w.2.2.2.2.2.1 + cost (.slice U13) w.2.2.2.2.2.2))))) := rfl
  have h2 := cost_len (e := U13) w.2.2.2.2.2.2
  have h3 : big = 1048576 := rfl
  omega

theorem copyWorld_I (k : Nat) (hk : fuel < k) (w : D14) (h : cost U14 w ≤ big) : F85 k w = some w := by
  obtain ⟨h1, h2, h3, h4, h5⟩ := world_parts h
  have hl := cost_len (e := U12) w.2.2.2.2.1
  have hb : big = 1048576 := rfl
  have hk' : 2097152 < k := hk
  unfold F85
  rw [copyConns_I k hk _ h1, copyCache_I k hk _ h2, copyOrigin_I k hk _ h4]
  unfold semClone
  rw [dT (by omega)]
  simp only [cond_true, Option.bind_some]
  refine iter_flatG (fun i x => (i, w.1, w.2.1, x, ())) w.2.2.2.2.1 (fun y => [y]) w (fun i hi rec => ?_) (fun rec => ?_) k (by omega)
  · have e1 : decide ((i : Int) < (w.2.2.2.2.1.length : Int)) = true := dT (by omega)
    have e2 : decide (0 ≤ (i : Int) ∧ (i : Int) < (w.2.2.2.2.1.length : Int)) = true := dT (by omega)
    obtain ⟨q1, q2⟩ := flight_parts (Nat.le_trans (cost_get (e := U12) hi) h3)
    simp only [e1, e2, cond_true, Int.toNat_natCast, getD_lt hi]
    rw [copyReq_I k _ q1, copyResp_I k _ q2]
    have hf := flat_len' w.2.2.2.2.1 (fun y => [y]) i hi
    rw [flat_self w.2.2.2.2.1] at hf
    simp only [List.length_singleton] at hf
    simp only [Option.bind_some, List.length_singleton]
    rw [dT (show ((w.2.2.2.2.1.take i).flatMap fun y => [y]).length + 1 < 8589934592 by omega), cond_true, w64 (n := (i : Int) + 1) (by omega) (by omega)]
    rfl
  · rw [dF (show ¬ ((w.2.2.2.2.1.length : Int) < (w.2.2.2.2.1.length : Int)) by omega), flat_self]; rfl

theorem copyWorld_S (k : Nat) (hk : fuel < k) (w : D14) (h : cost U14 w ≤ big) : F79 k w = some w := by
  obtain ⟨h1, h2, h3, h4, h5⟩ := world_parts h
  have hl := cost_len (e := U12) w.2.2.2.2.1
  have hlc := cost_len (e := U11) w.2.2.1
  have hb : big = 1048576 := rfl
  have hk' : 2097152 < k := hk
  unfold F79
  rw [copyCache_S k hk _ h2, copyOrigin_S k hk _ h4]
  simp only [Option.bind_some]
  refine iter_flatG (fun i x => (i, w.1, w.2.1, w.2.2.2.1.1, w.2.2.2.1.2, w.2.2.2.2.1, w.2.2.2.2.2.1, w.2.2.2.2.2.2, x, ())) w.2.2.1 (fun y => [y]) w (fun i hi rec => ?_) (fun rec => ?_) k (by omega)
  · have e1 : decide ((i : Int) < (w.2.2.1.length : Int)) = true := dT (by omega)
    have e2 : decide (0 ≤ (i : Int) ∧ (i : Int) < (w.2.2.1.length : Int)) = true := dT (by omega)
    simp only [e1, e2, cond_true, Int.toNat_natCast, getD_lt hi]
    rw [copyConn_S k hk _ (Nat.le_trans (cost_get (e := U11) hi) h1)]
    have hf := flat_len' w.2.2.1 (fun y => [y]) i hi
    rw [flat_self w.2.2.1] at hf
    simp only [List.length_singleton] at hf
    simp only [Option.bind_some, List.length_singleton]
    rw [dT (show ((w.2.2.1.take i).flatMap fun y => [y]).length + 1 < 8589934592 by omega), cond_true, w64 (n := (i : Int) + 1) (by omega) (by omega)]
    rfl
  · simp only
    rw [dF (show ¬ ((w.2.2.1.length : Int) < (w.2.2.1.length : Int)) by omega), flat_self, dT (show ([] : List D13).length + w.2.2.2.2.2.2.length < 8589934592 by show 0 + w.2.2.2.2.2.2.length < _; omega)]
    simp only [cond_false, cond_true]
    refine iter_flatG (fun i x => (i, w.1, w.2.1, w.2.2.2.2.2.1, w.2.2.2.2.2.2, x, ())) w.2.2.2.2.1 (fun y => [y]) w (fun i hi rec => ?_) (fun rec => ?_) k (by omega)
    · have e1 : decide ((i : Int) < (w.2.2.2.2.1.length : Int)) = true := dT (by omega)
      have e2 : decide (0 ≤ (i : Int) ∧ (i : Int) < (w.2.2.2.2.1.length : Int)) = true := dT (by omega)
      obtain ⟨q1, q2⟩ := flight_parts (Nat.le_trans (cost_get (e := U12) hi) h3)
      simp only [e1, e2, cond_true, Int.toNat_natCast, getD_lt hi]
      rw [copyReq_S k _ q1, copyResp_S k _ q2]
      have hf := flat_len' w.2.2.2.2.1 (fun y => [y]) i hi
      rw [flat_self w.2.2.2.2.1] at hf
      simp only [List.length_singleton] at hf
      simp only [Option.bind_some, List.length_singleton]
      rw [dT (show ((w.2.2.2.2.1.take i).flatMap fun y => [y]).length + 1 < 8589934592 by omega), cond_true, w64 (n := (i : Int) + 1) (by omega) (by omega)]
      rfl
    · rw [dF (show ¬ ((w.2.2.2.2.1.length : Int) < (w.2.2.2.2.1.length : Int)) by omega), flat_self]; rfl
end Go.Proofs.YteliolfafmmhlaaGreatDoor.Fns
