/- New worlds: the program's WorldNew puts together what the reference's does. -/
import Derived.Test.YtigbabjhcihmaaaGreatDoorCopies
import Derived.Test.YtigbabjhcihmaaaGreatDoorWorlds
namespace Go.Proofs.YtigbabjhcihmaaaGreatDoor.Fns
open Go Go.RowKit Go.Proofs Go.Proofs.YtigbabjhcihmaaaGreatDoor.Ev Go.Proofs.YtigbabjhcihmaaaGreatDoor.Pl
set_option linter.unusedVariables false
set_option linter.unusedSimpArgs false

theorem iter_flatG {α β ρ σ : Type} {step : (σ → Option ρ) → σ → Option ρ} (mk : Int → List β → σ) (l : List α) (g : α → List β) (R : ρ)
    (hs : ∀ (i : Nat) (h : i < l.length) (rec : σ → Option ρ), step rec (mk (i : Int) ((l.take i).flatMap g)) = rec (mk (((i + 1 : Nat) : Int)) ((l.take i).flatMap g ++ g l[i])))
    (he : ∀ rec : σ → Option ρ, step rec (mk (l.length : Int) (l.flatMap g)) = some R) (k : Nat) (hk : l.length < k) : iter step k (mk 0 []) = some R := by
  suffices h : ∀ (k i : Nat), i ≤ l.length → l.length - i < k → iter step k (mk (i : Int) ((l.take i).flatMap g)) = some R from h k 0 (Nat.zero_le _) (by omega)
  intro k
  induction k with
  | zero => intro i hi hk; omega
  | succ k ih =>
    intro i hi hk
    simp only [iter]
    by_cases e : i = l.length
    · subst e; rw [List.take_length]; exact he _
    · have hlt : i < l.length := by omega
      rw [hs i hlt]
      have h1 : (l.take i).flatMap g ++ g l[i] = (l.take (i + 1)).flatMap g := by rw [List.take_succ_eq_append_getElem hlt, List.flatMap_append, List.flatMap_cons, List.flatMap_nil, List.append_nil]
      rw [h1]
      exact ih (i + 1) (by omega) (by omega)

def connNew (n : ByteArray) : D13 := (F170 0 n).getD Z13
theorem conn_new (n : ByteArray) : ∃ c, (∀ k, F170 k n = some c) ∧ cost U13 c ≤ n.size := by
  have h : ∃ A B : D13, (∀ k, F170 k n = bif decide ((1500 : Int) < (n.size : Int)) then some A else some B) ∧ cost U13 A = 0 ∧ cost U13 B = 0 + (n.size + 0) := ⟨_, _, fun k => rfl, by kernel_rfl, by kernel_rfl⟩
  obtain ⟨A, B, h1, h2, h3⟩ := h
  cases hd : decide ((1500 : Int) < (n.size : Int)) with
  | true => exact ⟨A, fun k => by rw [h1, hd]; rfl, by omega⟩
  | false => exact ⟨B, fun k => by rw [h1, hd]; rfl, by omega⟩
theorem connNew_S (k : Nat) (n : ByteArray) : F170 k n = some (connNew n) := by
  obtain ⟨c, h, _⟩ := conn_new n
  unfold connNew
  rw [h k, h 0]; rfl
theorem connNew_I (k : Nat) (n : ByteArray) : F175 k n = some (connNew n) := connNew_S k n
theorem connNew_cost (n : ByteArray) : cost U13 (connNew n) ≤ n.size := by
  obtain ⟨c, h, hc⟩ := conn_new n
  unfold connNew
  rw [h 0]; exact hc

def conns (l : List ByteArray) : List D13 := l.flatMap fun n => [connNew n]
theorem conns_len : ∀ l : List ByteArray, (conns l).length = l.length
  | [] => rfl
  | x :: l => by
    have := conns_len l
    unfold conns at this ⊢
    rw [List.flatMap_cons, List.length_append, this]; simp only [List.length_cons, List.length_nil]; omega
theorem conns_cost (l : List ByteArray) : cost (.slice U13) (conns l) ≤ cost (.slice .str) l := by
  unfold conns
  rw [cost_flat (e := U13)]
  have h : cost (.slice .str) l = (l.map fun n => cost (.slice .str) [n]).sum := by
    have := cost_flat (e := .str) (fun n => [n]) l
    rwa [flat_self] at this
  rw [h]
  refine sum_le l fun n _ => ?_
  have := connNew_cost n
  have h1 : cost (.slice U13) [connNew n] = 1 + (cost U13 (connNew n) + 0) := rfl
  have h2 : cost (.slice .str) [n] = 1 + (n.size + 0) := rfl
  omega

def noWorld : D16 := (Z16.1, Z16.2.1, ([] : List D13), (([] : List D8), ([] : List D9)), ([] : List D14), ([] : List D1), ([] : List D15))
def aWorld (l : List ByteArray) (c : D10) (o : D2) : D16 := (Z16.1, Z16.2.1, conns l, c, ([] : List D14), o, ([] : List D15))
def newWorld (k : Nat) (l : List ByteArray) (c : D10) (o : D2) : D16 :=
  bif decide ((4 : Int) < (l.length : Int)) then noWorld else bif !cacheOk k c then noWorld else bif !originOk o then noWorld else aWorld l c o
theorem noWorld_cost : cost U16 noWorld = 0 := by kernel_rfl
theorem newWorld_cost (k : Nat) (l : List ByteArray) (c : D10) (o : D2) : cost U16 (newWorld k l c o) ≤ cost (.slice .str) l + cost U10 c + cost U2 o := by
  have h0 := noWorld_cost
  have h1 : cost U16 (aWorld l c o) = 0 + (0 + (cost (.slice U13) (conns l) + (cost U10 c + (0 + (cost U2 o + 0))))) := rfl
  have h2 := conns_cost l
  unfold newWorld
  cases decide ((4 : Int) < (l.length : Int)) <;> cases cacheOk k c <;> cases originOk o <;> simp only [Bool.not_true, Bool.not_false, cond_true, cond_false] <;> omega

theorem new_S (k : Nat) (hk : fuel < k) (l : List ByteArray) (c : D10) (o : D2) (hl : l.length ≤ 1048576) (hc : cost U10 c ≤ big) (ho : cost U2 o ≤ big) : F74 k l c o = some (newWorld k l c o) := by
  have hk' : 2097152 < k := hk
  unfold F74 newWorld
  rw [cache_S k hk c hc, origin_S k hk o ho, copyCache_S k hk c hc, copyOrigin_S k hk o ho]
  simp only [Option.bind_some]
  cases decide ((4 : Int) < (l.length : Int)) with
  | true => rfl
  | false =>
  cases cacheOk k c with
  | false => rfl
  | true =>
  cases originOk o with
  | false => rfl
  | true =>
  simp only [Bool.not_true, cond_false]
  refine iter_flatG (fun i x => (i, Z16.1, Z16.2.1, x, ())) l (fun n => [connNew n]) (aWorld l c o) (fun i hi rec => ?_) (fun rec => ?_) k (by omega)
  · have e1 : decide ((i : Int) < (l.length : Int)) = true := dT (by omega)
    have e2 : decide (0 ≤ (i : Int) ∧ (i : Int) < (l.length : Int)) = true := dT (by omega)
    simp only [e1, e2, cond_true, Int.toNat_natCast, getD_lt hi]
    rw [connNew_S]
    have hf := flat_len' l (fun n => [connNew n]) i hi
    have hf2 := conns_len l
    unfold conns at hf2
    simp only [List.length_singleton] at hf
    simp only [Option.bind_some, List.length_singleton]
    rw [dT (show ((l.take i).flatMap fun n => [connNew n]).length + 1 < 8589934592 by omega), cond_true, w64 (n := (i : Int) + 1) (by omega) (by omega)]
    rfl
  · rw [dF (show ¬ ((l.length : Int) < (l.length : Int)) by omega)]; rfl

theorem new_I (k : Nat) (hk : fuel < k) (l : List ByteArray) (c : D10) (o : D2) (hl : l.length ≤ 1048576) (hc : cost U10 c ≤ big) (ho : cost U2 o ≤ big) : F78 k l c o = some (newWorld k l c o) := by
  have hk' : 2097152 < k := hk
  unfold F78 newWorld
  rw [cache_I k hk c hc, origin_I k hk o ho, copyCache_I k hk c hc, copyOrigin_I k hk o ho]
  simp only [Option.bind_some]
  cases decide ((4 : Int) < (l.length : Int)) with
  | true => rfl
  | false =>
  cases cacheOk k c with
  | false => rfl
  | true =>
  cases originOk o with
  | false => rfl
  | true =>
  simp only [Bool.not_true, cond_false]
  refine iter_flatG (fun i x => (i, Z16.1, Z16.2.1, x, ())) l (fun n => [connNew n]) (aWorld l c o) (fun i hi rec => ?_) (fun rec => ?_) k (by omega)
  · have e1 : decide ((i : Int) < (l.length : Int)) = true := dT (by omega)
    have e2 : decide (0 ≤ (i : Int) ∧ (i : Int) < (l.length : Int)) = true := dT (by omega)
    simp only [e1, e2, cond_true, Int.toNat_natCast, getD_lt hi]
    rw [connNew_I]
    have hf := flat_len' l (fun n => [connNew n]) i hi
    have hf2 := conns_len l
    unfold conns at hf2
    simp only [List.length_singleton] at hf
    simp only [Option.bind_some, List.length_singleton]
    rw [dT (show ((l.take i).flatMap fun n => [connNew n]).length + 1 < 8589934592 by omega), cond_true, w64 (n := (i : Int) + 1) (by omega) (by omega)]
    rfl
  · rw [dF (show ¬ ((l.length : Int) < (l.length : Int)) by omega)]; rfl
end Go.Proofs.YtigbabjhcihmaaaGreatDoor.Fns
