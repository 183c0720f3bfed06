/- The program's Start puts together what the reference's does. -/
import Derived.Test.YtigbabjhcihmaaaGreatDoorMk
import Derived.Test.YtigbabjhcihmaaaGreatDoorNewWorlds
namespace Go.Proofs.YtigbabjhcihmaaaGreatDoor.Start
open Go Go.RowKit Go.Proofs Go.Proofs.YtigbabjhcihmaaaGreatDoor.Ev Go.Proofs.YtigbabjhcihmaaaGreatDoor.Pl Go.Proofs.YtigbabjhcihmaaaGreatDoor.Fns
set_option linter.unusedVariables false

theorem sum_bound {α : Type} {f : α → Nat} {c : Nat} : ∀ l : List α, (∀ x ∈ l, f x ≤ c) → (l.map f).sum ≤ l.length * c
  | [], _ => by simp
  | x :: l, h => by
    rw [List.map_cons, List.sum_cons, List.length_cons, Nat.add_mul]
    have h1 := h x (List.mem_cons_self ..)
    have h2 := sum_bound l fun y hy => h y (List.mem_cons_of_mem _ hy)
    omega

theorem field_small {f : D0} (h : fOk f = true) : cost U0 f ≤ 84 := by
  unfold fOk at h
  simp only [Bool.and_eq_true, decide_eq_true_eq] at h
  rw [field_cost]
  omega

theorem fields_small {l : List D0} (h : plainF l = true) (h6 : l.length ≤ 6) : cost (.slice U0) l ≤ 510 := by
  unfold plainF fieldsOk at h
  simp only [Bool.and_eq_true, List.all_eq_true] at h
  have := sum_bound (f := cost U0) (c := 84) l fun x hx => field_small (h.2.1 x hx)
  show l.length + (l.map (cost U0)).sum ≤ 510
  have : l.length * 84 ≤ 6 * 84 := Nat.mul_le_mul_right _ h6
  omega

theorem res_small {l : List D1} {i : Nat} (h : resOk l i = true) : cost U1 (l.getD i Z1) ≤ 590 := by
  unfold resOk uriOk at h
  simp only [Bool.and_eq_true, Bool.not_eq_true', decide_eq_true_eq, decide_eq_false_iff_not] at h
  have h1 := fields_small (l := (l.getD i Z1).2.2.2.2.2.2) h.1.1.2 (by omega)
  rw [res_cost]
  omega

theorem origin_small {l : List D1} (h : originOk l = true) : cost (.slice U1) l ≤ 4728 := by
  unfold originOk at h
  rw [Bool.and_eq_true, List.all_eq_true] at h
  have h8 := of_decide_eq_true h.2
  have := sum_bound (f := cost U1) (c := 590) l fun x hx => by
    obtain ⟨i, hi⟩ := List.getElem?_of_mem hx
    have hlt : i < l.length := by
      rcases Nat.lt_or_ge i l.length with q | q
      · exact q
      · rw [List.getElem?_eq_none q] at hi; cases hi
    have := res_small (h.1 i (List.mem_range.mpr hlt))
    rw [List.getD_eq_getElem?_getD, hi] at this
    exact this
  show l.length + (l.map (cost U1)).sum ≤ 4728
  have h8' : l.length ≤ 8 := by omega
  have : l.length * 590 ≤ 8 * 590 := Nat.mul_le_mul_right _ h8'
  omega

theorem conn_small (n : ByteArray) : cost U13 (connNew n) ≤ 1500 := by
  have h : ∃ A B : D13, (∀ k, F170 k n = bif decide ((1500 : Int) < (n.size : Int)) then some A else some B) ∧ cost U13 A = 0 ∧ cost U13 B = 0 + (n.size + 0) := ⟨_, _, fun k => rfl, by kernel_rfl, by kernel_rfl⟩
  obtain ⟨A, B, h1, h2, h3⟩ := h
  unfold connNew
  rw [h1 0]
  cases hd : decide ((1500 : Int) < (n.size : Int)) with
  | true => show cost U13 A ≤ 1500; omega
  | false =>
    have := of_decide_eq_false hd
    show cost U13 B ≤ 1500; omega

theorem conns_small {l : List ByteArray} (h : l.length ≤ 4) : cost (.slice U13) (conns l) ≤ 6004 := by
  unfold conns
  rw [cost_flat (e := U13)]
  have := sum_bound (f := fun n => cost (.slice U13) [connNew n]) (c := 1501) l fun n _ => by
    have := conn_small n
    have h1 : cost (.slice U13) [connNew n] = 1 + (cost U13 (connNew n) + 0) := rfl
    omega
  have : l.length * 1501 ≤ 4 * 1501 := Nat.mul_le_mul_right _ h
  omega

/-- a new cache's shard -/
def shard (a b : Int) : D8 := (a, b, ([] : List D7), Z8.2.2.2)
def sizes (a b : Int) : Bool := (decide (1 ≤ a) && decide (a ≤ 8)) && (decide (0 ≤ b) && decide (b ≤ 500))
def cacheNew (n a b : Int) : D10 := bif (decide (1 ≤ n) && decide (n ≤ 4)) && sizes a b then (List.replicate n.toNat (shard a b), []) else ([], [])

theorem cacheNew_cost (n a b : Int) : cost U10 (cacheNew n a b) ≤ 4 := by
  unfold cacheNew
  cases hd : (decide (1 ≤ n) && decide (n ≤ 4)) && sizes a b with
  | false => show cost U10 ([], []) ≤ 4; exact Nat.le_trans (Nat.le_of_eq (by kernel_rfl)) (Nat.zero_le _)
  | true =>
    simp only [Bool.and_eq_true, decide_eq_true_eq] at hd
    have h0 : ∀ l : List D8, cost U10 (l, ([] : List D9)) = (l.length + (l.map (cost U8)).sum) + 0 := fun l => rfl
    have h1 : cost U8 (shard a b) = 0 := by kernel_rfl
    simp only [cond_true]
    rw [h0, List.map_replicate, h1, List.length_replicate]
    have : ∀ m : Nat, (List.replicate m 0).sum = 0 := fun m => by induction m with | zero => rfl | succ m ih => rw [List.replicate_succ, List.sum_cons, ih]
    rw [this]
    omega

theorem shard_S (k : Nat) (a b : Int) : F167 k a b = some (bif sizes a b then shard a b else (Z8.1, Z8.2.1, ([] : List D7), Z8.2.2.2)) := by
  unfold F167 sizes
  rw [in_S, in_S]
  simp only [Option.bind_some]
  cases (decide (1 ≤ a) && decide (a ≤ 8)) <;> cases (decide (0 ≤ b) && decide (b ≤ 500)) <;> rfl

theorem cache_new_S (k : Nat) (hk : fuel < k) (n a b : Int) : F73 k n a b = some (cacheNew n a b) := by
  have hk' : 2097152 < k := hk
  unfold F73 cacheNew
  rw [in_S, shard_S]
  simp only [Option.bind_some]
  cases hn : (decide (1 ≤ n) && decide (n ≤ 4)) with
  | false => rfl
  | true =>
  simp only [Bool.not_true, cond_false, Bool.true_and]
  cases hs : sizes a b with
  | false => rfl
  | true =>
  simp only [Bool.and_eq_true, decide_eq_true_eq] at hn
  have ha : ¬ a = 0 := by
    unfold sizes at hs
    simp only [Bool.and_eq_true, decide_eq_true_eq] at hs
    omega
  simp only [cond_true]
  rw [show decide ((shard a b).1 = 0) = false from dF ha]
  simp only [cond_false]
  have hrep : ∀ m : Nat, ((List.replicate m ()).flatMap fun _ => [shard a b]) = List.replicate m (shard a b) := fun m => by
    induction m with
    | zero => rfl
    | succ m ih => rw [List.replicate_succ, List.flatMap_cons, ih, List.replicate_succ]; rfl
  refine iter_flatG (fun i x => (i, x, ())) (List.replicate n.toNat ()) (fun _ => [shard a b]) (List.replicate n.toNat (shard a b), ([] : List D9)) (fun i hi rec => ?_) (fun rec => ?_) k (by rw [List.length_replicate]; omega)
  · rw [List.length_replicate] at hi
    have e1 : decide ((i : Int) < n) = true := dT (by omega)
    have hlen : (((List.replicate n.toNat ()).take i).flatMap fun _ => [shard a b]).length = i := by
      rw [List.take_replicate, hrep, List.length_replicate]; omega
    simp only [e1, cond_true, List.length_singleton, hlen]
    rw [dT (show i + 1 < most by show i + 1 < 8589934592; omega), cond_true, w64 (n := (i : Int) + 1) (by omega) (by omega)]
    rfl
  · rw [List.length_replicate, hrep]
    rw [dF (show ¬ ((n.toNat : Int) < n) by omega)]
    rfl

theorem cache_new_I (k : Nat) (n a b : Int) : F79 k n a b = some (cacheNew n a b) := by
  unfold F79 F179 F177 cacheNew
  rw [in_I, in_I, in_I]
  simp only [Option.bind_some]
  cases hn : (decide (1 ≤ n) && decide (n ≤ 4)) with
  | false => rfl
  | true =>
  simp only [Bool.not_true, cond_false, Bool.true_and]
  unfold sizes
  cases h1 : (decide (1 ≤ a) && decide (a ≤ 8)) with
  | false => rfl
  | true =>
  cases h2 : (decide (0 ≤ b) && decide (b ≤ 500)) with
  | false => rfl
  | true =>
  simp only [Bool.and_eq_true, decide_eq_true_eq] at hn
  simp only [cond_true, Option.bind_some, Bool.not_true, cond_false, Bool.and_self]
  unfold semRepeat
  rw [dT (show ([_] : List D8).length = 1 from rfl), dT hn.1, dT (show n ≤ 1000 by omega)]
  rfl

theorem same (k : Nat) (hk : fuel < k) (s : D4) (_ : Ty.Ok U4 s) (hc : cost U4 s ≤ big) : ∃ w, cost U16 w ≤ big ∧ F24 k s = some w ∧ F26 k s = some w := by
  have hb : big = 1048576 := rfl
  have hcs : cost U4 s = cost (.slice .str) s.1 + (0 + (0 + (0 + (cost U2 s.2.2.2.2.1 + cost (.slice U3) s.2.2.2.2.2)))) := rfl
  have hlen := cost_len (e := .str) s.1
  have hcn := cacheNew_cost s.2.1 s.2.2.1 s.2.2.2.1
  unfold F24 F26
  rw [cache_new_S k hk, cache_new_I]
  simp only [Option.bind_some]
  rw [new_S k hk s.1 _ s.2.2.2.2.1 (by omega) (by omega) (by omega), new_I k hk s.1 _ s.2.2.2.2.1 (by omega) (by omega) (by omega)]
  refine ⟨_, ?_, rfl, rfl⟩
  have h0 := noWorld_cost
  have h1 : cost U16 (aWorld s.1 (cacheNew s.2.1 s.2.2.1 s.2.2.2.1) s.2.2.2.2.1) = 0 + (0 + (cost (.slice U13) (conns s.1) + (cost U10 (cacheNew s.2.1 s.2.2.1 s.2.2.2.1) + (0 + (cost U2 s.2.2.2.2.1 + 0))))) := rfl
  unfold newWorld
  by_cases g : (4 : Int) < (s.1.length : Int)
  · rw [dT g, cond_true]; omega
  · rw [dF g, cond_false]
    cases cacheOk k (cacheNew s.2.1 s.2.2.1 s.2.2.2.1) with
    | false => simp only [Bool.not_false, cond_true]; omega
    | true =>
    cases ho : originOk s.2.2.2.2.1 with
    | false => simp only [Bool.not_true, Bool.not_false, cond_true, cond_false]; omega
    | true =>
      simp only [Bool.not_true, cond_false]
      have h2 := conns_small (l := s.1) (by omega)
      have h3 : cost U2 s.2.2.2.2.1 ≤ 4728 := origin_small ho
      omega
end Go.Proofs.YtigbabjhcihmaaaGreatDoor.Start
