/- Plain laws for the families of functions that every exact law uses: how big data is, copies, comparisons; laws of loops. No program is spoken of. -/
import Derived.Test.YtcaknaddeblecaaGreatDoorEvTy
namespace Go.Proofs.YtcaknaddeblecaaGreatDoor.Pl
open Go Go.RowKit Go.Proofs.YtcaknaddeblecaaGreatDoor.Ev
set_option linter.unusedVariables false
set_option linter.unusedSimpArgs false

abbrev big : Nat := 1048576
abbrev fuel : Nat := 2097152

/-- how big data is: lengths of texts and of rows, at every depth -/
def cost : (t : Ty) → t.den → Nat
  | .str, s => s.size
  | .slice e, l => l.length + (l.map (cost e)).sum
  | .pair a b, x => cost a x.1 + cost b x.2
  | .struct b, x => cost b x
  | .int _, _ => 0
  | .bool, _ => 0
  | .err, _ => 0

theorem cost_mem {e : Ty} {l : List e.den} {x : e.den} (h : x ∈ l) : cost e x ≤ cost (.slice e) l := by
  show cost e x ≤ l.length + (l.map (cost e)).sum
  have : cost e x ≤ (l.map (cost e)).sum := by
    induction l with
    | nil => cases h
    | cons y l ih =>
      rw [List.map_cons, List.sum_cons]
      rcases List.mem_cons.mp h with rfl | h
      · omega
      · have := ih h; omega
  omega
theorem cost_len {e : Ty} (l : List e.den) : l.length ≤ cost (.slice e) l := Nat.le_add_right _ _

theorem getD_mem {α : Type} {l : List α} {i : Nat} {z : α} (h : i < l.length) : l.getD i z ∈ l := by
  rw [List.getD_eq_getElem?_getD, List.getElem?_eq_getElem h]
  exact List.getElem_mem h
theorem getD_lt {α : Type} {l : List α} {i : Nat} {z : α} (h : i < l.length) : l.getD i z = l[i] := by
  rw [List.getD_eq_getElem?_getD, List.getElem?_eq_getElem h]; rfl

/-- a loop that counts up -/
theorem iter_count {σ ρ : Type} {step : (σ → Option ρ) → σ → Option ρ} (I : Nat → σ → Prop) (R : ρ → Prop) (n : Nat)
    (hstep : ∀ i x rec, I i x → i < n → (∀ y, I (i + 1) y → ∃ r, rec y = some r ∧ R r) → ∃ r, step rec x = some r ∧ R r) (hend : ∀ x rec, I n x → ∃ r, step rec x = some r ∧ R r) :
    ∀ (k i : Nat) (x : σ), I i x → i ≤ n → n - i < k → ∃ r, iter step k x = some r ∧ R r
  | 0, i, x, h, hi, hk => by omega
  | k + 1, i, x, h, hi, hk => by
    by_cases e : i = n
    · subst e; exact hend x _ h
    · exact hstep i x _ h (by omega) fun y hy => iter_count I R n hstep hend k (i + 1) y hy (by omega) (by omega)

/-- the same, for a wanted result -/
theorem iter_to {σ ρ : Type} {step : (σ → Option ρ) → σ → Option ρ} (I : Nat → σ → Prop) (r : ρ) (n : Nat)
    (hstep : ∀ i x rec, I i x → i < n → (∀ y, I (i + 1) y → rec y = some r) → step rec x = some r) (hend : ∀ x rec, I n x → step rec x = some r) (k : Nat) (x : σ) (h : I 0 x) (hk : n < k) :
    iter step k x = some r := by
  obtain ⟨q, h1, h2⟩ := iter_count (ρ := ρ) I (fun q => q = r) n (fun i x rec hI hi hrec => ⟨r, hstep i x rec hI hi fun y hy => by obtain ⟨q, h1, h2⟩ := hrec y hy; rw [h1, h2], rfl⟩) (fun x rec hI => ⟨r, hend x rec hI, rfl⟩) k 0 x h (Nat.zero_le _) (by omega)
  rw [h1, h2]

/-- the same, for a result of any kind (also none) -/
theorem iter_any {σ ρ : Type} {step : (σ → Option ρ) → σ → Option ρ} (I : Nat → σ → Prop) (r : Option ρ) (n : Nat)
    (hstep : ∀ i x rec, I i x → i < n → (∀ y, I (i + 1) y → rec y = r) → step rec x = r) (hend : ∀ x rec, I n x → step rec x = r) :
    ∀ (k i : Nat) (x : σ), I i x → i ≤ n → n - i < k → iter step k x = r
  | 0, i, x, h, hi, hk => by omega
  | k + 1, i, x, h, hi, hk => by
    by_cases e : i = n
    · subst e; exact hend x _ h
    · exact hstep i x _ h (by omega) fun y hy => iter_any I r n hstep hend k (i + 1) y hy (by omega) (by omega)

/-- a loop that asks of each element -/
theorem iter_list {α ρ : Type} {step : (Int × Unit → Option ρ) → Int × Unit → Option ρ} (l : List α) (q : α → Bool) (A B : Option ρ)
    (hs : ∀ (i : Nat) (h : i < l.length) rec, step rec ((i : Int), ()) = bif q l[i] then rec (((i + 1 : Nat) : Int), ()) else A) (he : ∀ rec, step rec ((l.length : Int), ()) = B) (k : Nat) (hk : l.length < k) :
    iter step k ((0 : Int), ()) = bif l.all q then B else A := by
  suffices h : ∀ (k i : Nat), i ≤ l.length → l.length - i < k → iter step k ((i : Int), ()) = bif (l.drop i).all q then B else A from h k 0 (Nat.zero_le _) (by omega)
  intro k
  induction k with
  | zero => intro i hi hk; omega
  | succ k ih =>
    intro i hi hk
    simp only [iter]
    by_cases e : i = l.length
    · subst e; rw [he, List.drop_length]; rfl
    · have hlt : i < l.length := by omega
      rw [hs i hlt, List.drop_eq_getElem_cons hlt, List.all_cons]
      cases q l[i] with
      | false => rfl
      | true => simp only [cond_true, Bool.true_and]; exact ih (i + 1) (by omega) (by omega)

theorem w64 {n : Int} (h0 : -9223372036854775808 ≤ n) (h : n < 9223372036854775808) : wrap64 n = n := by unfold wrap64; omega

theorem dT {p : Prop} [Decidable p] (h : p) : decide p = true := decide_eq_true h
theorem dF {p : Prop} [Decidable p] (h : ¬ p) : decide p = false := decide_eq_false h

/-! ### how big -/
def szOk (t : Ty) (F : Nat → t.den → Int → Option Int) : Prop :=
  ∀ k x (left : Int), fuel < k → t.Ok x → 0 ≤ left → left ≤ big → F k x left = some (if (cost t x : Int) ≤ left then left - cost t x else -1)

theorem sum_take_le (l : List Nat) (i : Nat) : (l.take i).sum ≤ l.sum := by
  have h := List.take_append_drop i l
  have : l.sum = (l.take i).sum + (l.drop i).sum := by rw [← List.sum_append_nat, h]
  omega

theorem sum_take_succ (l : List Nat) (i : Nat) (h : i < l.length) : (l.take (i + 1)).sum = (l.take i).sum + l[i] := by
  rw [List.take_add_one, List.getElem?_eq_getElem h, Option.toList_some, List.sum_append_nat]; simp

theorem sz_list {e : Ty} {z : e.den} {G : Nat → e.den → Int → Option Int} (hG : szOk e G) : szOk (.slice e) fun k a0 a1 =>
    (bif (decide ((wrap64 (a1 - (a0.length : Int))) < (0 : Int))) then some (-1 : Int) else (iter (σ := Int × Int × Unit) (fun rec5 x4 => (bif (decide (x4.2.1 < (a0.length : Int))) then (bif (decide (0 ≤ x4.2.1 ∧ x4.2.1 < (a0.length : Int))) then ((G k (a0.getD x4.2.1.toNat z) x4.1).bind fun r6 => (bif (decide (r6 < (0 : Int))) then some (-1 : Int) else (rec5 (r6, (wrap64 (x4.2.1 + (1 : Int))), ())))) else none) else some x4.1)) k ((wrap64 (a1 - (a0.length : Int))), (0 : Int), ()))) := by
  intro k l left hk hok h0 hl
  have hlen : l.length ≤ 9223372036854775807 := hok.1
  have hb : left ≤ 1048576 := hl
  have hk' : 2097152 < k := hk
  have hc : cost (.slice e) l = l.length + (l.map (cost e)).sum := rfl
  show cond _ _ _ = _
  rw [hc, w64 (n := left - (l.length : Int)) (by omega) (by omega)]
  by_cases h : left - (l.length : Int) < 0
  · rw [dT h, if_neg (by omega)]; rfl
  · rw [dF h]
    simp only [cond_false]
    refine iter_to (fun i x => x.2.1 = (i : Int) ∧ x.1 = left - l.length - (((l.map (cost e)).take i).sum : Nat) ∧ 0 ≤ x.1) _ l.length ?_ ?_ k _ ⟨rfl, by simp, by show (0 : Int) ≤ left - l.length; omega⟩ (by omega)
    · rintro i ⟨xl, xi, _⟩ rec ⟨h1, h2, h3⟩ hi hrec
      simp only at h1 h2 h3
      subst h1
      have e1 : decide ((i : Int) < (l.length : Int)) = true := dT (by omega)
      have e2 : decide (0 ≤ (i : Int) ∧ (i : Int) < (l.length : Int)) = true := dT (by omega)
      simp only [e1, e2, cond_true, Int.toNat_natCast]
      rw [hG k _ xl hk (hok.2 _ (getD_mem hi)) h3 (by omega), getD_lt hi]
      have hs := sum_take_succ (l.map (cost e)) i (by simpa using hi)
      rw [List.getElem_map] at hs
      have ht := sum_take_le (l.map (cost e)) (i + 1)
      simp only [Option.bind_some]
      by_cases hle : (cost e l[i] : Int) ≤ xl
      · rw [if_pos hle, dF (by omega)]
        simp only [cond_false]
        rw [w64 (n := (i : Int) + 1) (by omega) (by omega)]
        exact hrec _ ⟨by simp, by simp only; omega, by simp only; omega⟩
      · rw [if_neg hle, dT (by omega), if_neg (by omega)]; rfl
    · rintro ⟨xl, xi, _⟩ rec ⟨h1, h2, h3⟩
      simp only at h1 h2 h3
      subst h1
      have e1 : decide ((l.length : Int) < (l.length : Int)) = false := dF (by omega)
      have ht : (l.map (cost e)).take l.length = l.map (cost e) := List.take_of_length_le (by simp)
      rw [ht] at h2
      simp only [e1, cond_false]
      rw [if_pos (by omega), h2]
      congr 1; omega

theorem sz_strs {z : ByteArray} : szOk (.slice .str) fun k a0 a1 =>
    (bif (decide ((wrap64 (a1 - (a0.length : Int))) < (0 : Int))) then some (-1 : Int) else (iter (σ := Int × Int × Unit) (fun rec5 x4 => (bif (decide (x4.2.1 < (a0.length : Int))) then (bif (decide (0 ≤ x4.2.1 ∧ x4.2.1 < (a0.length : Int))) then (bif (decide ((wrap64 (x4.1 - ((a0.getD x4.2.1.toNat z).size : Int))) < (0 : Int))) then some (-1 : Int) else (rec5 ((wrap64 (x4.1 - ((a0.getD x4.2.1.toNat z).size : Int))), (wrap64 (x4.2.1 + (1 : Int))), ()))) else none) else some x4.1)) k ((wrap64 (a1 - (a0.length : Int))), (0 : Int), ()))) := by
  intro k l left hk hok h0 hl
  have hlen : l.length ≤ 9223372036854775807 := hok.1
  have hb : left ≤ 1048576 := hl
  have hk' : 2097152 < k := hk
  have hc : cost (.slice .str) l = l.length + (l.map (cost .str)).sum := rfl
  show cond _ _ _ = _
  rw [hc, w64 (n := left - (l.length : Int)) (by omega) (by omega)]
  by_cases h : left - (l.length : Int) < 0
  · rw [dT h, if_neg (by omega)]; rfl
  · rw [dF h]
    simp only [cond_false]
    refine iter_to (fun i x => x.2.1 = (i : Int) ∧ x.1 = left - l.length - (((l.map (cost .str)).take i).sum : Nat) ∧ 0 ≤ x.1) _ l.length ?_ ?_ k _ ⟨rfl, by simp, by show (0 : Int) ≤ left - l.length; omega⟩ (by omega)
    · rintro i ⟨xl, xi, _⟩ rec ⟨h1, h2, h3⟩ hi hrec
      simp only at h1 h2 h3
      subst h1
      have e1 : decide ((i : Int) < (l.length : Int)) = true := dT (by omega)
      have e2 : decide (0 ≤ (i : Int) ∧ (i : Int) < (l.length : Int)) = true := dT (by omega)
      have hs := sum_take_succ (l.map (cost .str)) i (by simpa using hi)
      rw [List.getElem_map] at hs
      have ht := sum_take_le (l.map (cost .str)) (i + 1)
      have hsz : (l.getD i z).size ≤ 9223372036854775807 := hok.2 _ (getD_mem hi)
      have hco : cost .str l[i] = (l.getD i z).size := by rw [getD_lt hi]; rfl
      simp only [e1, e2, cond_true, Int.toNat_natCast]
      have hw : wrap64 (xl - ((l.getD i z).size : Int)) = xl - ((l.getD i z).size : Int) := w64 (by omega) (by omega)
      by_cases hle : ((l.getD i z).size : Int) ≤ xl
      · have hd : decide (wrap64 (xl - ((l.getD i z).size : Int)) < 0) = false := dF (by rw [hw]; omega)
        rw [hd, cond_false, hw, w64 (n := (i : Int) + 1) (by omega) (by omega)]
        exact hrec _ ⟨by simp, by simp only; omega, by simp only; omega⟩
      · have hd : decide (wrap64 (xl - ((l.getD i z).size : Int)) < 0) = true := dT (by rw [hw]; omega)
        rw [hd, if_neg (by omega)]; rfl
    · rintro ⟨xl, xi, _⟩ rec ⟨h1, h2, h3⟩
      simp only at h1 h2 h3
      subst h1
      have e1 : decide ((l.length : Int) < (l.length : Int)) = false := dF (by omega)
      have ht : (l.map (cost .str)).take l.length = l.map (cost .str) := List.take_of_length_le (by simp)
      rw [ht] at h2
      simp only [e1, cond_false]
      rw [if_pos (by omega), h2]
      congr 1; omega

/-- a text's part of a struct -/
theorem sz_str {n : Nat} {L C : Int} {K : Option Int} (hn : n ≤ maxLen) (h0 : 0 ≤ L) (hl : L ≤ big) (hC : 0 ≤ C)
    (rest : ∀ L' : Int, wrap64 (L - (n : Int)) = L' → 0 ≤ L' → L' ≤ big → K = some (if C ≤ L' then L' - C else -1)) :
    (bif decide (wrap64 (L - (n : Int)) < 0) then some (-1) else K) = some (if (n : Int) + C ≤ L then L - (n + C) else -1) := by
  have hb : L ≤ 1048576 := hl
  have hn' : n ≤ 9223372036854775807 := hn
  have hw : wrap64 (L - (n : Int)) = L - n := w64 (by omega) (by omega)
  by_cases h : L - (n : Int) < 0
  · rw [hw, dT h, if_neg (by omega)]; rfl
  · rw [rest (L - n) hw (by omega) (by show L - (n : Int) ≤ 1048576; omega), hw, dF h, cond_false]
    by_cases h2 : C ≤ L - n
    · rw [if_pos h2, if_pos (by omega)]; congr 1; omega
    · rw [if_neg h2, if_neg (by omega)]

/-- another one's part -/
theorem sz_call {n : Nat} {L C : Int} {G : Option Int} {K : Int → Option Int} (hG : G = some (if (n : Int) ≤ L then L - n else -1)) (h0 : 0 ≤ L) (hl : L ≤ big) (hC : 0 ≤ C)
    (rest : ∀ L' : Int, 0 ≤ L' → L' ≤ big → K L' = some (if C ≤ L' then L' - C else -1)) :
    (G.bind fun r => bif decide (r < 0) then some (-1) else K r) = some (if (n : Int) + C ≤ L then L - (n + C) else -1) := by
  have hb : L ≤ 1048576 := hl
  rw [hG]
  simp only [Option.bind_some]
  by_cases h : (n : Int) ≤ L
  · rw [if_pos h, dF (show ¬ (L - (n : Int)) < 0 by omega), cond_false, rest (L - n) (by omega) (by show L - (n : Int) ≤ 1048576; omega)]
    by_cases h2 : C ≤ L - n
    · rw [if_pos h2, if_pos (by omega)]; congr 1; omega
    · rw [if_neg h2, if_neg (by omega)]
  · rw [if_neg h, dT (show (-1 : Int) < 0 by omega), if_neg (by omega)]; rfl

theorem sz_end {L : Int} (h0 : 0 ≤ L) : some L = some (if (0 : Int) ≤ L then L - 0 else -1) := by rw [if_pos h0]; congr 1; omega

/-! ### copies -/
def toOk (t : Ty) (F : Nat → t.den → Option t.den) : Prop := ∀ k x, fuel < k → cost t x ≤ big → F k x = some x

theorem to_list {e : Ty} {z : e.den} {G : Nat → e.den → Option e.den} (hG : toOk e G) : toOk (.slice e) fun k a0 =>
    (bif (decide (0 ≤ (a0.length : Int) ∧ (a0.length : Int) = (a0.length : Int) ∧ (a0.length : Int) < (most : Int))) then (iter (σ := Int × List e.den × Unit) (fun rec5 x4 => (bif (decide (x4.1 < (a0.length : Int))) then (bif (decide (0 ≤ x4.1 ∧ x4.1 < (a0.length : Int))) then ((G k (a0.getD x4.1.toNat z)).bind fun r6 => (bif (decide (0 ≤ x4.1 ∧ x4.1 < (x4.2.1.length : Int))) then (rec5 ((wrap64 (x4.1 + (1 : Int))), (x4.2.1.set x4.1.toNat r6), ())) else none)) else none) else some x4.2.1)) k ((0 : Int), (List.replicate (a0.length : Int).toNat z), ())) else none) := by
  intro k l hk hl
  have hlen : l.length ≤ 1048576 := Nat.le_trans (cost_len l) hl
  show cond _ _ _ = _
  have hk' : 2097152 < k := hk
  rw [dT (show 0 ≤ (l.length : Int) ∧ (l.length : Int) = (l.length : Int) ∧ (l.length : Int) < (most : Int) by unfold most; omega)]
  simp only [cond_true]
  refine iter_to (fun i x => x.1 = (i : Int) ∧ x.2.1.length = l.length ∧ ∀ j, j < i → x.2.1[j]? = l[j]?) _ l.length ?_ ?_ k _ ⟨rfl, by simp, fun j hj => by omega⟩ (by omega)
  · rintro i ⟨xi, xr, _⟩ rec ⟨h1, h2, h3⟩ hi hrec
    simp only at h1 h2 h3
    subst h1
    have e1 : decide ((i : Int) < (l.length : Int)) = true := dT (by omega)
    have e2 : decide (0 ≤ (i : Int) ∧ (i : Int) < (l.length : Int)) = true := dT (by omega)
    have e3 : decide (0 ≤ (i : Int) ∧ (i : Int) < (xr.length : Int)) = true := dT (by omega)
    simp only [e1, e2, cond_true, e3, Int.toNat_natCast]
    rw [hG k _ hk (Nat.le_trans (cost_mem (getD_mem hi)) hl), Option.bind_some, w64 (n := (i : Int) + 1) (by omega) (by omega)]
    refine hrec _ ⟨by simp, by simpa using h2, fun j hj => ?_⟩
    simp only
    rw [List.getElem?_set]
    by_cases e : i = j
    · subst e
      rw [if_pos rfl, if_pos (by omega), getD_lt hi, List.getElem?_eq_getElem hi]
    · rw [if_neg e]
      exact h3 j (by omega)
  · rintro ⟨xi, xr, _⟩ rec ⟨h1, h2, h3⟩
    simp only at h1 h2 h3
    subst h1
    rw [dF (show ¬ (l.length : Int) < (l.length : Int) by omega)]
    simp only [cond_false]
    congr 1
    apply List.ext_getElem?
    intro j
    rcases Nat.lt_or_ge j l.length with q | q
    · exact h3 j q
    · rw [List.getElem?_eq_none (by omega), List.getElem?_eq_none (by omega)]

theorem to_list0 {e : Ty} {z : e.den} : toOk (.slice e) fun k a0 =>
    (bif (decide (0 ≤ (a0.length : Int) ∧ (a0.length : Int) = (a0.length : Int) ∧ (a0.length : Int) < (most : Int))) then (iter (σ := Int × List e.den × Unit) (fun rec5 x4 => (bif (decide (x4.1 < (a0.length : Int))) then (bif (decide (0 ≤ x4.1 ∧ x4.1 < (a0.length : Int))) then (bif (decide (0 ≤ x4.1 ∧ x4.1 < (x4.2.1.length : Int))) then (rec5 ((wrap64 (x4.1 + (1 : Int))), (x4.2.1.set x4.1.toNat (a0.getD x4.1.toNat z)), ())) else none) else none) else some x4.2.1)) k ((0 : Int), (List.replicate (a0.length : Int).toNat z), ())) else none) :=
  to_list (G := fun _ x => some x) fun _ _ _ _ => rfl

/-! ### comparisons -/
def eqOk (t : Ty) (F : Nat → t.den → t.den → Option Bool) : Prop := ∀ k x, fuel < k → cost t x ≤ big → F k x x = some true

theorem eq_list {e : Ty} {z : e.den} {G : Nat → e.den → e.den → Option Bool} (hG : eqOk e G) : eqOk (.slice e) fun k a0 a1 =>
    (bif (!decide ((a0.length : Int) = (a1.length : Int))) then some false else (iter (σ := Int × Unit) (fun rec5 x4 => (bif (decide (x4.1 < (a0.length : Int))) then (bif (decide (0 ≤ x4.1 ∧ x4.1 < (a0.length : Int))) then (bif (decide (0 ≤ x4.1 ∧ x4.1 < (a1.length : Int))) then ((G k (a0.getD x4.1.toNat z) (a1.getD x4.1.toNat z)).bind fun r6 => (bif (!r6) then some false else (rec5 ((wrap64 (x4.1 + (1 : Int))), ())))) else none) else none) else some true)) k ((0 : Int), ()))) := by
  intro k l hk hl
  have hlen : l.length ≤ 1048576 := Nat.le_trans (cost_len l) hl
  show cond _ _ _ = _
  have hk' : 2097152 < k := hk
  rw [dT (show (l.length : Int) = (l.length : Int) from rfl)]
  simp only [Bool.not_true, cond_false]
  refine iter_to (fun i x => x.1 = (i : Int)) _ l.length ?_ ?_ k _ rfl (by omega)
  · rintro i ⟨xi, _⟩ rec h1 hi hrec
    simp only at h1
    subst h1
    have e1 : decide ((i : Int) < (l.length : Int)) = true := dT (by omega)
    have e2 : decide (0 ≤ (i : Int) ∧ (i : Int) < (l.length : Int)) = true := dT (by omega)
    simp only [e1, e2, cond_true, Int.toNat_natCast]
    rw [hG k _ hk (Nat.le_trans (cost_mem (getD_mem hi)) hl)]
    simp only [Option.bind_some, Bool.not_true, cond_false]
    rw [w64 (n := (i : Int) + 1) (by omega) (by omega)]
    exact hrec _ (by simp)
  · rintro ⟨xi, _⟩ rec h1
    simp only at h1
    subst h1
    rw [dF (show ¬ (l.length : Int) < (l.length : Int) by omega)]
    rfl

theorem eq_strs {z : ByteArray} : eqOk (.slice .str) fun k a0 a1 =>
    (bif (!decide ((a0.length : Int) = (a1.length : Int))) then some false else (iter (σ := Int × Unit) (fun rec5 x4 => (bif (decide (x4.1 < (a0.length : Int))) then (bif (decide (0 ≤ x4.1 ∧ x4.1 < (a0.length : Int))) then (bif (decide (0 ≤ x4.1 ∧ x4.1 < (a1.length : Int))) then (bif (!decide (a0.getD x4.1.toNat z = a1.getD x4.1.toNat z)) then some false else (rec5 ((wrap64 (x4.1 + (1 : Int))), ()))) else none) else none) else some true)) k ((0 : Int), ()))) :=
  eq_list (e := .str) (z := z) (G := fun _ a b => some (decide (a = b))) fun _ _ _ _ => by simp

/-- a comparison inside another -/
theorem eq_call {G : Option Bool} {K : Option Bool} (h : G = some true) : (G.bind fun r => bif (!r) then some false else K) = K := by rw [h]; rfl

/-! ### a law's first lines -/
theorem law_sz {n : Nat} {L : Int} {G : Option Int} {K : Int → Option Bool} (hG : G = some (if (n : Int) ≤ L then L - n else -1)) (h0 : 0 ≤ L) (hl : L ≤ big)
    (rest : ∀ L' : Int, 0 ≤ L' → L' ≤ big → n ≤ big → K L' = some true) : (G.bind fun r => bif decide (r < 0) then some true else K r) = some true := by
  have hb : L ≤ 1048576 := hl
  rw [hG]
  simp only [Option.bind_some]
  by_cases h : (n : Int) ≤ L
  · rw [if_pos h, dF (show ¬ (L - (n : Int)) < 0 by omega), cond_false]
    exact rest _ (by omega) (by show L - (n : Int) ≤ 1048576; omega) (by show n ≤ 1048576; omega)
  · rw [if_neg h, dT (show (-1 : Int) < 0 by omega)]; rfl

theorem law_str {n : Nat} {L : Int} {K : Option Bool} (hn : n ≤ maxLen) (h0 : 0 ≤ L) (hl : L ≤ big)
    (rest : ∀ L' : Int, wrap64 (L - (n : Int)) = L' → 0 ≤ L' → L' ≤ big → n ≤ big → K = some true) : (bif decide (wrap64 (L - (n : Int)) < 0) then some true else K) = some true := by
  have hb : L ≤ 1048576 := hl
  have hn' : n ≤ 9223372036854775807 := hn
  have hw : wrap64 (L - (n : Int)) = L - n := w64 (by omega) (by omega)
  by_cases h : L - (n : Int) < 0
  · rw [hw, dT h]; rfl
  · rw [rest (L - n) hw (by omega) (by show L - (n : Int) ≤ 1048576; omega) (by show n ≤ 1048576; omega)]; cases decide (wrap64 (L - (n : Int)) < 0) <;> rfl
end Go.Proofs.YtcaknaddeblecaaGreatDoor.Pl
