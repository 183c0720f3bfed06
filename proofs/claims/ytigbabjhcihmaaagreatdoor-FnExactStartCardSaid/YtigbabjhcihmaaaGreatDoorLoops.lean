/- Loops that put together a row. -/
import Derived.Test.YtigbabjhcihmaaaGreatDoorEv6
namespace Go.Proofs.YtigbabjhcihmaaaGreatDoor.Pl
open Go Go.RowKit Go.Proofs.YtigbabjhcihmaaaGreatDoor.Ev
set_option linter.unusedVariables false
set_option linter.unusedSimpArgs false

theorem iter_flat {α β ρ : Type} {step : (Int × List β × Unit → Option ρ) → Int × List β × Unit → Option ρ} (l : List α) (g : α → List β) (R : ρ)
    (hs : ∀ (i : Nat) (h : i < l.length) (rec : Int × List β × Unit → Option ρ), step rec ((i : Int), (l.take i).flatMap g, ()) = rec (((i + 1 : Nat) : Int), (l.take i).flatMap g ++ g l[i], ()))
    (he : ∀ rec : Int × List β × Unit → Option ρ, step rec ((l.length : Int), l.flatMap g, ()) = some R) (k : Nat) (hk : l.length < k) : iter step k ((0 : Int), ([] : List β), ()) = some R := by
  suffices h : ∀ (k i : Nat), i ≤ l.length → l.length - i < k → iter step k ((i : Int), (l.take i).flatMap g, ()) = some R from h k 0 (Nat.zero_le _) (by omega)
  intro k
  induction k with
  | zero => intro i hi hk; omega
  | succ k ih =>
    intro i hi hk
    simp only [iter]
    by_cases e : i = l.length
    · subst e; rw [List.take_length]; exact he _
    · have hlt : i < l.length := by omega
      rw [hs i hlt]
      have h1 : (l.take i).flatMap g ++ g l[i] = (l.take (i + 1)).flatMap g := by rw [List.take_succ_eq_append_getElem hlt, List.flatMap_append, List.flatMap_cons, List.flatMap_nil, List.append_nil]
      rw [h1]
      exact ih (i + 1) (by omega) (by omega)

theorem flat_self {α : Type} (l : List α) : (l.flatMap fun x => [x]) = l := by
  induction l with
  | nil => rfl
  | cons x l ih => rw [List.flatMap_cons, ih]; rfl

theorem flat_len {α β : Type} (l : List α) (g : α → List β) (i : Nat) : ((l.take i).flatMap g).length ≤ (l.flatMap g).length := by
  have : l.flatMap g = (l.take i).flatMap g ++ (l.drop i).flatMap g := by rw [← List.flatMap_append, List.take_append_drop]
  rw [this, List.length_append]; omega
theorem flat_len' {α β : Type} (l : List α) (g : α → List β) (i : Nat) (h : i < l.length) : ((l.take i).flatMap g).length + (g l[i]).length ≤ (l.flatMap g).length := by
  have := flat_len l g (i + 1)
  rw [List.take_succ_eq_append_getElem h, List.flatMap_append, List.flatMap_cons, List.flatMap_nil, List.append_nil, List.length_append] at this
  exact this

theorem cost_append {e : Ty} (a b : List e.den) : cost (.slice e) (a ++ b) = cost (.slice e) a + cost (.slice e) b := by
  simp only [cost, List.length_append, List.map_append, List.sum_append_nat]; omega
theorem cost_flat {α : Type} {e : Ty} (g : α → List e.den) : ∀ l : List α, cost (.slice e) (l.flatMap g) = (l.map fun x => cost (.slice e) (g x)).sum
  | [] => rfl
  | x :: l => by rw [List.flatMap_cons, cost_append, cost_flat g l, List.map_cons, List.sum_cons]
theorem sum_le {α : Type} {f g : α → Nat} : ∀ l : List α, (∀ x ∈ l, f x ≤ g x) → (l.map f).sum ≤ (l.map g).sum
  | [], _ => Nat.le_refl _
  | x :: l, h => by
    simp only [List.map_cons, List.sum_cons]
    have h1 := h x (by simp)
    have h2 := sum_le l fun y hy => h y (by simp [hy])
    omega
theorem cost_get {e : Ty} {l : List e.den} {i : Nat} (h : i < l.length) : cost e l[i] ≤ cost (.slice e) l := cost_mem (List.getElem_mem h)

theorem law_sz2 {n : Nat} {L : Int} {G : Option Int} {K : Int → Option Bool} (hG : G = some (if (n : Int) ≤ L then L - n else -1)) (h0 : 0 ≤ L) (hl : L ≤ big)
    (rest : ∀ L' : Int, 0 ≤ L' → L' ≤ big → n ≤ big → L' + (n : Int) = L → K L' = some true) : (G.bind fun r => bif decide (r < 0) then some true else K r) = some true := by
  have hb : L ≤ 1048576 := hl
  rw [hG]
  simp only [Option.bind_some]
  by_cases h : (n : Int) ≤ L
  · rw [if_pos h, dF (show ¬ (L - (n : Int)) < 0 by omega), cond_false]
    exact rest _ (by omega) (by show L - (n : Int) ≤ 1048576; omega) (by show n ≤ 1048576; omega) (by omega)
  · rw [if_neg h, dT (show (-1 : Int) < 0 by omega)]; rfl
end Go.Proofs.YtigbabjhcihmaaaGreatDoor.Pl
