/- The program's ShowLog and the reference's tell the same text. -/
import Derived.Test.YthbdlnhcioolgaaDoorShowEvt
namespace Go.Proofs.YthbdlnhcioolgaaDoor.ShowLog
open Go Go.RowKit Go.Proofs Go.Proofs.YthbdlnhcioolgaaDoor.Ev Go.Proofs.YthbdlnhcioolgaaDoor.Pl Go.Proofs.YthbdlnhcioolgaaDoor.Fns
set_option linter.unusedVariables false
set_option linter.unusedSimpArgs false

/-- how one event is shown -/
def shown (k : Nat) (e : D0) : ByteArray := (F7 k e).getD (ByteArray.mk #[])

theorem shown_eq (k : Nat) (hk : fuel < k) (e : D0) (ok : Ty.Ok U0 e) (hc : cost U0 e ≤ big) :
    F7 k e = some (shown k e) ∧ F9 k e = some (shown k e) ∧ (shown k e).size ≤ cost U0 e + 200 := by
  have h0 : cost U0 e = e.2.2.2.1.size := by simp only [cost]; omega
  have hu : e.2.2.2.1.size ≤ 1048576 := by rw [h0] at hc; exact hc
  obtain ⟨w, h1, h2, h3⟩ := showEvent k hk e ok hu
  have : shown k e = w := by unfold shown; rw [h1]; rfl
  rw [this, h0]
  exact ⟨h1, h2, h3⟩

/-- the lines of the first events -/
def lines (k : Nat) (l : List D0) : List UInt8 := l.flatMap fun e => (shown k e).data.toList ++ [10]

theorem lines_len (k : Nat) (hk : fuel < k) : ∀ (l : List D0), (∀ e ∈ l, Ty.Ok U0 e) → (∀ e ∈ l, cost U0 e ≤ big) → (lines k l).length ≤ cost (.slice U0) l + 201 * l.length
  | [], _, _ => by simp [lines]
  | e :: l, ho, hc => by
    have h1 := (shown_eq k hk e (ho e (by simp)) (hc e (by simp))).2.2
    have h2 := lines_len k hk l (fun x hx => ho x (List.mem_cons_of_mem _ hx)) (fun x hx => hc x (List.mem_cons_of_mem _ hx))
    have h3 : (lines k (e :: l)).length = (shown k e).size + 1 + (lines k l).length := by
      unfold lines
      rw [List.flatMap_cons, List.length_append, List.length_append, ← size_data]; rfl
    have h4 : cost (.slice U0) (e :: l) = cost U0 e + 1 + cost (.slice U0) l := by
      show (e :: l).length + ((e :: l).map (cost U0)).sum = cost U0 e + 1 + (l.length + (l.map (cost U0)).sum)
      simp only [List.length_cons, List.map_cons, List.sum_cons]; omega
    rw [h3, h4, List.length_cons]; omega

theorem lines_take (k : Nat) (l : List D0) (i : Nat) (hi : i < l.length) : lines k (l.take (i + 1)) = lines k (l.take i) ++ ((shown k l[i]).data.toList ++ [10]) := by
  unfold lines
  rw [List.take_add_one, List.getElem?_eq_getElem hi, Option.toList_some, List.flatMap_append]
  simp

theorem take_le (k : Nat) (l : List D0) (i : Nat) : (lines k (l.take i)).length ≤ (lines k l).length := by
  have h : lines k l = lines k (l.take i) ++ lines k (l.drop i) := by
    unfold lines; rw [← List.flatMap_append, List.take_append_drop]
  rw [h, List.length_append]; omega

theorem sayS (k : Nat) (hk : fuel < k) (l : List D0) (ok : Ty.Ok (.slice U0) l) (hc : cost (.slice U0) l ≤ big) : F11 k l = some ⟨(lines k l).toArray⟩ := by
  have hlen : l.length ≤ 1048576 := Nat.le_trans (cost_len (e := U0) l) hc
  have hcm : ∀ e ∈ l, cost U0 e ≤ big := fun e he => Nat.le_trans (cost_mem he) hc
  have hk' : 2097152 < k := hk
  have hall := lines_len k hk l ok.2 hcm
  have hc' : cost (.slice U0) l ≤ 1048576 := hc
  unfold F11
  refine iter_to (fun i x => x.2.1 = (i : Int) ∧ x.1 = ⟨(lines k (l.take i)).toArray⟩) _ l.length ?_ ?_ k _ ⟨rfl, by simp [lines]⟩ (by omega)
  · rintro i ⟨xs, xi, _⟩ rec ⟨h1, h2⟩ hi hrec
    simp only at h1 h2
    subst h1; subst h2
    have e1 : decide ((i : Int) < (l.length : Int)) = true := dT (by omega)
    have e2 : decide (0 ≤ (i : Int) ∧ (i : Int) < (l.length : Int)) = true := dT (by omega)
    simp only [e1, e2, cond_true, Int.toNat_natCast]
    obtain ⟨q1, q2, q3⟩ := shown_eq k hk l[i] (ok.2 _ (List.getElem_mem hi)) (hcm _ (List.getElem_mem hi))
    have hs := take_le k l (i + 1)
    rw [lines_take k l i hi, List.length_append, List.length_append, ← size_data, List.length_singleton] at hs
    have hz : (⟨(lines k (l.take i)).toArray⟩ : ByteArray).size = (lines k (l.take i)).length := by rw [size_data]
    have h10 : (ByteArray.mk #[10]).size = 1 := rfl
    rw [getD_lt hi, q1, Option.bind_some, fits (by rw [hz]; omega), cond_true, fits (by rw [ByteArray.size_append, hz, h10]; omega), cond_true, w64 (n := (i : Int) + 1) (by omega) (by omega)]
    refine hrec _ ⟨by simp, ?_⟩
    simp only
    apply bytes_ext
    rw [append_data, append_data, lines_take k l i hi, List.append_assoc]
  · rintro ⟨xs, xi, _⟩ rec ⟨h1, h2⟩
    simp only at h1 h2
    subst h1; subst h2
    rw [dF (show ¬ (l.length : Int) < (l.length : Int) by omega), List.take_length]
    rfl

theorem flat_nil : ∀ xs : List (List UInt8), Lib.join xs [] = xs.flatten
  | [] => rfl
  | x :: r => by
    rw [Lib.join_cons, Lib.joinTail, List.flatten_cons]
    congr 2
    simp

theorem sayI (k : Nat) (hk : fuel < k) (l : List D0) (ok : Ty.Ok (.slice U0) l) (hc : cost (.slice U0) l ≤ big) : F13 k l = some ⟨(lines k l).toArray⟩ := by
  have hlen : l.length ≤ 1048576 := Nat.le_trans (cost_len (e := U0) l) hc
  have hcm : ∀ e ∈ l, cost U0 e ≤ big := fun e he => Nat.le_trans (cost_mem he) hc
  have hk' : 2097152 < k := hk
  have hall := lines_len k hk l ok.2 hcm
  have hc' : cost (.slice U0) l ≤ 1048576 := hc
  unfold F13
  have hfl : ∀ (m : List D0) , (m.flatMap fun e => [shown k e, ByteArray.mk #[10]]).length = 2 * m.length := by
    intro m
    induction m with
    | nil => rfl
    | cons e m ih => rw [List.flatMap_cons, List.length_append, ih]; simp; omega
  refine iter_to (fun i x => x.1 = (i : Int) ∧ x.2.1 = (l.take i).flatMap fun e => [shown k e, ByteArray.mk #[10]]) _ l.length ?_ ?_ k _ ⟨rfl, by simp⟩ (by omega)
  · rintro i ⟨xi, xs, _⟩ rec ⟨h1, h2⟩ hi hrec
    simp only at h1 h2
    subst h1; subst h2
    have e1 : decide ((i : Int) < (l.length : Int)) = true := dT (by omega)
    have e2 : decide (0 ≤ (i : Int) ∧ (i : Int) < (l.length : Int)) = true := dT (by omega)
    simp only [e1, e2, cond_true, Int.toNat_natCast]
    obtain ⟨q1, q2, q3⟩ := shown_eq k hk l[i] (ok.2 _ (List.getElem_mem hi)) (hcm _ (List.getElem_mem hi))
    rw [getD_lt hi, q2, Option.bind_some, hfl, w64 (n := (i : Int) + 1) (by omega) (by omega)]
    have hm : decide (2 * (l.take i).length + ([shown k l[i], ByteArray.mk #[10]] : List ByteArray).length < most) = true := dT (by
      show 2 * (l.take i).length + 2 < 8589934592
      have := List.length_take_le i l
      omega)
    rw [hm, cond_true]
    refine hrec _ ⟨by simp, ?_⟩
    simp only
    rw [List.take_add_one, List.getElem?_eq_getElem hi, Option.toList_some, List.flatMap_append]
    simp
  · rintro ⟨xi, xs, _⟩ rec ⟨h1, h2⟩
    simp only at h1 h2
    subst h1; subst h2
    rw [dF (show ¬ (l.length : Int) < (l.length : Int) by omega), List.take_length]
    simp only [cond_false]
    rw [join_to (b := ⟨(lines k l).toArray⟩) ?_ (by rw [hfl]; omega) (by rw [size_data]; show (lines k l).length ≤ _; omega)]
    · rfl
    · rw [show (ByteArray.mk #[]).data.toList = [] from rfl, flat_nil]
      show _ = lines k l
      unfold lines
      rw [List.map_flatMap, List.flatMap_def, List.flatMap_def, List.flatten_flatten, List.map_map]
      congr 1

theorem same (k : Nat) (hk : fuel < k) (l : List D0) (ok : Ty.Ok (.slice U0) l) (hc : cost (.slice U0) l ≤ big) : ∃ w, F11 k l = some w ∧ F13 k l = some w :=
  ⟨_, sayS k hk l ok hc, sayI k hk l ok hc⟩
end Go.Proofs.YthbdlnhcioolgaaDoor.ShowLog
