/- Lists in a field's value: SplitList, and the directives. -/
import Derived.Test.YtcaknaddeblecaaGreatDoorFlds
import Derived.Test.YtcaknaddeblecaaGreatDoorJoins
namespace Go.Proofs.YtcaknaddeblecaaGreatDoor.Fns
open Go Go.RowKit Go.Proofs Go.Proofs.YtcaknaddeblecaaGreatDoor.Ev Go.Proofs.YtcaknaddeblecaaGreatDoor.Pl
set_option linter.unusedVariables false
set_option linter.unusedSimpArgs false
set_option maxRecDepth 100000
set_option maxHeartbeats 4000000

/-- the commas that stand in no quotes, from i on; skip: the next byte is passed over -/
def cmL : List UInt8 → Nat → Bool → Bool → List Nat
  | [], _, _, _ => []
  | _ :: l, i, q, true => cmL l (i + 1) q false
  | b :: l, i, q, false =>
    if (b.toNat : Int) = 34 then cmL l (i + 1) (!q) false
    else if q = true ∧ (b.toNat : Int) = 92 then cmL l (i + 1) q true
    else if q = false ∧ (b.toNat : Int) = 44 then i :: cmL l (i + 1) q false
    else cmL l (i + 1) q false
def cm (s : ByteArray) (i : Nat) (q : Bool) : List Nat := cmL (s.data.toList.drop i) i q false

theorem cm_end {s : ByteArray} {i : Nat} {q : Bool} (h : s.size ≤ i) : cm s i q = [] := by
  unfold cm
  rw [List.drop_eq_nil_of_le (by rw [← size_data]; exact h)]
  rfl
theorem cm_step {s : ByteArray} {i : Nat} {q : Bool} (h : i < s.size) : cm s i q = (if bt s (i : Int) = 34 then cm s (i + 1) (!q) else if q = true ∧ bt s (i : Int) = 92 then cm s (i + 2) q else if q = false ∧ bt s (i : Int) = 44 then i :: cm s (i + 1) q else cm s (i + 1) q) := by
  have hl : i < s.data.toList.length := by rw [← size_data]; exact h
  rw [bt_at s i hl]
  have h2 : cmL (s.data.toList.drop (i + 1)) (i + 1) q true = cm s (i + 2) q := by
    unfold cm
    rcases Nat.lt_or_ge (i + 1) s.data.toList.length with h3 | h3
    · rw [List.drop_eq_getElem_cons h3]; rfl
    · rw [List.drop_eq_nil_of_le h3, List.drop_eq_nil_of_le (by omega)]; rfl
  rw [← h2]
  unfold cm
  rw [List.drop_eq_getElem_cons hl]
  rfl
theorem cm_quote {s : ByteArray} {i : Nat} {q : Bool} (h : i < s.size) (h1 : bt s (i : Int) = 34) : cm s i q = cm s (i + 1) (!q) := by
  rw [cm_step h, if_pos h1]
theorem cm_skip {s : ByteArray} {i : Nat} (h : i < s.size) (h1 : ¬ bt s (i : Int) = 34) (h2 : bt s (i : Int) = 92) : cm s i true = cm s (i + 2) true := by
  rw [cm_step h, if_neg h1, if_pos ⟨rfl, h2⟩]
theorem cm_comma {s : ByteArray} {i : Nat} (h : i < s.size) (h1 : ¬ bt s (i : Int) = 34) (h2 : bt s (i : Int) = 44) : cm s i false = i :: cm s (i + 1) false := by
  rw [cm_step h, if_neg h1, if_neg (by simp), if_pos ⟨rfl, h2⟩]
theorem cm_other {s : ByteArray} {i : Nat} {q : Bool} (h : i < s.size) (h1 : ¬ bt s (i : Int) = 34) (h2 : q = true → ¬ bt s (i : Int) = 92) (h3 : q = false → ¬ bt s (i : Int) = 44) : cm s i q = cm s (i + 1) q := by
  rw [cm_step h, if_neg h1, if_neg (fun h => h2 h.1 h.2), if_neg (fun h => h3 h.1 h.2)]

theorem cm_len (s : ByteArray) : ∀ (d i : Nat) (q : Bool), s.size - i ≤ d → (cm s i q).length ≤ s.size - i := by
  intro d
  induction d with
  | zero => intro i q h; rw [cm_end (by omega)]; simp
  | succ d ih =>
    intro i q h
    rcases Nat.lt_or_ge i s.size with hi | hi
    case inr => rw [cm_end hi]; simp
    by_cases h1 : bt s (i : Int) = 34
    · rw [cm_quote hi h1]; have := ih (i + 1) (!q) (by omega); omega
    · cases q with
      | true =>
        by_cases h2 : bt s (i : Int) = 92
        · rw [cm_skip hi h1 h2]; have := ih (i + 2) true (by omega); omega
        · rw [cm_other hi h1 (fun _ => h2) (by simp)]; have := ih (i + 1) true (by omega); omega
      | false =>
        by_cases h2 : bt s (i : Int) = 44
        · rw [cm_comma hi h1 h2, List.length_cons]; have := ih (i + 1) false (by omega); omega
        · rw [cm_other hi h1 (by simp) (fun _ => h2)]; have := ih (i + 1) false (by omega); omega

/-- each one behind the other, and none behind the end -/
def asc (n : Nat) : Nat → List Nat → Prop
  | _, [] => True
  | f, c :: cs => f ≤ c ∧ c ≤ n ∧ asc n (c + 1) cs

theorem cm_asc (s : ByteArray) : ∀ (d i : Nat) (q : Bool) (f : Nat), s.size - i ≤ d → f ≤ i → f ≤ s.size → asc s.size f (cm s i q ++ [s.size]) := by
  intro d
  induction d with
  | zero => intro i q f h h1 h2; rw [cm_end (by omega)]; exact ⟨h2, Nat.le_refl _, trivial⟩
  | succ d ih =>
    intro i q f h h1 h2
    rcases Nat.lt_or_ge i s.size with hi | hi
    case inr => rw [cm_end hi]; exact ⟨h2, Nat.le_refl _, trivial⟩
    by_cases h3 : bt s (i : Int) = 34
    · rw [cm_quote hi h3]; exact ih (i + 1) (!q) f (by omega) (by omega) h2
    · cases q with
      | true =>
        by_cases h4 : bt s (i : Int) = 92
        · rw [cm_skip hi h3 h4]; exact ih (i + 2) true f (by omega) (by omega) h2
        · rw [cm_other hi h3 (fun _ => h4) (by simp)]; exact ih (i + 1) true f (by omega) (by omega) h2
      | false =>
        by_cases h4 : bt s (i : Int) = 44
        · rw [cm_comma hi h3 h4]; exact ⟨h1, by omega, ih (i + 1) false (i + 1) (by omega) (Nat.le_refl _) (by omega)⟩
        · rw [cm_other hi h3 (by simp) (fun _ => h4)]; exact ih (i + 1) false f (by omega) (by omega) h2

/-- one part, where it is not empty -/
def part (s : ByteArray) (f c : Nat) : List ByteArray := bif decide (trim (s.extract f c) = ByteArray.mk #[]) then [] else [trim (s.extract f c)]
def emits (s : ByteArray) : Nat → List Nat → List ByteArray
  | _, [] => []
  | f, c :: cs => part s f c ++ emits s (c + 1) cs
def split (s : ByteArray) : List ByteArray := emits s 0 (cm s 0 false ++ [s.size])

theorem part_len (s : ByteArray) (f c : Nat) : (part s f c).length ≤ 1 := by
  unfold part; cases decide (trim (s.extract f c) = ByteArray.mk #[]) <;> simp

theorem extract_size (s : ByteArray) (f c : Nat) : (s.extract f c).size ≤ s.size := by
  rw [ByteArray.size_extract]; omega

theorem splitS_loop (k : Nat) (s : ByteArray) (hk : s.size < k) (hb : s.size ≤ 4194304) {step : (Int × Bool × Int × List ByteArray × Unit → Option (List ByteArray)) → Int × Bool × Int × List ByteArray × Unit → Option (List ByteArray)}
    (hquote : ∀ (i f : Nat) (q : Bool) out rec, i < s.size → bt s (i : Int) = 34 → step rec ((f : Int), q, (i : Int), out, ()) = rec ((f : Int), !q, ((i + 1 : Nat) : Int), out, ()))
    (hskip : ∀ (i f : Nat) out rec, i < s.size → ¬ bt s (i : Int) = 34 → bt s (i : Int) = 92 → step rec ((f : Int), true, (i : Int), out, ()) = rec ((f : Int), true, ((i + 2 : Nat) : Int), out, ()))
    (hcomma : ∀ (i f : Nat) out rec, i < s.size → f ≤ i → out.length ≤ i → ¬ bt s (i : Int) = 34 → bt s (i : Int) = 44 → step rec ((f : Int), false, (i : Int), out, ()) = rec (((i + 1 : Nat) : Int), false, ((i + 1 : Nat) : Int), out ++ part s f i, ()))
    (hother : ∀ (i f : Nat) (q : Bool) out rec, i < s.size → ¬ bt s (i : Int) = 34 → (q = true → ¬ bt s (i : Int) = 92) → (q = false → ¬ bt s (i : Int) = 44) → step rec ((f : Int), q, (i : Int), out, ()) = rec ((f : Int), q, ((i + 1 : Nat) : Int), out, ()))
    (hend : ∀ (f : Nat) (q : Bool) out rec, f ≤ s.size → out.length ≤ s.size → step rec ((f : Int), q, (s.size : Int), out, ()) = rec (((s.size + 1 : Nat) : Int), q, ((s.size + 1 : Nat) : Int), out ++ part s f s.size, ()))
    (hover : ∀ (f : Nat) out rec, f < s.size → out.length ≤ s.size → step rec ((f : Int), true, ((s.size + 1 : Nat) : Int), out, ()) = some (out ++ part s f s.size))
    (hstop : ∀ (q : Bool) out rec, step rec (((s.size + 1 : Nat) : Int), q, ((s.size + 1 : Nat) : Int), out, ()) = some out) :
    ∀ (m i f : Nat) (q : Bool) (out : List ByteArray), s.size + 2 - i < m → f ≤ i → out.length ≤ i → (i ≤ s.size ∨ (i = s.size + 1 ∧ q = true ∧ f < s.size)) → out.length ≤ s.size →
      iter step m ((f : Int), q, (i : Int), out, ()) = some (out ++ emits s f (cm s i q ++ [s.size])) := by
  intro m
  induction m with
  | zero => intro i f q out hm; omega
  | succ m ih =>
    intro i f q out hm hf ho hi ho2
    simp only [iter]
    rcases hi with hi | ⟨rfl, rfl, hfs⟩
    case inr =>
      rw [hover f out _ hfs ho2, cm_end (by omega)]
      simp [emits]
    rcases Nat.lt_or_ge i s.size with hlt | hge
    · by_cases h1 : bt s (i : Int) = 34
      · rw [hquote i f q out _ hlt h1, cm_quote hlt h1]
        exact ih (i + 1) f (!q) out (by omega) (by omega) (by omega) (Or.inl hlt) ho2
      · cases q with
        | true =>
          by_cases h2 : bt s (i : Int) = 92
          · rw [hskip i f out _ hlt h1 h2, cm_skip hlt h1 h2]
            refine ih (i + 2) f true out (by omega) (by omega) (by omega) ?_ ho2
            rcases Nat.lt_or_ge (i + 1) s.size with h3 | h3
            · exact Or.inl (by omega)
            · exact Or.inr ⟨by omega, rfl, by omega⟩
          · rw [hother i f true out _ hlt h1 (fun _ => h2) (by simp), cm_other hlt h1 (fun _ => h2) (by simp)]
            exact ih (i + 1) f true out (by omega) (by omega) (by omega) (Or.inl hlt) ho2
        | false =>
          by_cases h2 : bt s (i : Int) = 44
          · rw [hcomma i f out _ hlt hf ho h1 h2, cm_comma hlt h1 h2]
            have hp := part_len s f i
            rw [ih (i + 1) (i + 1) false (out ++ part s f i) (by omega) (Nat.le_refl _) (by rw [List.length_append]; omega) (Or.inl hlt) (by rw [List.length_append]; omega)]
            simp [emits]
          · rw [hother i f false out _ hlt h1 (by simp) (fun _ => h2), cm_other hlt h1 (by simp) (fun _ => h2)]
            exact ih (i + 1) f false out (by omega) (by omega) (by omega) (Or.inl hlt) ho2
    · have : i = s.size := by omega
      subst this
      rw [hend f q out _ hf ho2, cm_end (Nat.le_refl _)]
      cases m with
      | zero => omega
      | succ m =>
        simp only [iter]
        rw [hstop]
        simp [emits]

theorem part_step {s : ByteArray} {f c : Nat} {out : List ByteArray} {ρ : Type} {K : List ByteArray → Option ρ} (ho : out.length ≤ 4294967296) :
    (bif (!decide (trim (s.extract f c) = ByteArray.mk #[])) then (bif (decide (out.length + ([trim (s.extract f c)] : List ByteArray).length < most)) then K (out ++ [trim (s.extract f c)]) else none) else K out) = K (out ++ part s f c) := by
  unfold part
  rw [dT (show out.length + ([trim (s.extract f c)] : List ByteArray).length < most by show out.length + 1 < 8589934592; omega)]
  cases decide (trim (s.extract f c) = ByteArray.mk #[]) <;> simp

theorem split_S (k : Nat) (hk : fuel < k) (s : ByteArray) (hs : s.size ≤ 2000000) : F180 k s = some (split s) := by
  have hk' : 2097152 < k := hk
  have ht : ∀ f c : Nat, F198 k (s.extract f c) = some (trim (s.extract f c)) := fun f c => trim_S k _ (by have := extract_size s f c; omega) (by have := extract_size s f c; omega)
  unfold F180 split
  refine splitS_loop k s (by omega) (by omega) ?_ ?_ ?_ ?_ ?_ ?_ ?_ k 0 0 false [] (by omega) (Nat.le_refl _) (Nat.le_refl _) (Or.inl (Nat.zero_le _)) (Nat.zero_le _)
  · intro i f q out rec hi h1
    have w1 : wrap64 ((i : Int) + 1) = (i : Int) + 1 := w64 (by omega) (by omega)
    simp only [dT (show (i : Int) ≤ (s.size : Int) by omega), dT (show (i : Int) < (s.size : Int) by omega), dT (show 0 ≤ (i : Int) ∧ (i : Int) < (s.size : Int) by omega), dF (show ¬ (s.size : Int) ≤ (i : Int) by omega), h1, w1, cond_true, cond_false,
      dT (show (34 : Int) = 34 from rfl), dF (show ¬ (34 : Int) = 92 by omega), dF (show ¬ (34 : Int) = 44 by omega), Int.natCast_add, Int.cast_ofNat_Int]
    cases q <;> rfl
  · intro i f out rec hi h1 h2
    have w1 : wrap64 ((i : Int) + 1) = (i : Int) + 1 := w64 (by omega) (by omega)
    have w2 : wrap64 ((i : Int) + 1 + 1) = (i : Int) + 2 := by rw [w64 (by omega) (by omega)]; omega
    simp only [dT (show (i : Int) ≤ (s.size : Int) by omega), dT (show (i : Int) < (s.size : Int) by omega), dT (show 0 ≤ (i : Int) ∧ (i : Int) < (s.size : Int) by omega), dF h1, dT h2, w1, w2, cond_true, cond_false, Int.natCast_add, Int.cast_ofNat_Int]
  · intro i f out rec hi hf ho h1 h2
    have w1 : wrap64 ((i : Int) + 1) = (i : Int) + 1 := w64 (by omega) (by omega)
    have hif : (if (s.size : Int) < (i : Int) then (s.size : Int) else (i : Int)) = (i : Int) := if_neg (by omega)
    simp only [dT (show (i : Int) ≤ (s.size : Int) by omega), dT (show (i : Int) < (s.size : Int) by omega), dT (show 0 ≤ (i : Int) ∧ (i : Int) < (s.size : Int) by omega), dF (show ¬ (s.size : Int) ≤ (i : Int) by omega), dF h1, dT h2, w1, cond_true, cond_false, Bool.not_false, hif,
      dT (show 0 ≤ (f : Int) ∧ (f : Int) ≤ (i : Int) ∧ (i : Int) ≤ (s.size : Int) by omega), Int.toNat_natCast, ht, Option.bind_some, Int.natCast_add, Int.cast_ofNat_Int]
    exact part_step (K := fun o => rec ((i : Int) + 1, false, (i : Int) + 1, o, ())) (by omega)
  · intro i f q out rec hi h1 h2 h3
    have w1 : wrap64 ((i : Int) + 1) = (i : Int) + 1 := w64 (by omega) (by omega)
    cases q with
    | true =>
      simp only [dT (show (i : Int) ≤ (s.size : Int) by omega), dT (show (i : Int) < (s.size : Int) by omega), dT (show 0 ≤ (i : Int) ∧ (i : Int) < (s.size : Int) by omega), dF (show ¬ (s.size : Int) ≤ (i : Int) by omega), dF h1, dF (h2 rfl), w1, cond_true, cond_false, Bool.not_true, Int.natCast_add, Int.cast_ofNat_Int]
      cases decide (bt s (i : Int) = 44) <;> rfl
    | false =>
      simp only [dT (show (i : Int) ≤ (s.size : Int) by omega), dT (show (i : Int) < (s.size : Int) by omega), dT (show 0 ≤ (i : Int) ∧ (i : Int) < (s.size : Int) by omega), dF (show ¬ (s.size : Int) ≤ (i : Int) by omega), dF h1, dF (h3 rfl), w1, cond_true, cond_false, Int.natCast_add, Int.cast_ofNat_Int]
  · intro f q out rec hf ho
    have w1 : wrap64 ((s.size : Int) + 1) = (s.size : Int) + 1 := w64 (by omega) (by omega)
    have hif : (if (s.size : Int) < (s.size : Int) then (s.size : Int) else (s.size : Int)) = (s.size : Int) := if_neg (by omega)
    simp only [dT (show (s.size : Int) ≤ (s.size : Int) by omega), dF (show ¬ (s.size : Int) < (s.size : Int) by omega), w1, cond_true, cond_false, hif,
      dT (show 0 ≤ (f : Int) ∧ (f : Int) ≤ (s.size : Int) ∧ (s.size : Int) ≤ (s.size : Int) by omega), Int.toNat_natCast, ht, Option.bind_some, Int.natCast_add, Int.cast_ofNat_Int]
    exact part_step (K := fun o => rec ((s.size : Int) + 1, q, (s.size : Int) + 1, o, ())) (by omega)
  · intro f out rec hf ho
    simp only [dF (show ¬ ((s.size + 1 : Nat) : Int) ≤ (s.size : Int) by omega), dT (show (f : Int) < (s.size : Int) by omega), cond_true, cond_false,
      dT (show 0 ≤ (f : Int) ∧ (f : Int) ≤ (s.size : Int) ∧ (s.size : Int) ≤ (s.size : Int) by omega), Int.toNat_natCast, ht, Option.bind_some]
    exact part_step (K := fun o => some o) (by omega)
  · intro q out rec
    simp only [dF (show ¬ ((s.size + 1 : Nat) : Int) ≤ (s.size : Int) by omega), dF (show ¬ ((s.size + 1 : Nat) : Int) < (s.size : Int) by omega), cond_false]

theorem commas_I (k : Nat) (hk : fuel < k) (s : ByteArray) (hs : s.size ≤ 2000000) : F199 k s = some ((cm s 0 false).map fun c : Nat => (c : Int)) := by
  have hk' : 2097152 < k := hk
  unfold F199
  suffices h : ∀ (m i : Nat) (q : Bool) (out : List Int), s.size - i < m → out.length ≤ i → iter (σ := Bool × Int × List Int × Unit) (fun rec4 x3 => (bif (decide (x3.2.1 < (s.size : Int))) then (bif (decide (0 ≤ x3.2.1 ∧ x3.2.1 < (s.size : Int))) then (bif (decide ((bt s x3.2.1) = (34 : Int))) then (rec4 ((!x3.1), (wrap64 (x3.2.1 + (1 : Int))), x3.2.2.1, ())) else (bif x3.1 then (bif (decide (0 ≤ x3.2.1 ∧ x3.2.1 < (s.size : Int))) then (bif (decide ((bt s x3.2.1) = (92 : Int))) then (rec4 (x3.1, (wrap64 ((wrap64 (x3.2.1 + (1 : Int))) + (1 : Int))), x3.2.2.1, ())) else (bif (!x3.1) then (bif (decide (0 ≤ x3.2.1 ∧ x3.2.1 < (s.size : Int))) then (bif (decide ((bt s x3.2.1) = (44 : Int))) then (bif (decide (x3.2.2.1.length + ([x3.2.1] : List Int).length < most)) then (rec4 (x3.1, (wrap64 (x3.2.1 + (1 : Int))), (x3.2.2.1 ++ ([x3.2.1] : List Int)), ())) else none) else (rec4 (x3.1, (wrap64 (x3.2.1 + (1 : Int))), x3.2.2.1, ()))) else none) else (rec4 (x3.1, (wrap64 (x3.2.1 + (1 : Int))), x3.2.2.1, ())))) else none) else (bif (!x3.1) then (bif (decide (0 ≤ x3.2.1 ∧ x3.2.1 < (s.size : Int))) then (bif (decide ((bt s x3.2.1) = (44 : Int))) then (bif (decide (x3.2.2.1.length + ([x3.2.1] : List Int).length < most)) then (rec4 (x3.1, (wrap64 (x3.2.1 + (1 : Int))), (x3.2.2.1 ++ ([x3.2.1] : List Int)), ())) else none) else (rec4 (x3.1, (wrap64 (x3.2.1 + (1 : Int))), x3.2.2.1, ()))) else none) else (rec4 (x3.1, (wrap64 (x3.2.1 + (1 : Int))), x3.2.2.1, ()))))) else none) else some x3.2.2.1)) m (q, (i : Int), out, ()) = some (out ++ (cm s i q).map fun c : Nat => (c : Int)) by
    have := h k 0 false [] (by omega) (Nat.le_refl _)
    rw [List.nil_append] at this
    exact this
  intro m
  induction m with
  | zero => intro i q out hm; omega
  | succ m ih =>
    intro i q out hm ho
    simp only [iter]
    rcases Nat.lt_or_ge i s.size with hi | hi
    case inr =>
      rw [dF (show ¬ (i : Int) < (s.size : Int) by omega), cm_end hi]
      simp
    have w1 : wrap64 ((i : Int) + 1) = ((i + 1 : Nat) : Int) := by rw [w64 (by omega) (by omega)]; omega
    have w2 : wrap64 (((i + 1 : Nat) : Int) + 1) = ((i + 2 : Nat) : Int) := by rw [w64 (by omega) (by omega)]; omega
    simp only [dT (show (i : Int) < (s.size : Int) by omega), dT (show 0 ≤ (i : Int) ∧ (i : Int) < (s.size : Int) by omega), w1, w2, cond_true]
    by_cases h1 : bt s (i : Int) = 34
    · rw [dT h1, cm_quote hi h1, cond_true]
      exact ih (i + 1) (!q) out (by omega) (by omega)
    · rw [dF h1, cond_false]
      cases q with
      | true =>
        by_cases h2 : bt s (i : Int) = 92
        · rw [dT h2, cm_skip hi h1 h2]
          exact ih (i + 2) true out (by omega) (by omega)
        · rw [dF h2, cm_other hi h1 (fun _ => h2) (by simp)]
          exact ih (i + 1) true out (by omega) (by omega)
      | false =>
        by_cases h2 : bt s (i : Int) = 44
        · rw [dT h2, cm_comma hi h1 h2, dT (show out.length + ([(i : Int)] : List Int).length < most by show out.length + 1 < 8589934592; omega)]
          simp only [Bool.not_false, cond_true, cond_false]
          rw [ih (i + 1) false (out ++ [(i : Int)]) (by omega) (by rw [List.length_append]; simp; omega)]
          simp
        · rw [dF h2, cm_other hi h1 (by simp) (fun _ => h2)]
          exact ih (i + 1) false out (by omega) (by omega)

theorem splitI_loop (s : ByteArray) (L : List Nat) {step : (Int × Int × List ByteArray × Unit → Option (List ByteArray)) → Int × Int × List ByteArray × Unit → Option (List ByteArray)}
    (hstep : ∀ (j f : Nat) out rec (hj : j < L.length), f ≤ L[j] → L[j] ≤ s.size → out.length ≤ j → step rec ((f : Int), (j : Int), out, ()) = rec (((L[j] + 1 : Nat) : Int), ((j + 1 : Nat) : Int), out ++ part s f L[j], ()))
    (hend : ∀ (f : Nat) out rec, step rec ((f : Int), (L.length : Int), out, ()) = some out) :
    ∀ (m j f : Nat) (out : List ByteArray), L.length - j < m → j ≤ L.length → out.length ≤ j → asc s.size f (L.drop j) → iter step m ((f : Int), (j : Int), out, ()) = some (out ++ emits s f (L.drop j)) := by
  intro m
  induction m with
  | zero => intro j f out h; omega
  | succ m ih =>
    intro j f out h1 h2 h3 h4
    simp only [iter]
    rcases Nat.lt_or_ge j L.length with hj | hj
    · rw [List.drop_eq_getElem_cons hj] at h4 ⊢
      obtain ⟨a1, a2, a3⟩ := h4
      have hp := part_len s f L[j]
      rw [hstep j f out _ hj a1 a2 h3, ih (j + 1) (L[j] + 1) (out ++ part s f L[j]) (by omega) hj (by rw [List.length_append]; omega) a3]
      simp [emits]
    · have : j = L.length := by omega
      subst this
      rw [hend, List.drop_length]
      simp [emits]

theorem split_I (k : Nat) (hk : fuel < k) (s : ByteArray) (hs : s.size ≤ 2000000) : F185 k s = some (split s) := by
  have hk' : 2097152 < k := hk
  have ht : ∀ f c : Nat, F200 k (s.extract f c) = some (trim (s.extract f c)) := fun f c => trim_I k _ (by have := extract_size s f c; omega)
  have hl := cm_len s s.size 0 false (by omega)
  have hasc : asc s.size 0 (cm s 0 false ++ [s.size]) := cm_asc s s.size 0 false 0 (by omega) (Nat.le_refl _) (Nat.zero_le _)
  have hLl : (cm s 0 false ++ [s.size]).length ≤ s.size + 1 := by rw [List.length_append, List.length_singleton]; omega
  have hm : decide (((cm s 0 false).map fun c : Nat => (c : Int)).length + ([(s.size : Int)] : List Int).length < most) = true := dT (by rw [List.length_map]; show _ + 1 < 8589934592; omega)
  have hL : ((cm s 0 false).map fun c : Nat => (c : Int)) ++ [(s.size : Int)] = (cm s 0 false ++ [s.size]).map fun c : Nat => (c : Int) := by simp
  unfold F185 split
  rw [commas_I k hk s hs, Option.bind_some, hm, hL, cond_true]
  clear hm hL hl
  generalize cm s 0 false ++ [s.size] = L at hasc hLl
  refine (splitI_loop s L ?_ ?_ k 0 0 [] (by omega) (Nat.zero_le _) (Nat.le_refl _) hasc).trans ?_
  · intro j f out rec hj a1 a2 h3
    have hou : out.length ≤ 4294967296 := by omega
    have d1 : decide ((j : Int) < (L.length : Int)) = true := dT (by omega)
    have d2 : decide (0 ≤ (j : Int) ∧ (j : Int) < (L.length : Int)) = true := dT (by omega)
    have d3 : decide (0 ≤ (f : Int) ∧ (f : Int) ≤ (L[j] : Int) ∧ (L[j] : Int) ≤ (s.size : Int)) = true := dT (by omega)
    have w1 : wrap64 ((L[j] : Int) + 1) = ((L[j] + 1 : Nat) : Int) := by rw [w64 (by omega) (by omega)]; omega
    have w2 : wrap64 ((j : Int) + 1) = ((j + 1 : Nat) : Int) := by rw [w64 (by omega) (by omega)]; omega
    have hg : (L.map fun c : Nat => (c : Int)).getD j (0 : Int) = (L[j] : Int) := by
      rw [List.getD_eq_getElem?_getD, List.getElem?_map, List.getElem?_eq_getElem hj]; rfl
    simp only [List.length_map, Int.toNat_natCast, hg, d1, d2, d3, cond_true, ht, Option.bind_some, w1, w2]
    exact part_step (K := fun o => rec (((L[j] + 1 : Nat) : Int), ((j + 1 : Nat) : Int), o, ())) hou
  · intro f out rec
    have d1 : decide ((L.length : Int) < (L.length : Int)) = false := dF (by omega)
    simp only [List.length_map, d1, cond_false]
  · rw [List.drop_zero, List.nil_append]
end Go.Proofs.YtcaknaddeblecaaGreatDoor.Fns
