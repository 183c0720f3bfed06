/- How an event is shown: the program's text is the reference's. -/
import Derived.Test.YthbdlnhcioolgaaDoorDec
namespace Go.Proofs.YthbdlnhcioolgaaDoor.Fns
open Go Go.RowKit Go.Proofs Go.Proofs.YthbdlnhcioolgaaDoor.Ev Go.Proofs.YthbdlnhcioolgaaDoor.Pl
set_option linter.unusedVariables false
set_option linter.unusedSimpArgs false
set_option maxRecDepth 100000

theorem i64_ok {n : Int} (h : Ty.Ok (.int .i64) n) : -9223372036854775808 ≤ n ∧ n ≤ 9223372036854775807 := h

theorem fits {a b : ByteArray} (h : a.size + b.size ≤ 4611686018427387903) : decide (a.size + b.size < mostText) = true := dT (by show a.size + b.size < 4611686018427387904; omega)

theorem join_to {l : List ByteArray} {sep b : ByteArray} (h : Lib.join (l.map (·.data.toList)) sep.data.toList = b.data.toList) (hl : l.length ≤ 140737488355328) (hb : b.size ≤ 140737488355328) : semJoin l sep = some b := by
  unfold semJoin
  rw [h, dT ⟨hl, by rw [← size_data]; exact hb⟩]
  cases b
  rfl

theorem word (k : Nat) (a : Int) (h : -9223372036854775808 ≤ a ∧ a ≤ 9223372036854775807) : ∃ w, F21 k a = some w ∧ F24 k a = some w ∧ w.size ≤ 6 := by
  have he : F21 k a = F24 k a := rfl
  rw [he]
  suffices h : ∃ w, F24 k a = some w ∧ w.size ≤ 6 by obtain ⟨w, h1, h2⟩ := h; exact ⟨w, h1, h1, h2⟩
  by_cases h1 : 1 ≤ a
  · by_cases h2 : a ≤ 12
    · have key : ∀ i : Fin 12, ((F24 0 ((i.val : Int) + 1)).any fun w => decide (w.size ≤ 6)) = true := by decide +kernel
      have h3 := key ⟨(a - 1).toNat, by omega⟩
      simp only at h3
      rw [show (((a - 1).toNat : Nat) : Int) + 1 = a by omega] at h3
      change (Option.any (fun w => decide (w.size ≤ 6)) (F24 k a)) = true at h3
      cases hw : F24 k a with
      | none => rw [hw] at h3; cases h3
      | some w => rw [hw] at h3; exact ⟨w, rfl, of_decide_eq_true h3⟩
    · unfold F24 F36
      rw [dT h1, dF h2]
      exact ⟨_, rfl, by decide⟩
  · unfold F24 F36
    rw [dF h1]
    exact ⟨_, rfl, by decide⟩

theorem num (k : Nat) (hk : fuel < k) (n : Int) (h : -9223372036854775808 ≤ n ∧ n ≤ 9223372036854775807) : ∃ w, F20 k n = some w ∧ F23 k n = some w ∧ w.size ≤ 21 := by
  refine ⟨_, dec_eq k hk n h.1 h.2, ?_, itoa_len n h.1 h.2⟩
  unfold F23
  rw [itoa_eq n h.1 h.2]; rfl

theorem showEvent (k : Nat) (hk : fuel < k) (e : D0) (ok : Ty.Ok U0 e) (hu : e.2.2.2.1.size ≤ 1048576) :
    ∃ w, F7 k e = some w ∧ F9 k e = some w ∧ w.size ≤ e.2.2.2.1.size + 200 := by
  obtain ⟨r1, a1, b1, s1⟩ := num k hk e.2.2.2.2.2 (i64_ok ok.2.2.2.2.2)
  obtain ⟨r2, a2, b2, s2⟩ := num k hk e.2.1 (i64_ok ok.2.1)
  obtain ⟨r3, a3, b3, s3⟩ := num k hk e.2.2.1 (i64_ok ok.2.2.1)
  obtain ⟨r4, a4, b4, s4⟩ := word k e.1 (i64_ok ok.1)
  obtain ⟨r5, a5, b5, s5⟩ := num k hk e.2.2.2.2.1 (i64_ok ok.2.2.2.2.1)
  have h32 : (ByteArray.mk #[32]).size = 1 := rfl
  refine ⟨(((((((((r1 ++ (ByteArray.mk #[32])) ++ r2) ++ (ByteArray.mk #[32])) ++ r3) ++ (ByteArray.mk #[32])) ++ r4) ++ (ByteArray.mk #[32])) ++ e.2.2.2.1) ++ (ByteArray.mk #[32])) ++ r5, ?_, ?_, ?_⟩
  · unfold F7
    simp only [a1, a2, a3, a4, a5, Option.bind_some]
    rw [fits, cond_true, fits, cond_true, fits, cond_true, fits, cond_true, fits, cond_true, fits, cond_true, fits, cond_true, fits, cond_true, fits, cond_true, fits, cond_true]
    all_goals simp only [ByteArray.size_append, h32]; omega
  · unfold F9
    simp only [b1, b2, b3, b4, b5, Option.bind_some]
    rw [join_to (b := (((((((((r1 ++ (ByteArray.mk #[32])) ++ r2) ++ (ByteArray.mk #[32])) ++ r3) ++ (ByteArray.mk #[32])) ++ r4) ++ (ByteArray.mk #[32])) ++ e.2.2.2.1) ++ (ByteArray.mk #[32])) ++ r5) ?_ (by simp) (by simp only [ByteArray.size_append, h32]; omega)]
    · rfl
    · simp only [List.map_cons, List.map_nil, Lib.join_cons, Lib.joinTail, append_data, List.flatten_cons, List.flatten_nil, List.append_assoc, List.append_nil]
  · simp only [ByteArray.size_append, h32]; omega
end Go.Proofs.YthbdlnhcioolgaaDoor.Fns
