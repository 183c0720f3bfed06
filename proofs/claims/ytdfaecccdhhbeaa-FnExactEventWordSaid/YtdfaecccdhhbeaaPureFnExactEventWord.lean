/- The program's EventWord and the reference's tell the same word for every kind, whatever the number; no conditions. -/
import Derived.Test.YtdfaecccdhhbeaaPFnExactEventWordx1
namespace Go.Proofs.Ytdfaecccdhhbeaa.Pure
open Go.RowKit Go.Proofs.Ytdfaecccdhhbeaa.PFnExactEventWord Go.Proofs.YtdfaecccdhhbeaaW.PrintWords Go.Proofs.YtdfaecccdhhbeaaW.PrintLast

theorem FnExactEventWord : laws_FnExactEventWord.Pure := by
  intro a0 h0
  have e1 : spec_l1In.f = impl_in.f := rfl
  have e : spec_EventWord.f a0 = impl_EventWord.f a0 := rfl
  unfold laws_FnExactEventWord.f
  rw [e]
  have hs : ∃ r, impl_EventWord.f a0 = some r := by
    unfold impl_EventWord.f impl_in.f
    by_cases h1 : a0 ≥ 1
    · rw [if_pos h1]
      by_cases h2 : a0 ≤ 12
      · have hw : wrap64 (a0 - 1) = a0 - 1 := by unfold wrap64; omega
        simp only [Option.bind_some, decide_eq_true h2, if_true, hw]
        rw [if_pos (by omega), if_pos (by simp only [List.length]; omega)]
        exact ⟨_, rfl⟩
      · simp only [Option.bind_some, decide_eq_false h2]
        exact ⟨_, rfl⟩
    · rw [if_neg h1]
      exact ⟨_, rfl⟩
  obtain ⟨r, hr⟩ := hs
  rw [hr]
  simp

end Go.Proofs.Ytdfaecccdhhbeaa.Pure
