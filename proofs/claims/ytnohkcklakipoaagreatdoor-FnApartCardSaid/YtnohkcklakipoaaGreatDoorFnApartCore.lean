/- FnApart's form answers true at every code. -/
import Derived.Test.YtnohkcklakipoaaGreatDoorCodes
import Derived.Test.YtnohkcklakipoaaGreatDoorFnApartA
import Derived.Test.YtnohkcklakipoaaGreatDoorFnApartB
namespace Go.Proofs.YtnohkcklakipoaaGreatDoor.FnApart
open Go Go.RowKit Go.Proofs Go.Proofs.YtnohkcklakipoaaGreatDoor.Ev Go.Proofs.YtnohkcklakipoaaGreatDoor.Fns
set_option linter.unusedVariables false
theorem same (k : Nat) (l : List Int) (v u m h : Int) (hb : F7 k l = some false) (h0 : F8 k l 0 = some v) (h1 : F8 k l 1 = some u) (hm : v.tmod 3 = m.tmod 3) (hh : u.tmod 2 = h.tmod 2)
    (b0 : F7 k [m, h] = some false) (g0 : F8 k [m, h] 0 = some m) (g1 : F8 k [m, h] 1 = some h) : F5 k l = F5 k [m, h] := by
  unfold F5
  rw [hb, h0, h1, b0, g0, g1]
  simp only [Option.bind_some]
  rw [hm, hh]
theorem plain (k : Nat) (hk : k = 2097153) (a0 : List Int) (ok : Ty.Ok (.slice (.int .u8)) a0) : F5 k a0 = some true := by
  by_cases hn : a0.length ≤ 1048576
  · subst hk
    obtain ⟨v, h0, v0, v1⟩ := Codes.at_some 2097153 a0 ok hn 0 (by omega)
    obtain ⟨u, h1, u0, u1⟩ := Codes.at_some 2097153 a0 ok hn 1 (by omega)
    have hb : F7 2097153 a0 = some false := by
      unfold F7
      rw [decide_eq_false (by omega)]
    rcases Codes.mod_three v0 with hm | hm | hm <;> rcases Codes.mod_two u0 with hh | hh
    · exact (same _ _ v u 0 0 hb h0 h1 (hm.trans (by decide)) (hh.trans (by decide)) (by kernel_rfl) (by kernel_rfl) (by kernel_rfl)).trans c00
    · exact (same _ _ v u 0 1 hb h0 h1 (hm.trans (by decide)) (hh.trans (by decide)) (by kernel_rfl) (by kernel_rfl) (by kernel_rfl)).trans c01
    · exact (same _ _ v u 1 0 hb h0 h1 (hm.trans (by decide)) (hh.trans (by decide)) (by kernel_rfl) (by kernel_rfl) (by kernel_rfl)).trans c10
    · exact (same _ _ v u 1 1 hb h0 h1 (hm.trans (by decide)) (hh.trans (by decide)) (by kernel_rfl) (by kernel_rfl) (by kernel_rfl)).trans c11
    · exact (same _ _ v u 2 0 hb h0 h1 (hm.trans (by decide)) (hh.trans (by decide)) (by kernel_rfl) (by kernel_rfl) (by kernel_rfl)).trans c20
    · exact (same _ _ v u 2 1 hb h0 h1 (hm.trans (by decide)) (hh.trans (by decide)) (by kernel_rfl) (by kernel_rfl) (by kernel_rfl)).trans c21
  · have hb : F7 k a0 = some true := by
      unfold F7
      rw [decide_eq_true (by omega)]
    unfold F5
    rw [hb]
    rfl
end Go.Proofs.YtnohkcklakipoaaGreatDoor.FnApart
