/- slices.Repeat over a row of one element: the sizes of its row. -/
import Derived.Test.YtigbabjhcihmaaaGreatDoorEv6
import Derived.Test.YtigbabjhcihmaaaGreatDoorEvLp
set_option linter.unusedVariables false
namespace Go.Proofs.YtigbabjhcihmaaaGreatDoor.Ev
open Go Go.RowKit Go.Proofs

theorem rep_pre {e : Ty} {l : List e.den} {n : Int} (hl : l.length = 1) (h1 : 1 ≤ n) (h2 : n ≤ 1000) :
    (bif (decide (n < (0 : Int))) then none else ((semMul (wr .u64 ((l.length : Int))) (wr .u64 (n))).bind fun r1 => (bif (decide ((0 : Int) < r1.1)) then none else (bif (decide ((9223372036854775807 : Int) < r1.2)) then none else (bif (decide (0 ≤ (wrap64 (r1.2)) ∧ (wrap64 (r1.2)) = (wrap64 (r1.2)) ∧ (wrap64 (r1.2)) < (most : Int))) then some (V.at (A.os 1 0), V.at (A.sl false e l), [Blk.arr 0 true true e [], Blk.arr 0 true true e (List.replicate (wrap64 (r1.2)).toNat e.zero)]) else none)))))
      = some (V.at (A.os 1 0), V.at (A.sl false e l), [Blk.arr 0 true true e [], Blk.arr 0 true true e (List.replicate n.toNat e.zero)]) := by
  have w1 : wr .u64 ((l.length : Nat) : Int) = 1 := by rw [hl]; decide
  have w2 : wr .u64 n = n := by
    have : wr .u64 n = n % 18446744073709551616 := by
      simp [wr, IntKind.wrap, IntKind.bits, IntKind.signed]
    rw [this]; omega
  have hm : semMul 1 n = some (((0 : Nat) : Int), n) := by
    unfold semMul
    rw [Pl.dT (by omega), Pl.dT (by omega)]
    simp only [Bool.and_self, cond_true, Option.some.injEq, Prod.mk.injEq]
    have : (1 : Int).toNat * n.toNat = n.toNat := by simp
    rw [this]
    omega
  rw [w1, w2, hm, Pl.dF (by omega)]
  simp only [cond_false, Option.bind_some]
  rw [Pl.dF (by omega), Pl.dF (by omega), Pl.w64 (by omega) (by omega), Pl.dT (⟨by omega, by trivial, by show n < ((8589934592 : Nat) : Int); omega⟩)]
  rfl

end Go.Proofs.YtigbabjhcihmaaaGreatDoor.Ev
