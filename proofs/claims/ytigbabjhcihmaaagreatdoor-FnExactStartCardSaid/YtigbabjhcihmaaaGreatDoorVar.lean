/- The program's Var and the reference's write the same bytes. -/
import Derived.Test.YtigbabjhcihmaaaGreatDoorDec
namespace Go.Proofs.YtigbabjhcihmaaaGreatDoor.Fns
open Go Go.RowKit Go.Proofs Go.Proofs.YtigbabjhcihmaaaGreatDoor.Ev Go.Proofs.YtigbabjhcihmaaaGreatDoor.Pl
set_option linter.unusedVariables false
set_option linter.unusedSimpArgs false
set_option maxRecDepth 100000

/-- two loops that go the same way -/
theorem iter_congr {σ ρ : Type} {step step' : (σ → Option ρ) → σ → Option ρ} (I : σ → Prop) (h : ∀ rec rec' x, I x → (∀ y, I y → rec y = rec' y) → step rec x = step' rec' x) : ∀ (k : Nat) (x : σ), I x → iter step k x = iter step' k x
  | 0, _, _ => rfl
  | k + 1, x, hx => h _ _ x hx fun y hy => iter_congr I h k y hy

theorem toNat_ofInt64 (n : Int) (h0 : 0 ≤ n) (h1 : n < 9223372036854775808) : (BitVec.ofInt 64 n).toNat = n.toNat := by
  rw [BitVec.toNat_ofInt]
  rw [Int.emod_eq_of_lt h0 (by omega)]

theorem and127 (n : Int) (h0 : 0 ≤ n) (h1 : n < 9223372036854775808) : bitsAnd .i64 n 127 = n % 128 := by
  unfold bitsAnd
  have h : (BitVec.ofInt IntKind.i64.bits n &&& BitVec.ofInt IntKind.i64.bits 127).toNat = n.toNat % 128 := by
    show (BitVec.ofInt 64 n &&& BitVec.ofInt 64 127).toNat = _
    rw [BitVec.toNat_and, toNat_ofInt64 n h0 h1, toNat_ofInt64 127 (by decide) (by decide)]
    exact Nat.and_two_pow_sub_one_eq_mod n.toNat 7
  rw [h]
  show wrap64 _ = _
  rw [w64 (by omega) (by omega)]
  omega

theorem or128 (m : Int) (h0 : 0 ≤ m) (h1 : m < 128) : bitsOr .i64 m 128 = 128 + m := by
  have h : ∀ d : Fin 128, bitsOr .i64 (d.val : Int) 128 = 128 + (d.val : Int) := by decide +kernel
  have := h ⟨m.toNat, by omega⟩
  rw [show ((⟨m.toNat, by omega⟩ : Fin 128).val : Int) = m by show ((m.toNat : Nat) : Int) = m; omega] at this
  exact this

theorem shift7 (n : Int) (h0 : 0 ≤ n) : shiftR .i64 n 7 = n / 128 := by
  show n.fdiv (2 ^ (min (7 : Int).toNat IntKind.i64.bits)) = n / 128
  have : (2 : Int) ^ (min (7 : Int).toNat IntKind.i64.bits) = 128 := by decide
  rw [this, Int.fdiv_eq_ediv_of_nonneg _ (by decide)]

end Go.Proofs.YtigbabjhcihmaaaGreatDoor.Fns
