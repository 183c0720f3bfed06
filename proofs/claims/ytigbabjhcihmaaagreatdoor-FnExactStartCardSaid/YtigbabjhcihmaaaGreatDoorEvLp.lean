/- math/bits.Mul, as a contract that the evaluator takes. No program is named. -/
import Derived.Test.YtigbabjhcihmaaaGreatDoorEvLb
namespace Go.Proofs.YtigbabjhcihmaaaGreatDoor.Ev
open Go Go.RowKit
set_option linter.unusedVariables false
set_option linter.unusedSimpArgs false

section
variable {P : Program} {G : World → Prop} {f : FuncId} {fn : Func}

/-- math/bits.Mul -/
def semMul (x y : Int) : Option (Int × Int) :=
  bif decide (0 ≤ x ∧ x < 18446744073709551616) && decide (0 ≤ y ∧ y < 18446744073709551616) then some (((x.toNat * y.toNat / 18446744073709551616 : Nat) : Int), ((x.toNat * y.toNat % 18446744073709551616 : Nat) : Int)) else none

theorem ok_Mul (hf : P.funcs[f]? = some fn) (hn : decide (fn.name = "runtime.NumGoroutine") = false) (hb : fn.body.isSome = true)
    (h : ∀ (x y : Nat), x < 18446744073709551616 → y < 18446744073709551616 → ∀ w : World,
      Calls P f #[.int .u64 x, .int .u64 y] w fun e w' => e = .returned (.tuple #[.int .u64 ((x * y / 18446744073709551616 : Nat) : Int), .int .u64 ((x * y % 18446744073709551616 : Nat) : Int)]) ∧ w' = w) :
    CSpec.ok P G f { params := [.int .u64, .int .u64], res := [(.int .u64, false), (.int .u64, false)], fresh := true, sem := fun x => semMul x.1 x.2.1 } := by
  refine ⟨⟨fn, hf, of_decide_eq_false hn, hb⟩, fun w hG S args x r ha hs => ?_⟩
  match args, ha with
  | [v, u], ha =>
    have hv : [v] = [Value.int .u64 x.1] := ha.1
    have hu : [u] = [Value.int .u64 x.2.1] := ha.2.1
    cases hv; cases hu
    have hs : semMul x.1 x.2.1 = some r := hs
    unfold semMul at hs
    obtain ⟨hc, hs⟩ := cond_none hs
    rw [Bool.and_eq_true] at hc
    obtain ⟨a0, a1⟩ := of_decide_eq_true hc.1
    obtain ⟨b0, b1⟩ := of_decide_eq_true hc.2
    cases hs
    have q := h x.1.toNat x.2.1.toNat (by omega) (by omega) w
    rw [Int.toNat_of_nonneg a0, Int.toNat_of_nonneg b0] at q
    refine q.mono ?_
    rintro e w' ⟨rfl, rfl⟩
    exact ⟨Below.refl _ _, [_, _], [], rfl, ⟨fun k c hc => by simp at hc, fun i j k c c' hi => by simp at hi⟩, ⟨[], [], rfl, ⟨rfl, rfl⟩, rfl, rfl⟩, NewTrees.plain rfl⟩
end
end Go.Proofs.YtigbabjhcihmaaaGreatDoor.Ev
