/- VersionsRise's functions, each by its functional form. -/
import Derived.Test.YtdfaecccdhhbeaaFns3
namespace Go.Proofs.Ytdfaecccdhhbeaa.Fns
open Go Go.RowKit Go.Proofs Go.Proofs.Ytdfaecccdhhbeaa.Ev
set_option maxRecDepth 100000
noncomputable def T4 (keep : List Nat → Nat → Keep) (k : Nat) : Tabs where
  ty := [(3, I), (4, .bool), (9, .str), (24, .slice EvT), (27, .slice EvT), (39, EvT), (40, EvT)]
  cmp := []
  body := [(8, Try.f8), (22, Try.f22), (23, Try.f23), (28, Try.f28), (34, Try.f34), (35, Try.f35)]
  keep := keep
  k := k
theorem T4_ok (keep : List Nat → Nat → Keep) (k : Nat) : (T4 keep k).ok Try.prog where
  ty := by kernel_rfl
  cmp := by kernel_rfl
  body := ⟨⟨Try.func8, by kernel_rfl, by kernel_rfl⟩, ⟨Try.func22, by kernel_rfl, by kernel_rfl⟩, ⟨Try.func23, by kernel_rfl, by kernel_rfl⟩, ⟨Try.func28, by kernel_rfl, by kernel_rfl⟩, ⟨Try.func34, by kernel_rfl, by kernel_rfl⟩, ⟨Try.func35, by kernel_rfl, by kernel_rfl⟩, trivial⟩
  mixed := by kernel_rfl

def F22 (k : Nat) (l : List EvD) : Option Bool :=
  iter (σ := Int × Unit) (fun rec x => bif decide (x.1 < (l.length : Int)) then
    iter (σ := Int × Unit) (fun rec2 y => bif decide (y.1 < x.1) then
      bif decide (0 ≤ x.1 ∧ x.1 < (l.length : Int)) then
      bif decide ((l.getD x.1.toNat Ev0).1 = 6) then
      bif decide (0 ≤ y.1 ∧ y.1 < (l.length : Int)) then
      bif decide ((l.getD y.1.toNat Ev0).1 = 6) then
      bif decide (0 ≤ x.1 ∧ x.1 < (l.length : Int)) then
      bif decide (0 ≤ y.1 ∧ y.1 < (l.length : Int)) then
      bif decide ((l.getD x.1.toNat Ev0).2.2.2.1 = (l.getD y.1.toNat Ev0).2.2.2.1) then
      bif decide (0 ≤ x.1 ∧ x.1 < (l.length : Int)) then
      bif decide ((0 : Int) < (l.getD x.1.toNat Ev0).2.2.2.2.1) then
      bif decide (0 ≤ x.1 ∧ x.1 < (l.length : Int)) then
      bif decide (0 ≤ y.1 ∧ y.1 < (l.length : Int)) then
      bif decide ((l.getD x.1.toNat Ev0).2.2.2.2.1 < (l.getD y.1.toNat Ev0).2.2.2.2.1) then some false
      else rec2 (wrap64 (y.1 + 1), ())
      else none else none
      else rec2 (wrap64 (y.1 + 1), ())
      else none
      else rec2 (wrap64 (y.1 + 1), ())
      else none else none
      else rec2 (wrap64 (y.1 + 1), ())
      else none
      else rec2 (wrap64 (y.1 + 1), ())
      else none
    else rec (wrap64 (x.1 + 1), ())) k (0, ())
   else some true) k (0, ())
def S22 (k : Nat) : CSpec := { params := [.slice EvT], res := [(.bool, false)], fresh := true, sem := fun x => F22 k x.1 }
theorem e22 : (fun k => evFn ((T4 (fun _ _ => ⟨[3, 4], [], [], false⟩) k).cx []) 5 Try.f22 (S22 0).params (S22 0).res true) = fun k => (S22 k).sem := by kernel_rfl
theorem ok22 (k : Nat) : (S22 k).ok Try.prog 22 := fn_ok (T4_ok (fun _ _ => ⟨[3, 4], [], [], false⟩) k) (calls := []) trivial 5 rfl (S22 k) (congrFun e22 k)

def F23 (k : Nat) (l : List EvD) : Option Bool :=
  iter (σ := Int × Unit) (fun rec x => bif decide (x.1 < (l.length : Int)) then
    bif decide (0 ≤ x.1 ∧ x.1 < (l.length : Int)) then
      bif (!decide ((l.getD x.1.toNat Ev0).1 = 6)) then rec (wrap64 (x.1 + 1), ()) else
      bif decide ((l.getD x.1.toNat Ev0).2.2.2.2.1 ≤ 0) then rec (wrap64 (x.1 + 1), ()) else
      bif decide ((0 : Int) ≤ 0 ∧ (0 : Int) ≤ x.1 ∧ x.1 ≤ (l.length : Int)) then
        iter (σ := Int × Unit) (fun rec2 y => bif decide (y.1 < ((((l.drop (0 : Int).toNat).take (x.1 - 0).toNat).length : Nat) : Int)) then
          bif decide (0 ≤ y.1 ∧ y.1 < ((((l.drop (0 : Int).toNat).take (x.1 - 0).toNat).length : Nat) : Int)) then
            bif decide ((((l.drop (0 : Int).toNat).take (x.1 - 0).toNat).getD y.1.toNat Ev0).1 = 6) then
            bif decide ((((l.drop (0 : Int).toNat).take (x.1 - 0).toNat).getD y.1.toNat Ev0).2.2.2.1 = (l.getD x.1.toNat Ev0).2.2.2.1) then
            bif decide ((l.getD x.1.toNat Ev0).2.2.2.2.1 < (((l.drop (0 : Int).toNat).take (x.1 - 0).toNat).getD y.1.toNat Ev0).2.2.2.2.1) then
              bif decide ((0 : Int) ≤ y.1) then some false else rec (wrap64 (x.1 + 1), ())
            else rec2 (wrap64 (y.1 + 1), ())
            else rec2 (wrap64 (y.1 + 1), ())
            else rec2 (wrap64 (y.1 + 1), ())
          else none
         else bif decide ((0 : Int) ≤ -1) then some false else rec (wrap64 (x.1 + 1), ())) k (0, ())
      else none
    else none
   else some true) k (0, ())
def S23 (k : Nat) : CSpec := { params := [.slice EvT], res := [(.bool, false)], fresh := true, sem := fun x => F23 k x.1 }
theorem e23 : (fun k => evFn ((T4 (fun _ _ => ⟨[7, 8], [], [], false⟩) k).cx []) 5 Try.f23 (S23 0).params (S23 0).res true) = fun k => (S23 k).sem := by kernel_rfl
theorem ok23 (k : Nat) : (S23 k).ok Try.prog 23 := fn_ok (T4_ok (fun _ _ => ⟨[7, 8], [], [], false⟩) k) (calls := []) trivial 5 rfl (S23 k) (congrFun e23 k)

def C5 (k : Nat) : List (Nat × CSpec) := [(11, S11 k), (13, S13 k), (15, S15 k), (22, S22 k), (23, S23 k)]
theorem C5_ok (k : Nat) : callsOk Try.prog (C5 k) := ⟨ok11 k, ok13 k, ok15 k, ok22 k, ok23 k, trivial⟩

def F8 (k : Nat) (l : List EvD) : Option Bool :=
  (F11 k l 1048576).bind fun left => bif decide (left < 0) then some true else
  (F13 k l).bind fun t => (F22 k t).bind fun w => (F13 k l).bind fun x0 => (F23 k x0).bind fun g =>
  bif (!(g == w)) then some false else (F13 k l).bind fun t2 => (F15 k x0 t2).bind fun e => bif (!e) then some false else some true
def S8 (k : Nat) : CSpec := { params := [.slice EvT], res := [(.bool, false)], fresh := true, sem := fun x => F8 k x.1 }
theorem e8 : (fun k => evFn ((T4 (fun _ _ => ⟨[], [], [], false⟩) k).cx (C5 k)) 5 Try.f8 (S8 0).params (S8 0).res true) = fun k => (S8 k).sem := by kernel_rfl
theorem ok8 (k : Nat) : (S8 k).ok Try.prog 8 := fn_ok (T4_ok (fun _ _ => ⟨[], [], [], false⟩) k) (calls := (C5 k)) (C5_ok k) 5 rfl (S8 k) (congrFun e8 k)
end Go.Proofs.Ytdfaecccdhhbeaa.Fns
