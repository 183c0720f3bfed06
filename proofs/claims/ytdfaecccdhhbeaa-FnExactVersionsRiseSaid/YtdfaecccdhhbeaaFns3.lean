/- HowTold's functions, each by its functional form. -/
import Derived.Test.YtdfaecccdhhbeaaFns2
namespace Go.Proofs.Ytdfaecccdhhbeaa.Fns
open Go Go.RowKit Go.Proofs Go.Proofs.Ytdfaecccdhhbeaa.Ev
set_option maxRecDepth 100000
noncomputable def T3 (keep : List Nat → Nat → Keep) (k : Nat) : Tabs where
  ty := [(3, I), (4, .bool), (9, .str), (24, .slice EvT), (27, .slice EvT), (39, EvT), (40, EvT)]
  cmp := []
  body := [(7, Try.f7), (20, Try.f20), (21, Try.f21)]
  keep := keep
  k := k
theorem T3_ok (keep : List Nat → Nat → Keep) (k : Nat) : (T3 keep k).ok Try.prog where
  ty := by kernel_rfl
  cmp := by kernel_rfl
  body := ⟨⟨Try.func7, by kernel_rfl, by kernel_rfl⟩, ⟨Try.func20, by kernel_rfl, by kernel_rfl⟩, ⟨Try.func21, by kernel_rfl, by kernel_rfl⟩, trivial⟩
  mixed := by kernel_rfl

def F20 (k : Nat) (l : List EvD) (s : Int) : Option Int :=
  iter (σ := Int × Int × Unit) (fun rec x => bif decide (x.2.1 < (l.length : Int)) then
     bif decide (0 ≤ x.2.1 ∧ x.2.1 < (l.length : Int)) then
       bif (!decide ((l.getD x.2.1.toNat Ev0).2.2.1 = s)) then rec (x.1, wrap64 (x.2.1 + 1), ()) else
         bif decide (0 ≤ x.2.1 ∧ x.2.1 < (l.length : Int)) then
           bif decide ((l.getD x.2.1.toNat Ev0).1 = 12) then rec (x.1, wrap64 (x.2.1 + 1), ()) else
             bif decide (0 ≤ x.2.1 ∧ x.2.1 < (l.length : Int)) then
               bif decide ((l.getD x.2.1.toNat Ev0).1 = 11) then some x.1 else
                 bif decide (0 ≤ x.2.1 ∧ x.2.1 < (l.length : Int)) then rec ((l.getD x.2.1.toNat Ev0).1, wrap64 (x.2.1 + 1), ()) else none
             else none
         else none
     else none
    else some 0) k (0, 0, ())
def S20 (k : Nat) : CSpec := { params := [.slice EvT, I], res := [(I, false)], fresh := true, sem := fun x => F20 k x.1 x.2.1 }
theorem e20 : (fun k => evFn ((T3 (fun _ _ => ⟨[5, 6], [], [], false⟩) k).cx []) 5 Try.f20 (S20 0).params (S20 0).res true) = fun k => (S20 k).sem := by kernel_rfl
theorem ok20 (k : Nat) : (S20 k).ok Try.prog 20 := fn_ok (T3_ok (fun _ _ => ⟨[5, 6], [], [], false⟩) k) (calls := []) trivial 5 rfl (S20 k) (congrFun e20 k)

def F21 (k : Nat) (l : List EvD) (s : Int) : Option Int :=
  iter (σ := Int × Int × Unit) (fun rec x => bif decide (x.2.1 < (l.length : Int)) then
     bif decide (0 ≤ x.2.1 ∧ x.2.1 < (l.length : Int)) then
       bif (!decide ((l.getD x.2.1.toNat Ev0).2.2.1 = s)) then rec (x.1, wrap64 (x.2.1 + 1), ()) else
         bif decide ((l.getD x.2.1.toNat Ev0).1 = 12) then rec (x.1, wrap64 (x.2.1 + 1), ()) else
           bif decide ((l.getD x.2.1.toNat Ev0).1 = 11) then some x.1 else rec ((l.getD x.2.1.toNat Ev0).1, wrap64 (x.2.1 + 1), ())
     else none
    else some 0) k (0, 0, ())
def S21 (k : Nat) : CSpec := { params := [.slice EvT, I], res := [(I, false)], fresh := true, sem := fun x => F21 k x.1 x.2.1 }
theorem e21 : (fun k => evFn ((T3 (fun _ _ => ⟨[5, 10], [], [], false⟩) k).cx []) 5 Try.f21 (S21 0).params (S21 0).res true) = fun k => (S21 k).sem := by kernel_rfl
theorem ok21 (k : Nat) : (S21 k).ok Try.prog 21 := fn_ok (T3_ok (fun _ _ => ⟨[5, 10], [], [], false⟩) k) (calls := []) trivial 5 rfl (S21 k) (congrFun e21 k)

def C4 (k : Nat) : List (Nat × CSpec) := [(11, S11 k), (13, S13 k), (15, S15 k), (20, S20 k), (21, S21 k)]
theorem C4_ok (k : Nat) : callsOk Try.prog (C4 k) := ⟨ok11 k, ok13 k, ok15 k, ok20 k, ok21 k, trivial⟩

def F7 (k : Nat) (l : List EvD) (s : Int) : Option Bool :=
  (F11 k l 1048576).bind fun left => bif decide (left < 0) then some true else
  (F13 k l).bind fun t => (F20 k t s).bind fun w => (F13 k l).bind fun x0 => (F21 k x0 s).bind fun g =>
  bif (!decide (g = w)) then some false else (F13 k l).bind fun t2 => (F15 k x0 t2).bind fun e => bif (!e) then some false else some true
def S7 (k : Nat) : CSpec := { params := [.slice EvT, I], res := [(.bool, false)], fresh := true, sem := fun x => F7 k x.1 x.2.1 }
theorem e7 : (fun k => evFn ((T3 (fun _ _ => ⟨[], [], [], false⟩) k).cx (C4 k)) 5 Try.f7 (S7 0).params (S7 0).res true) = fun k => (S7 k).sem := by kernel_rfl
theorem ok7 (k : Nat) : (S7 k).ok Try.prog 7 := fn_ok (T3_ok (fun _ _ => ⟨[], [], [], false⟩) k) (calls := (C4 k)) (C4_ok k) 5 rfl (S7 k) (congrFun e7 k)
end Go.Proofs.Ytdfaecccdhhbeaa.Fns
