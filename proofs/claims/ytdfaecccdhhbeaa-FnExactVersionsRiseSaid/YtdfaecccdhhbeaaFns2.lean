/- More functions of round r1, each by its functional form. -/
import Derived.Test.YtdfaecccdhhbeaaFns
namespace Go.Proofs.Ytdfaecccdhhbeaa.Fns
open Go Go.RowKit Go.Proofs Go.Proofs.Ytdfaecccdhhbeaa.Ev
set_option maxRecDepth 100000
noncomputable def T2 (keep : List Nat → Nat → Keep) (k : Nat) : Tabs where
  ty := [(3, I), (4, .bool), (9, .str), (24, .slice EvT), (27, .slice EvT), (39, EvT), (40, EvT)]
  cmp := []
  body := [(4, Try.f4), (6, Try.f6), (12, Try.f12), (14, Try.f14), (18, Try.f18), (19, Try.f19), (28, Try.f28), (29, Try.f29), (31, Try.f31), (33, Try.f33)]
  keep := keep
  k := k
theorem T2_ok (keep : List Nat → Nat → Keep) (k : Nat) : (T2 keep k).ok Try.prog where
  ty := by kernel_rfl
  cmp := by kernel_rfl
  body := ⟨⟨Try.func4, by kernel_rfl, by kernel_rfl⟩, ⟨Try.func6, by kernel_rfl, by kernel_rfl⟩, ⟨Try.func12, by kernel_rfl, by kernel_rfl⟩, ⟨Try.func14, by kernel_rfl, by kernel_rfl⟩, ⟨Try.func18, by kernel_rfl, by kernel_rfl⟩,
    ⟨Try.func19, by kernel_rfl, by kernel_rfl⟩, ⟨Try.func28, by kernel_rfl, by kernel_rfl⟩, ⟨Try.func29, by kernel_rfl, by kernel_rfl⟩, ⟨Try.func31, by kernel_rfl, by kernel_rfl⟩, ⟨Try.func33, by kernel_rfl, by kernel_rfl⟩, trivial⟩
  mixed := by kernel_rfl

def F18 (k : Nat) (l : List EvD) (u : ByteArray) : Option Int :=
  iter (σ := Int × Int × Unit) (fun rec x => bif decide (x.2.1 < (l.length : Int)) then
     bif decide (0 ≤ x.2.1 ∧ x.2.1 < (l.length : Int)) then
       bif decide ((l.getD x.2.1.toNat Ev0).1 = 6) then
         bif decide (0 ≤ x.2.1 ∧ x.2.1 < (l.length : Int)) then
           bif decide ((l.getD x.2.1.toNat Ev0).2.2.2.1 = u) then rec (wrap64 (x.1 + 1), wrap64 (x.2.1 + 1), ()) else rec (x.1, wrap64 (x.2.1 + 1), ())
         else none
       else rec (x.1, wrap64 (x.2.1 + 1), ())
     else none
    else some x.1) k (0, 0, ())
def S18 (k : Nat) : CSpec := { params := [.slice EvT, .str], res := [(I, false)], fresh := true, sem := fun x => F18 k x.1 x.2.1 }
theorem e18 : (fun k => evFn ((T2 (fun _ _ => ⟨[5, 6], [], [], false⟩) k).cx []) 5 Try.f18 (S18 0).params (S18 0).res true) = fun k => (S18 k).sem := by kernel_rfl
theorem ok18 (k : Nat) : (S18 k).ok Try.prog 18 := fn_ok (T2_ok (fun _ _ => ⟨[5, 6], [], [], false⟩) k) (calls := []) trivial 5 rfl (S18 k) (congrFun e18 k)

def F19 (k : Nat) (l : List EvD) (u : ByteArray) : Option Int :=
  iter (σ := Int × Int × Unit) (fun rec x => bif decide (x.2.1 < (l.length : Int)) then
     bif decide (0 ≤ x.2.1 ∧ x.2.1 < (l.length : Int)) then
       bif decide ((l.getD x.2.1.toNat Ev0).1 = 6) then
         bif decide ((l.getD x.2.1.toNat Ev0).2.2.2.1 = u) then rec (wrap64 (x.1 + 1), wrap64 (x.2.1 + 1), ()) else rec (x.1, wrap64 (x.2.1 + 1), ())
       else rec (x.1, wrap64 (x.2.1 + 1), ())
     else none
    else some x.1) k (0, 0, ())
def S19 (k : Nat) : CSpec := { params := [.slice EvT, .str], res := [(I, false)], fresh := true, sem := fun x => F19 k x.1 x.2.1 }
theorem e19 : (fun k => evFn ((T2 (fun _ _ => ⟨[5, 10], [], [], false⟩) k).cx []) 5 Try.f19 (S19 0).params (S19 0).res true) = fun k => (S19 k).sem := by kernel_rfl
theorem ok19 (k : Nat) : (S19 k).ok Try.prog 19 := fn_ok (T2_ok (fun _ _ => ⟨[5, 10], [], [], false⟩) k) (calls := []) trivial 5 rfl (S19 k) (congrFun e19 k)

def F12 (k : Nat) (l : List EvD) (s : Int) : Option Int :=
  iter (σ := Int × Unit) (fun rec x => bif decide (x.1 < (l.length : Int)) then
     bif decide (0 ≤ x.1 ∧ x.1 < (l.length : Int)) then
       bif decide ((l.getD x.1.toNat Ev0).1 = 1) then
         bif decide (0 ≤ x.1 ∧ x.1 < (l.length : Int)) then
           bif decide ((l.getD x.1.toNat Ev0).2.2.1 = s) then some x.1 else rec (wrap64 (x.1 + 1), ())
         else none
       else rec (wrap64 (x.1 + 1), ())
     else none
    else some (-1)) k (0, ())
def S12 (k : Nat) : CSpec := { params := [.slice EvT, I], res := [(I, false)], fresh := true, sem := fun x => F12 k x.1 x.2.1 }
theorem e12 : (fun k => evFn ((T2 (fun _ _ => ⟨[5], [], [], false⟩) k).cx []) 5 Try.f12 (S12 0).params (S12 0).res true) = fun k => (S12 k).sem := by kernel_rfl
theorem ok12 (k : Nat) : (S12 k).ok Try.prog 12 := fn_ok (T2_ok (fun _ _ => ⟨[5], [], [], false⟩) k) (calls := []) trivial 5 rfl (S12 k) (congrFun e12 k)

def F14 (k : Nat) (l : List EvD) (s : Int) : Option Int :=
  iter (σ := Int × Unit) (fun rec x => bif decide (x.1 < (l.length : Int)) then
     bif decide (0 ≤ x.1 ∧ x.1 < (l.length : Int)) then
       bif decide ((l.getD x.1.toNat Ev0).1 = 1) then
         bif decide ((l.getD x.1.toNat Ev0).2.2.1 = s) then some x.1 else rec (wrap64 (x.1 + 1), ())
       else rec (wrap64 (x.1 + 1), ())
     else none
    else some (-1)) k (0, ())
def S14 (k : Nat) : CSpec := { params := [.slice EvT, I], res := [(I, false)], fresh := true, sem := fun x => F14 k x.1 x.2.1 }
theorem e14 : (fun k => evFn ((T2 (fun _ _ => ⟨[8], [], [], false⟩) k).cx []) 5 Try.f14 (S14 0).params (S14 0).res true) = fun k => (S14 k).sem := by kernel_rfl
theorem ok14 (k : Nat) : (S14 k).ok Try.prog 14 := fn_ok (T2_ok (fun _ _ => ⟨[8], [], [], false⟩) k) (calls := []) trivial 5 rfl (S14 k) (congrFun e14 k)

def C3 (k : Nat) : List (Nat × CSpec) := [(11, S11 k), (13, S13 k), (15, S15 k), (18, S18 k), (19, S19 k), (12, S12 k), (14, S14 k)]
theorem C3_ok (k : Nat) : callsOk Try.prog (C3 k) := ⟨ok11 k, ok13 k, ok15 k, ok18 k, ok19 k, ok12 k, ok14 k, trivial⟩

def F6 (k : Nat) (l : List EvD) (u : ByteArray) : Option Bool :=
  bif decide ((1048576 : Int) < (u.size : Int)) then some true else
  (F11 k l 1048576).bind fun left => bif decide (left < 0) then some true else
  (F13 k l).bind fun t => (F18 k t u).bind fun w => (F13 k l).bind fun x0 => (F19 k x0 u).bind fun g =>
  bif (!decide (g = w)) then some false else (F13 k l).bind fun t2 => (F15 k x0 t2).bind fun e => bif (!e) then some false else some true
def S6 (k : Nat) : CSpec := { params := [.slice EvT, .str], res := [(.bool, false)], fresh := true, sem := fun x => F6 k x.1 x.2.1 }
theorem e6 : (fun k => evFn ((T2 (fun _ _ => ⟨[], [], [], false⟩) k).cx (C3 k)) 5 Try.f6 (S6 0).params (S6 0).res true) = fun k => (S6 k).sem := by kernel_rfl
theorem ok6 (k : Nat) : (S6 k).ok Try.prog 6 := fn_ok (T2_ok (fun _ _ => ⟨[], [], [], false⟩) k) (calls := (C3 k)) (C3_ok k) 5 rfl (S6 k) (congrFun e6 k)

def F4 (k : Nat) (l : List EvD) (s : Int) : Option Bool :=
  (F11 k l 1048576).bind fun left => bif decide (left < 0) then some true else
  (F13 k l).bind fun t => (F12 k t s).bind fun w => (F13 k l).bind fun x0 => (F14 k x0 s).bind fun g =>
  bif (!decide (g = w)) then some false else (F13 k l).bind fun t2 => (F15 k x0 t2).bind fun e => bif (!e) then some false else some true
def S4 (k : Nat) : CSpec := { params := [.slice EvT, I], res := [(.bool, false)], fresh := true, sem := fun x => F4 k x.1 x.2.1 }
theorem e4 : (fun k => evFn ((T2 (fun _ _ => ⟨[], [], [], false⟩) k).cx (C3 k)) 5 Try.f4 (S4 0).params (S4 0).res true) = fun k => (S4 k).sem := by kernel_rfl
theorem ok4 (k : Nat) : (S4 k).ok Try.prog 4 := fn_ok (T2_ok (fun _ _ => ⟨[], [], [], false⟩) k) (calls := (C3 k)) (C3_ok k) 5 rfl (S4 k) (congrFun e4 k)
end Go.Proofs.Ytdfaecccdhhbeaa.Fns
