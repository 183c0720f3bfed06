/- The functions of round r1, each by its functional form. -/
import Derived.Test.YtdfaecccdhhbeaaEvTy
import Derived.Test.YtdfaecccdhhbeaaProg
namespace Go.Proofs.Ytdfaecccdhhbeaa.Fns
open Go Go.RowKit Go.Proofs Go.Proofs.Ytdfaecccdhhbeaa.Ev
set_option maxRecDepth 100000
def EvB : Ty := .pair (.int .i64) (.pair (.int .i64) (.pair (.int .i64) (.pair .str (.pair (.int .i64) (.int .i64)))))
def EvT : Ty := .struct EvB
abbrev EvD := Int × Int × Int × ByteArray × Int × Int
abbrev I : Ty := .int .i64
def Ev0 : EvD := EvT.zero

noncomputable def T (keep : List Nat → Nat → Keep) (k : Nat) : Tabs where
  ty := [(3, I), (4, .bool), (9, .str), (24, .slice EvT), (27, .slice EvT), (39, EvT), (40, EvT)]
  cmp := []
  body := [(5, Try.f5), (11, Try.f11), (13, Try.f13), (15, Try.f15), (16, Try.f16), (17, Try.f17), (26, Try.f26), (27, Try.f27), (30, Try.f30), (31, Try.f31), (32, Try.f32)]
  keep := keep
  k := k
theorem T_ok (keep : List Nat → Nat → Keep) (k : Nat) : (T keep k).ok Try.prog where
  ty := by kernel_rfl
  cmp := by kernel_rfl
  body := ⟨⟨Try.func5, by kernel_rfl, by kernel_rfl⟩, ⟨Try.func11, by kernel_rfl, by kernel_rfl⟩, ⟨Try.func13, by kernel_rfl, by kernel_rfl⟩, ⟨Try.func15, by kernel_rfl, by kernel_rfl⟩, ⟨Try.func16, by kernel_rfl, by kernel_rfl⟩,
    ⟨Try.func17, by kernel_rfl, by kernel_rfl⟩, ⟨Try.func26, by kernel_rfl, by kernel_rfl⟩, ⟨Try.func27, by kernel_rfl, by kernel_rfl⟩, ⟨Try.func30, by kernel_rfl, by kernel_rfl⟩, ⟨Try.func31, by kernel_rfl, by kernel_rfl⟩, ⟨Try.func32, by kernel_rfl, by kernel_rfl⟩, trivial⟩
  mixed := by kernel_rfl

def F26 (e : EvD) (left : Int) : Option Int := bif decide (wrap64 (left - ↑(ByteArray.size e.2.2.2.1)) < 0) then some (-1) else some (wrap64 (left - ↑(ByteArray.size e.2.2.2.1)))
def S26 : CSpec := { params := [EvT, I], res := [(I, false)], fresh := true, sem := fun x => F26 x.1 x.2.1 }
theorem ok26 : S26.ok Try.prog 26 := fn_ok (T_ok (fun _ _ => ⟨[], [], [], false⟩) 0) (calls := []) trivial 5 rfl S26 (by kernel_rfl)

def F27 (e : EvD) : Option EvD := some e
def S27 : CSpec := { params := [EvT], res := [(EvT, false)], fresh := true, sem := fun x => F27 x.1 }
theorem ok27 : S27.ok Try.prog 27 := fn_ok (T_ok (fun _ _ => ⟨[], [], [], false⟩) 0) (calls := []) trivial 5 rfl S27 (by kernel_rfl)

def F30 (a b : EvD) : Option Bool :=
  bif (!decide (a.1 = b.1)) then some false else bif (!decide (a.2.1 = b.2.1)) then some false else bif (!decide (a.2.2.1 = b.2.2.1)) then some false else
  bif (!decide (a.2.2.2.1 = b.2.2.2.1)) then some false else bif (!decide (a.2.2.2.2.1 = b.2.2.2.2.1)) then some false else bif (!decide (a.2.2.2.2.2 = b.2.2.2.2.2)) then some false else some true
def S30 : CSpec := { params := [EvT, EvT], res := [(.bool, false)], fresh := true, sem := fun x => F30 x.1 x.2.1 }
theorem ok30 : S30.ok Try.prog 30 := fn_ok (T_ok (fun _ _ => ⟨[], [], [], false⟩) 0) (calls := []) trivial 5 rfl S30 (by kernel_rfl)

def C1 : List (Nat × CSpec) := [(26, S26), (27, S27), (30, S30)]
theorem C1_ok : callsOk Try.prog C1 := ⟨ok26, ok27, ok30, trivial⟩

def F11 (k : Nat) (l : List EvD) (left : Int) : Option Int :=
  bif decide (wrap64 (left - (l.length : Int)) < 0) then some (-1) else
  iter (σ := Int × Int × Unit) (fun rec x => bif decide (x.2.1 < (l.length : Int)) then
     bif decide (0 ≤ x.2.1 ∧ x.2.1 < (l.length : Int)) then
       (F26 (l.getD x.2.1.toNat Ev0) x.1).bind fun r => bif decide (r < 0) then some (-1) else rec (r, wrap64 (x.2.1 + 1), ())
     else none
    else some x.1) k (wrap64 (left - (l.length : Int)), 0, ())
def S11 (k : Nat) : CSpec := { params := [.slice EvT, I], res := [(I, false)], fresh := true, sem := fun x => F11 k x.1 x.2.1 }
theorem e11 : (fun k => evFn ((T (fun _ _ => ⟨[1, 5], [], [], false⟩) k).cx C1) 5 Try.f11 (S11 0).params (S11 0).res true) = fun k => (S11 k).sem := by kernel_rfl
theorem ok11 (k : Nat) : (S11 k).ok Try.prog 11 := fn_ok (T_ok (fun _ _ => ⟨[1, 5], [], [], false⟩) k) (calls := C1) C1_ok 5 rfl (S11 k) (congrFun e11 k)

def F13 (k : Nat) (l : List EvD) : Option (List EvD) :=
  bif decide (0 ≤ (l.length : Int) ∧ (l.length : Int) = (l.length : Int) ∧ (l.length : Int) < (most : Int)) then
    iter (σ := Int × List EvD × Unit) (fun rec x => bif decide (x.1 < (l.length : Int)) then
       bif decide (0 ≤ x.1 ∧ x.1 < (l.length : Int)) then
         (F27 (l.getD x.1.toNat Ev0)).bind fun y =>
           bif decide (0 ≤ x.1 ∧ x.1 < (x.2.1.length : Int)) then rec (wrap64 (x.1 + 1), x.2.1.set x.1.toNat y, ()) else none
       else none
      else some x.2.1) k (0, List.replicate ((l.length : Int)).toNat Ev0, ())
  else none
def S13 (k : Nat) : CSpec := { params := [.slice EvT], res := [(.slice EvT, false)], fresh := true, sem := fun x => F13 k x.1 }
theorem e13 : (fun k => evFn ((T (fun _ _ => ⟨[4], [1], [], false⟩) k).cx C1) 5 Try.f13 (S13 0).params (S13 0).res true) = fun k => (S13 k).sem := by kernel_rfl
theorem ok13 (k : Nat) : (S13 k).ok Try.prog 13 := fn_ok (T_ok (fun _ _ => ⟨[4], [1], [], false⟩) k) (calls := C1) C1_ok 5 rfl (S13 k) (congrFun e13 k)

def F15 (k : Nat) (a b : List EvD) : Option Bool :=
  bif (!decide ((a.length : Int) = (b.length : Int))) then some false else
  iter (σ := Int × Unit) (fun rec x => bif decide (x.1 < (a.length : Int)) then
     bif decide (0 ≤ x.1 ∧ x.1 < (a.length : Int)) then
       bif decide (0 ≤ x.1 ∧ x.1 < (b.length : Int)) then
         (F30 (a.getD x.1.toNat Ev0) (b.getD x.1.toNat Ev0)).bind fun r => bif (!r) then some false else rec (wrap64 (x.1 + 1), ())
       else none
     else none
    else some true) k (0, ())
def S15 (k : Nat) : CSpec := { params := [.slice EvT, .slice EvT], res := [(.bool, false)], fresh := true, sem := fun x => F15 k x.1 x.2.1 }
theorem e15 : (fun k => evFn ((T (fun _ _ => ⟨[5], [], [], false⟩) k).cx C1) 5 Try.f15 (S15 0).params (S15 0).res true) = fun k => (S15 k).sem := by kernel_rfl
theorem ok15 (k : Nat) : (S15 k).ok Try.prog 15 := fn_ok (T_ok (fun _ _ => ⟨[5], [], [], false⟩) k) (calls := C1) C1_ok 5 rfl (S15 k) (congrFun e15 k)

def F16 (k : Nat) (l : List EvD) (kind : Int) : Option Int :=
  iter (σ := Int × Int × Unit) (fun rec x => bif decide (x.2.1 < (l.length : Int)) then
     bif decide (0 ≤ x.2.1 ∧ x.2.1 < (l.length : Int)) then
       bif decide ((l.getD x.2.1.toNat Ev0).1 = kind) then rec (wrap64 (x.1 + 1), wrap64 (x.2.1 + 1), ()) else rec (x.1, wrap64 (x.2.1 + 1), ())
     else none
    else some x.1) k (0, 0, ())
def S16 (k : Nat) : CSpec := { params := [.slice EvT, I], res := [(I, false)], fresh := true, sem := fun x => F16 k x.1 x.2.1 }
theorem e16 : (fun k => evFn ((T (fun _ _ => ⟨[5, 6], [], [], false⟩) k).cx C1) 5 Try.f16 (S16 0).params (S16 0).res true) = fun k => (S16 k).sem := by kernel_rfl
theorem ok16 (k : Nat) : (S16 k).ok Try.prog 16 := fn_ok (T_ok (fun _ _ => ⟨[5, 6], [], [], false⟩) k) (calls := C1) C1_ok 5 rfl (S16 k) (congrFun e16 k)

def S17 (k : Nat) : CSpec := { params := [.slice EvT, I], res := [(I, false)], fresh := true, sem := fun x => F16 k x.1 x.2.1 }
theorem e17 : (fun k => evFn ((T (fun _ _ => ⟨[5, 10], [], [], false⟩) k).cx C1) 5 Try.f17 (S17 0).params (S17 0).res true) = fun k => (S17 k).sem := by kernel_rfl
theorem ok17 (k : Nat) : (S17 k).ok Try.prog 17 := fn_ok (T_ok (fun _ _ => ⟨[5, 10], [], [], false⟩) k) (calls := C1) C1_ok 5 rfl (S17 k) (congrFun e17 k)

def C2 (k : Nat) : List (Nat × CSpec) := [(11, S11 k), (13, S13 k), (15, S15 k), (16, S16 k), (17, S17 k)]
theorem C2_ok (k : Nat) : callsOk Try.prog (C2 k) := ⟨ok11 k, ok13 k, ok15 k, ok16 k, ok17 k, trivial⟩

def F5 (k : Nat) (l : List EvD) (kind : Int) : Option Bool :=
  (F11 k l 1048576).bind fun left => bif decide (left < 0) then some true else
  (F13 k l).bind fun t => (F16 k t kind).bind fun w => (F13 k l).bind fun x0 => (F16 k x0 kind).bind fun g =>
  bif (!decide (g = w)) then some false else (F13 k l).bind fun t2 => (F15 k x0 t2).bind fun e => bif (!e) then some false else some true
def S5 (k : Nat) : CSpec := { params := [.slice EvT, I], res := [(.bool, false)], fresh := true, sem := fun x => F5 k x.1 x.2.1 }
theorem e5 : (fun k => evFn ((T (fun _ _ => ⟨[], [], [], false⟩) k).cx (C2 k)) 5 Try.f5 (S5 0).params (S5 0).res true) = fun k => (S5 k).sem := by kernel_rfl
theorem ok5 (k : Nat) : (S5 k).ok Try.prog 5 := fn_ok (T_ok (fun _ _ => ⟨[], [], [], false⟩) k) (calls := (C2 k)) (C2_ok k) 5 rfl (S5 k) (congrFun e5 k)
end Go.Proofs.Ytdfaecccdhhbeaa.Fns
