/- The functions of this part of the program, each by its functional form. -/
import Derived.Test.YthbdlnhcioolgaaDoorEvTy
import Derived.Test.YthbdlnhcioolgaaDoorProg
import Derived.Test.YthbdlnhcioolgaaDoorEvLb
import Derived.Test.YthbdlnhcioolgaaDoorShelf
namespace Go.Proofs.YthbdlnhcioolgaaDoor.Fns
open Go Go.RowKit Go.Proofs Go.Proofs.YthbdlnhcioolgaaDoor.Ev
set_option maxRecDepth 1000000
set_option linter.unusedVariables false
abbrev U0 : Ty := .struct (.pair (.int .i64) (.pair (.int .i64) (.pair (.int .i64) (.pair .str (.pair (.int .i64) (.int .i64))))))
abbrev D0 := Int × Int × Int × ByteArray × Int × Int
def Z0 : D0 := Ty.zero U0
abbrev U1 : Ty := .struct (.pair .str .str)
abbrev D1 := ByteArray × ByteArray
def Z1 : D1 := Ty.zero U1
abbrev U2 : Ty := .struct (.pair (.int .i64) (.pair (.slice U1) .str))
abbrev D2 := Int × (List D1) × ByteArray
def Z2 : D2 := Ty.zero U2
def kp (l : List ((List Nat × Nat) × Keep)) : List Nat → Nat → Keep := fun p r => match l with | [] => ⟨[], [], [], false⟩ | e :: l => bif p == e.1.1 && Nat.beq r e.1.2 then e.2 else kp l p r
noncomputable def T (keep : List Nat → Nat → Keep) (k : Nat) : Tabs where
  ty := [(3, (.int .i64)), (4, .bool), (5, (.int .u8)), (9, .str), (23, U0), (26, U0), (29, (.slice U0)), (32, (.slice U0)), (36, (.slice U1)), (38, U2), (41, (.slice U1)), (43, U2), (48, (.slice .str)), (54, (.slice (.int .u8))), (61, .err), (67, U1), (72, U1)]
  cmp := []
  body := [(3, Tryd.f3), (4, Tryd.f4), (5, Tryd.f5), (6, Tryd.f6), (7, Tryd.f7), (8, Tryd.f8), (9, Tryd.f9), (10, Tryd.f10), (11, Tryd.f11), (12, Tryd.f12), (13, Tryd.f13), (14, Tryd.f14), (15, Tryd.f15), (16, Tryd.f16), (17, Tryd.f17), (18, Tryd.f18), (19, Tryd.f19), (20, Tryd.f20), (21, Tryd.f21), (23, Tryd.f23), (24, Tryd.f24), (25, Tryd.f25), (26, Tryd.f26), (27, Tryd.f27), (28, Tryd.f28), (29, Tryd.f29), (30, Tryd.f30), (31, Tryd.f31), (36, Tryd.f36), (37, Tryd.f37), (38, Tryd.f38), (39, Tryd.f39), (40, Tryd.f40), (41, Tryd.f41), (42, Tryd.f42), (43, Tryd.f43), (44, Tryd.f44), (45, Tryd.f45)]
  keep := keep
  k := k
theorem T_ok (keep : List Nat → Nat → Keep) (k : Nat) : (T keep k).ok Tryd.prog where
  ty := by kernel_rfl
  cmp := by kernel_rfl
  body := ⟨⟨Tryd.func3, by kernel_rfl, by kernel_rfl⟩, ⟨Tryd.func4, by kernel_rfl, by kernel_rfl⟩, ⟨Tryd.func5, by kernel_rfl, by kernel_rfl⟩, ⟨Tryd.func6, by kernel_rfl, by kernel_rfl⟩, ⟨Tryd.func7, by kernel_rfl, by kernel_rfl⟩, ⟨Tryd.func8, by kernel_rfl, by kernel_rfl⟩, ⟨Tryd.func9, by kernel_rfl, by kernel_rfl⟩, ⟨Tryd.func10, by kernel_rfl, by kernel_rfl⟩, ⟨Tryd.func11, by kernel_rfl, by kernel_rfl⟩, ⟨Tryd.func12, by kernel_rfl, by kernel_rfl⟩, ⟨Tryd.func13, by kernel_rfl, by kernel_rfl⟩, ⟨Tryd.func14, by kernel_rfl, by kernel_rfl⟩, ⟨Tryd.func15, by kernel_rfl, by kernel_rfl⟩, ⟨Tryd.func16, by kernel_rfl, by kernel_rfl⟩, ⟨Tryd.func17, by kernel_rfl, by kernel_rfl⟩, ⟨Tryd.func18, by kernel_rfl, by kernel_rfl⟩, ⟨Tryd.func19, by kernel_rfl, by kernel_rfl⟩, ⟨Tryd.func20, by kernel_rfl, by kernel_rfl⟩, ⟨Tryd.func21, by kernel_rfl, by kernel_rfl⟩, ⟨Tryd.func23, by kernel_rfl, by kernel_rfl⟩, ⟨Tryd.func24, by kernel_rfl, by kernel_rfl⟩, ⟨Tryd.func25, by kernel_rfl, by kernel_rfl⟩, ⟨Tryd.func26, by kernel_rfl, by kernel_rfl⟩, ⟨Tryd.func27, by kernel_rfl, by kernel_rfl⟩, ⟨Tryd.func28, by kernel_rfl, by kernel_rfl⟩, ⟨Tryd.func29, by kernel_rfl, by kernel_rfl⟩, ⟨Tryd.func30, by kernel_rfl, by kernel_rfl⟩, ⟨Tryd.func31, by kernel_rfl, by kernel_rfl⟩, ⟨Tryd.func36, by kernel_rfl, by kernel_rfl⟩, ⟨Tryd.func37, by kernel_rfl, by kernel_rfl⟩, ⟨Tryd.func38, by kernel_rfl, by kernel_rfl⟩, ⟨Tryd.func39, by kernel_rfl, by kernel_rfl⟩, ⟨Tryd.func40, by kernel_rfl, by kernel_rfl⟩, ⟨Tryd.func41, by kernel_rfl, by kernel_rfl⟩, ⟨Tryd.func42, by kernel_rfl, by kernel_rfl⟩, ⟨Tryd.func43, by kernel_rfl, by kernel_rfl⟩, ⟨Tryd.func44, by kernel_rfl, by kernel_rfl⟩, ⟨Tryd.func45, by kernel_rfl, by kernel_rfl⟩, trivial⟩
  mixed := by kernel_rfl

/-- loop.example/g01402/laws.szEvent -/
def F6 (k : Nat) (a0 : D0) (a1 : Int) : Option (Int) :=
  (bif (decide ((wrap64 (a1 - (a0.2.2.2.1.size : Int))) < (0 : Int))) then some (-1 : Int) else some (wrap64 (a1 - (a0.2.2.2.1.size : Int))))
def S6 (k : Nat) : CSpec := { params := [U0, (.int .i64)], res := [((.int .i64), false)], fresh := true, sem := fun x => F6 k x.1 x.2.1 }
theorem e6 : (fun k => evFn ((T (fun _ _ => ⟨[], [], [], false⟩) k).cx []) 5 Tryd.f6 (S6 0).params (S6 0).res true) = fun k => (S6 k).sem := by kernel_rfl
theorem ok6 {G : World → Prop} (hG : GoodW Tryd.prog G) (k : Nat) : (S6 k).ok Tryd.prog G 6 := fn_ok (T_ok (fun _ _ => ⟨[], [], [], false⟩) k) hG.lasts (calls := []) trivial 5 rfl (S6 k) (congrFun e6 k)

/-- loop.example/g01402/laws.toEvent -/
def F8 (k : Nat) (a0 : D0) : Option (D0) :=
  some a0
def S8 (k : Nat) : CSpec := { params := [U0], res := [(U0, false)], fresh := true, sem := fun x => F8 k x.1 }
theorem e8 : (fun k => evFn ((T (fun _ _ => ⟨[], [], [], false⟩) k).cx []) 5 Tryd.f8 (S8 0).params (S8 0).res true) = fun k => (S8 k).sem := by kernel_rfl
theorem ok8 {G : World → Prop} (hG : GoodW Tryd.prog G) (k : Nat) : (S8 k).ok Tryd.prog G 8 := fn_ok (T_ok (fun _ _ => ⟨[], [], [], false⟩) k) hG.lasts (calls := []) trivial 5 rfl (S8 k) (congrFun e8 k)

/-- loop.example/g01402/spec.Dec -/
def F20 (k : Nat) (a0 : Int) : Option (ByteArray) :=
  (bif (decide (a0 = (0 : Int))) then some (ByteArray.mk #[48]) else (iter (σ := Int × ByteArray × Unit) (fun rec4 x3 => (bif (!decide (x3.1 = (0 : Int))) then (bif (decide ((10 : Int) = 0)) then none else (bif (decide ((x3.1.tmod (10 : Int)) < (0 : Int))) then (bif (decide ((strOf ([(wr .u8 ((wrap64 ((48 : Int) + (wrap64 (-(x3.1.tmod (10 : Int))))))))] : List Int)).size + x3.2.1.size < mostText)) then (bif (decide ((10 : Int) = 0)) then none else (rec4 ((wrap64 (x3.1.tdiv (10 : Int))), ((strOf ([(wr .u8 ((wrap64 ((48 : Int) + (wrap64 (-(x3.1.tmod (10 : Int))))))))] : List Int)) ++ x3.2.1), ()))) else none) else (bif (decide ((strOf ([(wr .u8 ((wrap64 ((48 : Int) + (x3.1.tmod (10 : Int))))))] : List Int)).size + x3.2.1.size < mostText)) then (bif (decide ((10 : Int) = 0)) then none else (rec4 ((wrap64 (x3.1.tdiv (10 : Int))), ((strOf ([(wr .u8 ((wrap64 ((48 : Int) + (x3.1.tmod (10 : Int))))))] : List Int)) ++ x3.2.1), ()))) else none))) else (bif (decide (a0 < (0 : Int))) then (bif (decide ((ByteArray.mk #[45]).size + x3.2.1.size < mostText)) then some ((ByteArray.mk #[45]) ++ x3.2.1) else none) else some x3.2.1))) k (a0, (ByteArray.mk #[]), ())))
def S20 (k : Nat) : CSpec := { params := [(.int .i64)], res := [(.str, false)], fresh := true, sem := fun x => F20 k x.1 }
theorem e20 : (fun k => evFn ((T (fun _ _ => ⟨[0, 3], [], [], false⟩) k).cx []) 5 Tryd.f20 (S20 0).params (S20 0).res true) = fun k => (S20 k).sem := by kernel_rfl
theorem ok20 {G : World → Prop} (hG : GoodW Tryd.prog G) (k : Nat) : (S20 k).ok Tryd.prog G 20 := fn_ok (T_ok (fun _ _ => ⟨[0, 3], [], [], false⟩) k) hG.lasts (calls := []) trivial 5 rfl (S20 k) (congrFun e20 k)

/-- loop.example/g01402/spec.l1In -/
def F31 (k : Nat) (a0 : Int) (a1 : Int) (a2 : Int) : Option (Bool) :=
  (bif (decide (a1 ≤ a0)) then some (decide (a0 ≤ a2)) else some false)
def S31 (k : Nat) : CSpec := { params := [(.int .i64), (.int .i64), (.int .i64)], res := [(.bool, false)], fresh := true, sem := fun x => F31 k x.1 x.2.1 x.2.2.1 }
theorem e31 : (fun k => evFn ((T (fun _ _ => ⟨[], [], [], false⟩) k).cx []) 5 Tryd.f31 (S31 0).params (S31 0).res true) = fun k => (S31 k).sem := by kernel_rfl
theorem ok31 {G : World → Prop} (hG : GoodW Tryd.prog G) (k : Nat) : (S31 k).ok Tryd.prog G 31 := fn_ok (T_ok (fun _ _ => ⟨[], [], [], false⟩) k) hG.lasts (calls := []) trivial 5 rfl (S31 k) (congrFun e31 k)

/-- loop.example/g01402/spec.EventWord -/
def F21 (k : Nat) (a0 : Int) : Option (ByteArray) :=
  ((F31 k a0 (1 : Int) (12 : Int)).bind fun r1 => (bif (!r1) then some (ByteArray.mk #[]) else (bif (decide (0 ≤ (wrap64 (a0 - (1 : Int))) ∧ (wrap64 (a0 - (1 : Int))) < (([(ByteArray.mk #[97, 114, 114, 105, 118, 101]), (ByteArray.mk #[104, 105, 116]), (ByteArray.mk #[106, 111, 105, 110]), (ByteArray.mk #[108, 101, 97, 100]), (ByteArray.mk #[97, 108, 111, 110, 101]), (ByteArray.mk #[115, 101, 110, 100]), (ByteArray.mk #[115, 116, 111, 114, 101]), (ByteArray.mk #[112, 97, 115, 115]), (ByteArray.mk #[100, 114, 111, 112]), (ByteArray.mk #[115, 104, 97, 114, 101]), (ByteArray.mk #[116, 101, 108, 108]), (ByteArray.mk #[98, 97, 100])] : List ByteArray).length : Int))) then some (([(ByteArray.mk #[97, 114, 114, 105, 118, 101]), (ByteArray.mk #[104, 105, 116]), (ByteArray.mk #[106, 111, 105, 110]), (ByteArray.mk #[108, 101, 97, 100]), (ByteArray.mk #[97, 108, 111, 110, 101]), (ByteArray.mk #[115, 101, 110, 100]), (ByteArray.mk #[115, 116, 111, 114, 101]), (ByteArray.mk #[112, 97, 115, 115]), (ByteArray.mk #[100, 114, 111, 112]), (ByteArray.mk #[115, 104, 97, 114, 101]), (ByteArray.mk #[116, 101, 108, 108]), (ByteArray.mk #[98, 97, 100])] : List ByteArray).getD (wrap64 (a0 - (1 : Int))).toNat (ByteArray.mk #[])) else none)))
def S21 (k : Nat) : CSpec := { params := [(.int .i64)], res := [(.str, false)], fresh := true, sem := fun x => F21 k x.1 }
theorem e21 : (fun k => evFn ((T (fun _ _ => ⟨[], [], [], false⟩) k).cx [(31, S31 k)]) 5 Tryd.f21 (S21 0).params (S21 0).res true) = fun k => (S21 k).sem := by kernel_rfl
theorem ok21 {G : World → Prop} (hG : GoodW Tryd.prog G) (k : Nat) : (S21 k).ok Tryd.prog G 21 := fn_ok (T_ok (fun _ _ => ⟨[], [], [], false⟩) k) hG.lasts (calls := [(31, S31 k)]) ⟨ok31 hG k, trivial⟩ 5 rfl (S21 k) (congrFun e21 k)

/-- loop.example/g01402/spec.ShowEvent -/
def F7 (k : Nat) (a0 : D0) : Option (ByteArray) :=
  ((F20 k a0.2.2.2.2.2).bind fun r1 => (bif (decide (r1.size + (ByteArray.mk #[32]).size < mostText)) then ((F20 k a0.2.1).bind fun r2 => (bif (decide ((r1 ++ (ByteArray.mk #[32])).size + r2.size < mostText)) then (bif (decide (((r1 ++ (ByteArray.mk #[32])) ++ r2).size + (ByteArray.mk #[32]).size < mostText)) then ((F20 k a0.2.2.1).bind fun r3 => (bif (decide ((((r1 ++ (ByteArray.mk #[32])) ++ r2) ++ (ByteArray.mk #[32])).size + r3.size < mostText)) then (bif (decide (((((r1 ++ (ByteArray.mk #[32])) ++ r2) ++ (ByteArray.mk #[32])) ++ r3).size + (ByteArray.mk #[32]).size < mostText)) then ((F21 k a0.1).bind fun r4 => (bif (decide ((((((r1 ++ (ByteArray.mk #[32])) ++ r2) ++ (ByteArray.mk #[32])) ++ r3) ++ (ByteArray.mk #[32])).size + r4.size < mostText)) then (bif (decide (((((((r1 ++ (ByteArray.mk #[32])) ++ r2) ++ (ByteArray.mk #[32])) ++ r3) ++ (ByteArray.mk #[32])) ++ r4).size + (ByteArray.mk #[32]).size < mostText)) then (bif (decide ((((((((r1 ++ (ByteArray.mk #[32])) ++ r2) ++ (ByteArray.mk #[32])) ++ r3) ++ (ByteArray.mk #[32])) ++ r4) ++ (ByteArray.mk #[32])).size + a0.2.2.2.1.size < mostText)) then (bif (decide (((((((((r1 ++ (ByteArray.mk #[32])) ++ r2) ++ (ByteArray.mk #[32])) ++ r3) ++ (ByteArray.mk #[32])) ++ r4) ++ (ByteArray.mk #[32])) ++ a0.2.2.2.1).size + (ByteArray.mk #[32]).size < mostText)) then ((F20 k a0.2.2.2.2.1).bind fun r5 => (bif (decide ((((((((((r1 ++ (ByteArray.mk #[32])) ++ r2) ++ (ByteArray.mk #[32])) ++ r3) ++ (ByteArray.mk #[32])) ++ r4) ++ (ByteArray.mk #[32])) ++ a0.2.2.2.1) ++ (ByteArray.mk #[32])).size + r5.size < mostText)) then some ((((((((((r1 ++ (ByteArray.mk #[32])) ++ r2) ++ (ByteArray.mk #[32])) ++ r3) ++ (ByteArray.mk #[32])) ++ r4) ++ (ByteArray.mk #[32])) ++ a0.2.2.2.1) ++ (ByteArray.mk #[32])) ++ r5) else none)) else none) else none) else none) else none)) else none) else none)) else none) else none)) else none))
def S7 (k : Nat) : CSpec := { params := [U0], res := [(.str, false)], fresh := true, sem := fun x => F7 k x.1 }
theorem e7 : (fun k => evFn ((T (fun _ _ => ⟨[], [], [], false⟩) k).cx [(20, S20 k), (21, S21 k)]) 5 Tryd.f7 (S7 0).params (S7 0).res true) = fun k => (S7 k).sem := by kernel_rfl
theorem ok7 {G : World → Prop} (hG : GoodW Tryd.prog G) (k : Nat) : (S7 k).ok Tryd.prog G 7 := fn_ok (T_ok (fun _ _ => ⟨[], [], [], false⟩) k) hG.lasts (calls := [(20, S20 k), (21, S21 k)]) ⟨ok20 hG k, ok21 hG k, trivial⟩ 5 rfl (S7 k) (congrFun e7 k)

/-- strconv.Itoa -/
def S35 (k : Nat) : CSpec := { params := [(.int .i64)], res := [(.str, false)], fresh := true, sem := fun x => semItoa x.1 }
theorem ok35 {G : World → Prop} (hG : GoodW Tryd.prog G) (k : Nat) : (S35 k).ok Tryd.prog G 35 := ok_Itoa Tryd.func35 (by kernel_rfl) (by kernel_rfl) hG Tryd.strconv_Itoa

/-- loop.example/g01402/impl.Dec -/
def F23 (k : Nat) (a0 : Int) : Option (ByteArray) :=
  ((semItoa a0).bind fun r1 => some r1)
def S23 (k : Nat) : CSpec := { params := [(.int .i64)], res := [(.str, false)], fresh := true, sem := fun x => F23 k x.1 }
theorem e23 : (fun k => evFn ((T (fun _ _ => ⟨[], [], [], false⟩) k).cx [(35, S35 k)]) 5 Tryd.f23 (S23 0).params (S23 0).res true) = fun k => (S23 k).sem := by kernel_rfl
theorem ok23 {G : World → Prop} (hG : GoodW Tryd.prog G) (k : Nat) : (S23 k).ok Tryd.prog G 23 := fn_ok (T_ok (fun _ _ => ⟨[], [], [], false⟩) k) hG.lasts (calls := [(35, S35 k)]) ⟨ok35 hG k, trivial⟩ 5 rfl (S23 k) (congrFun e23 k)

/-- loop.example/g01402/impl.in -/
def F36 (k : Nat) (a0 : Int) (a1 : Int) (a2 : Int) : Option (Bool) :=
  (bif (decide (a1 ≤ a0)) then some (decide (a0 ≤ a2)) else some false)
def S36 (k : Nat) : CSpec := { params := [(.int .i64), (.int .i64), (.int .i64)], res := [(.bool, false)], fresh := true, sem := fun x => F36 k x.1 x.2.1 x.2.2.1 }
theorem e36 : (fun k => evFn ((T (fun _ _ => ⟨[], [], [], false⟩) k).cx []) 5 Tryd.f36 (S36 0).params (S36 0).res true) = fun k => (S36 k).sem := by kernel_rfl
theorem ok36 {G : World → Prop} (hG : GoodW Tryd.prog G) (k : Nat) : (S36 k).ok Tryd.prog G 36 := fn_ok (T_ok (fun _ _ => ⟨[], [], [], false⟩) k) hG.lasts (calls := []) trivial 5 rfl (S36 k) (congrFun e36 k)

/-- loop.example/g01402/impl.EventWord -/
def F24 (k : Nat) (a0 : Int) : Option (ByteArray) :=
  ((F36 k a0 (1 : Int) (12 : Int)).bind fun r1 => (bif (!r1) then some (ByteArray.mk #[]) else (bif (decide (0 ≤ (wrap64 (a0 - (1 : Int))) ∧ (wrap64 (a0 - (1 : Int))) < (([(ByteArray.mk #[97, 114, 114, 105, 118, 101]), (ByteArray.mk #[104, 105, 116]), (ByteArray.mk #[106, 111, 105, 110]), (ByteArray.mk #[108, 101, 97, 100]), (ByteArray.mk #[97, 108, 111, 110, 101]), (ByteArray.mk #[115, 101, 110, 100]), (ByteArray.mk #[115, 116, 111, 114, 101]), (ByteArray.mk #[112, 97, 115, 115]), (ByteArray.mk #[100, 114, 111, 112]), (ByteArray.mk #[115, 104, 97, 114, 101]), (ByteArray.mk #[116, 101, 108, 108]), (ByteArray.mk #[98, 97, 100])] : List ByteArray).length : Int))) then some (([(ByteArray.mk #[97, 114, 114, 105, 118, 101]), (ByteArray.mk #[104, 105, 116]), (ByteArray.mk #[106, 111, 105, 110]), (ByteArray.mk #[108, 101, 97, 100]), (ByteArray.mk #[97, 108, 111, 110, 101]), (ByteArray.mk #[115, 101, 110, 100]), (ByteArray.mk #[115, 116, 111, 114, 101]), (ByteArray.mk #[112, 97, 115, 115]), (ByteArray.mk #[100, 114, 111, 112]), (ByteArray.mk #[115, 104, 97, 114, 101]), (ByteArray.mk #[116, 101, 108, 108]), (ByteArray.mk #[98, 97, 100])] : List ByteArray).getD (wrap64 (a0 - (1 : Int))).toNat (ByteArray.mk #[])) else none)))
def S24 (k : Nat) : CSpec := { params := [(.int .i64)], res := [(.str, false)], fresh := true, sem := fun x => F24 k x.1 }
theorem e24 : (fun k => evFn ((T (fun _ _ => ⟨[], [], [], false⟩) k).cx [(36, S36 k)]) 5 Tryd.f24 (S24 0).params (S24 0).res true) = fun k => (S24 k).sem := by kernel_rfl
theorem ok24 {G : World → Prop} (hG : GoodW Tryd.prog G) (k : Nat) : (S24 k).ok Tryd.prog G 24 := fn_ok (T_ok (fun _ _ => ⟨[], [], [], false⟩) k) hG.lasts (calls := [(36, S36 k)]) ⟨ok36 hG k, trivial⟩ 5 rfl (S24 k) (congrFun e24 k)

/-- strings.Join -/
def S22 (k : Nat) : CSpec := { params := [(.slice .str), .str], res := [(.str, false)], fresh := true, sem := fun x => semJoin x.1 x.2.1 }
theorem ok22 {G : World → Prop} (hG : GoodW Tryd.prog G) (k : Nat) : (S22 k).ok Tryd.prog G 22 := ok_Join Tryd.func22 (by kernel_rfl) (by kernel_rfl) Tryd.strings_Join_none Tryd.strings_Join

/-- loop.example/g01402/impl.ShowEvent -/
def F9 (k : Nat) (a0 : D0) : Option (ByteArray) :=
  ((F23 k a0.2.2.2.2.2).bind fun r1 => ((F23 k a0.2.1).bind fun r2 => ((F23 k a0.2.2.1).bind fun r3 => ((F24 k a0.1).bind fun r4 => ((F23 k a0.2.2.2.2.1).bind fun r5 => ((semJoin ([r1, r2, r3, r4, a0.2.2.2.1, r5] : List ByteArray) (ByteArray.mk #[32])).bind fun r6 => some r6))))))
def S9 (k : Nat) : CSpec := { params := [U0], res := [(.str, false)], fresh := true, sem := fun x => F9 k x.1 }
theorem e9 : (fun k => evFn ((T (fun _ _ => ⟨[], [], [], false⟩) k).cx [(22, S22 k), (23, S23 k), (24, S24 k)]) 5 Tryd.f9 (S9 0).params (S9 0).res true) = fun k => (S9 k).sem := by kernel_rfl
theorem ok9 {G : World → Prop} (hG : GoodW Tryd.prog G) (k : Nat) : (S9 k).ok Tryd.prog G 9 := fn_ok (T_ok (fun _ _ => ⟨[], [], [], false⟩) k) hG.lasts (calls := [(22, S22 k), (23, S23 k), (24, S24 k)]) ⟨ok22 hG k, ok23 hG k, ok24 hG k, trivial⟩ 5 rfl (S9 k) (congrFun e9 k)

/-- loop.example/g01402/laws.FnExactShowEvent -/
def F3 (k : Nat) (a0 : D0) : Option (Bool) :=
  ((F6 k a0 (1048576 : Int)).bind fun r1 => (bif (decide (r1 < (0 : Int))) then some true else ((F8 k a0).bind fun r2 => ((F7 k r2).bind fun r3 => ((F8 k a0).bind fun r4 => ((F9 k r4).bind fun r5 => (bif (!decide (r5 = r3)) then some false else some true)))))))
def S3 (k : Nat) : CSpec := { params := [U0], res := [(.bool, false)], fresh := true, sem := fun x => F3 k x.1 }
theorem e3 : (fun k => evFn ((T (fun _ _ => ⟨[], [], [], false⟩) k).cx [(6, S6 k), (7, S7 k), (8, S8 k), (9, S9 k)]) 5 Tryd.f3 (S3 0).params (S3 0).res true) = fun k => (S3 k).sem := by kernel_rfl
theorem ok3 {G : World → Prop} (hG : GoodW Tryd.prog G) (k : Nat) : (S3 k).ok Tryd.prog G 3 := fn_ok (T_ok (fun _ _ => ⟨[], [], [], false⟩) k) hG.lasts (calls := [(6, S6 k), (7, S7 k), (8, S8 k), (9, S9 k)]) ⟨ok6 hG k, ok7 hG k, ok8 hG k, ok9 hG k, trivial⟩ 5 rfl (S3 k) (congrFun e3 k)

/-- loop.example/g01402/laws.szEventS -/
def F10 (k : Nat) (a0 : List D0) (a1 : Int) : Option (Int) :=
  (bif (decide ((wrap64 (a1 - (a0.length : Int))) < (0 : Int))) then some (-1 : Int) else (iter (σ := Int × Int × Unit) (fun rec5 x4 => (bif (decide (x4.2.1 < (a0.length : Int))) then (bif (decide (0 ≤ x4.2.1 ∧ x4.2.1 < (a0.length : Int))) then ((F6 k (a0.getD x4.2.1.toNat Z0) x4.1).bind fun r6 => (bif (decide (r6 < (0 : Int))) then some (-1 : Int) else (rec5 (r6, (wrap64 (x4.2.1 + (1 : Int))), ())))) else none) else some x4.1)) k ((wrap64 (a1 - (a0.length : Int))), (0 : Int), ())))
def S10 (k : Nat) : CSpec := { params := [(.slice U0), (.int .i64)], res := [((.int .i64), false)], fresh := true, sem := fun x => F10 k x.1 x.2.1 }
theorem e10 : (fun k => evFn ((T (fun _ _ => ⟨[1, 5], [], [], false⟩) k).cx [(6, S6 k)]) 5 Tryd.f10 (S10 0).params (S10 0).res true) = fun k => (S10 k).sem := by kernel_rfl
theorem ok10 {G : World → Prop} (hG : GoodW Tryd.prog G) (k : Nat) : (S10 k).ok Tryd.prog G 10 := fn_ok (T_ok (fun _ _ => ⟨[1, 5], [], [], false⟩) k) hG.lasts (calls := [(6, S6 k)]) ⟨ok6 hG k, trivial⟩ 5 rfl (S10 k) (congrFun e10 k)

/-- loop.example/g01402/laws.toEventS -/
def F12 (k : Nat) (a0 : List D0) : Option ((List D0)) :=
  (bif (decide (0 ≤ (a0.length : Int) ∧ (a0.length : Int) = (a0.length : Int) ∧ (a0.length : Int) < (most : Int))) then (iter (σ := Int × List D0 × Unit) (fun rec5 x4 => (bif (decide (x4.1 < (a0.length : Int))) then (bif (decide (0 ≤ x4.1 ∧ x4.1 < (a0.length : Int))) then ((F8 k (a0.getD x4.1.toNat Z0)).bind fun r6 => (bif (decide (0 ≤ x4.1 ∧ x4.1 < (x4.2.1.length : Int))) then (rec5 ((wrap64 (x4.1 + (1 : Int))), (x4.2.1.set x4.1.toNat r6), ())) else none)) else none) else some x4.2.1)) k ((0 : Int), (List.replicate (a0.length : Int).toNat Z0), ())) else none)
def S12 (k : Nat) : CSpec := { params := [(.slice U0)], res := [((.slice U0), true)], fresh := true, sem := fun x => F12 k x.1 }
theorem e12 : (fun k => evFn ((T (fun _ _ => ⟨[4], [1], [], false⟩) k).cx [(8, S8 k)]) 5 Tryd.f12 (S12 0).params (S12 0).res true) = fun k => (S12 k).sem := by kernel_rfl
theorem ok12 {G : World → Prop} (hG : GoodW Tryd.prog G) (k : Nat) : (S12 k).ok Tryd.prog G 12 := fn_ok (T_ok (fun _ _ => ⟨[4], [1], [], false⟩) k) hG.lasts (calls := [(8, S8 k)]) ⟨ok8 hG k, trivial⟩ 5 rfl (S12 k) (congrFun e12 k)

/-- loop.example/g01402/spec.ShowLog -/
def F11 (k : Nat) (a0 : List D0) : Option (ByteArray) :=
  (iter (σ := ByteArray × Int × Unit) (fun rec5 x4 => (bif (decide (x4.2.1 < (a0.length : Int))) then (bif (decide (0 ≤ x4.2.1 ∧ x4.2.1 < (a0.length : Int))) then ((F7 k (a0.getD x4.2.1.toNat Z0)).bind fun r6 => (bif (decide (x4.1.size + r6.size < mostText)) then (bif (decide ((x4.1 ++ r6).size + (ByteArray.mk #[10]).size < mostText)) then (rec5 (((x4.1 ++ r6) ++ (ByteArray.mk #[10])), (wrap64 (x4.2.1 + (1 : Int))), ())) else none) else none)) else none) else some x4.1)) k ((ByteArray.mk #[]), (0 : Int), ()))
def S11 (k : Nat) : CSpec := { params := [(.slice U0)], res := [(.str, false)], fresh := true, sem := fun x => F11 k x.1 }
theorem e11 : (fun k => evFn ((T (fun _ _ => ⟨[3, 4], [], [], false⟩) k).cx [(7, S7 k)]) 5 Tryd.f11 (S11 0).params (S11 0).res true) = fun k => (S11 k).sem := by kernel_rfl
theorem ok11 {G : World → Prop} (hG : GoodW Tryd.prog G) (k : Nat) : (S11 k).ok Tryd.prog G 11 := fn_ok (T_ok (fun _ _ => ⟨[3, 4], [], [], false⟩) k) hG.lasts (calls := [(7, S7 k)]) ⟨ok7 hG k, trivial⟩ 5 rfl (S11 k) (congrFun e11 k)

/-- loop.example/g01402/impl.ShowLog -/
def F13 (k : Nat) (a0 : List D0) : Option (ByteArray) :=
  (iter (σ := Int × List ByteArray × Unit) (fun rec5 x4 => (bif (decide (x4.1 < (a0.length : Int))) then (bif (decide (0 ≤ x4.1 ∧ x4.1 < (a0.length : Int))) then ((F9 k (a0.getD x4.1.toNat Z0)).bind fun r6 => (bif (decide (x4.2.1.length + ([r6, (ByteArray.mk #[10])] : List ByteArray).length < most)) then (rec5 ((wrap64 (x4.1 + (1 : Int))), (x4.2.1 ++ ([r6, (ByteArray.mk #[10])] : List ByteArray)), ())) else none)) else none) else ((semJoin x4.2.1 (ByteArray.mk #[])).bind fun r7 => some r7))) k ((0 : Int), ([] : List ByteArray), ()))
def S13 (k : Nat) : CSpec := { params := [(.slice U0)], res := [(.str, false)], fresh := true, sem := fun x => F13 k x.1 }
theorem e13 : (fun k => evFn ((T (fun _ _ => ⟨[3, 9], [], [0], false⟩) k).cx [(9, S9 k), (22, S22 k)]) 5 Tryd.f13 (S13 0).params (S13 0).res true) = fun k => (S13 k).sem := by kernel_rfl
theorem ok13 {G : World → Prop} (hG : GoodW Tryd.prog G) (k : Nat) : (S13 k).ok Tryd.prog G 13 := fn_ok (T_ok (fun _ _ => ⟨[3, 9], [], [0], false⟩) k) hG.lasts (calls := [(9, S9 k), (22, S22 k)]) ⟨ok9 hG k, ok22 hG k, trivial⟩ 5 rfl (S13 k) (congrFun e13 k)

/-- loop.example/g01402/laws.eqEvent -/
def F25 (k : Nat) (a0 : D0) (a1 : D0) : Option (Bool) :=
  (bif (!decide (a0.1 = a1.1)) then some false else (bif (!decide (a0.2.1 = a1.2.1)) then some false else (bif (!decide (a0.2.2.1 = a1.2.2.1)) then some false else (bif (!decide (a0.2.2.2.1 = a1.2.2.2.1)) then some false else (bif (!decide (a0.2.2.2.2.1 = a1.2.2.2.2.1)) then some false else (bif (!decide (a0.2.2.2.2.2 = a1.2.2.2.2.2)) then some false else some true))))))
def S25 (k : Nat) : CSpec := { params := [U0, U0], res := [(.bool, false)], fresh := true, sem := fun x => F25 k x.1 x.2.1 }
theorem e25 : (fun k => evFn ((T (fun _ _ => ⟨[], [], [], false⟩) k).cx []) 5 Tryd.f25 (S25 0).params (S25 0).res true) = fun k => (S25 k).sem := by kernel_rfl
theorem ok25 {G : World → Prop} (hG : GoodW Tryd.prog G) (k : Nat) : (S25 k).ok Tryd.prog G 25 := fn_ok (T_ok (fun _ _ => ⟨[], [], [], false⟩) k) hG.lasts (calls := []) trivial 5 rfl (S25 k) (congrFun e25 k)

/-- loop.example/g01402/laws.eqEventS -/
def F14 (k : Nat) (a0 : List D0) (a1 : List D0) : Option (Bool) :=
  (bif (!decide ((a0.length : Int) = (a1.length : Int))) then some false else (iter (σ := Int × Unit) (fun rec5 x4 => (bif (decide (x4.1 < (a0.length : Int))) then (bif (decide (0 ≤ x4.1 ∧ x4.1 < (a0.length : Int))) then (bif (decide (0 ≤ x4.1 ∧ x4.1 < (a1.length : Int))) then ((F25 k (a0.getD x4.1.toNat Z0) (a1.getD x4.1.toNat Z0)).bind fun r6 => (bif (!r6) then some false else (rec5 ((wrap64 (x4.1 + (1 : Int))), ())))) else none) else none) else some true)) k ((0 : Int), ())))
def S14 (k : Nat) : CSpec := { params := [(.slice U0), (.slice U0)], res := [(.bool, false)], fresh := true, sem := fun x => F14 k x.1 x.2.1 }
theorem e14 : (fun k => evFn ((T (fun _ _ => ⟨[5], [], [], false⟩) k).cx [(25, S25 k)]) 5 Tryd.f14 (S14 0).params (S14 0).res true) = fun k => (S14 k).sem := by kernel_rfl
theorem ok14 {G : World → Prop} (hG : GoodW Tryd.prog G) (k : Nat) : (S14 k).ok Tryd.prog G 14 := fn_ok (T_ok (fun _ _ => ⟨[5], [], [], false⟩) k) hG.lasts (calls := [(25, S25 k)]) ⟨ok25 hG k, trivial⟩ 5 rfl (S14 k) (congrFun e14 k)

/-- loop.example/g01402/laws.FnExactShowLog -/
def F4 (k : Nat) (a0 : List D0) : Option (Bool) :=
  ((F10 k a0 (1048576 : Int)).bind fun r1 => (bif (decide (r1 < (0 : Int))) then some true else ((F12 k a0).bind fun r2 => ((F11 k r2).bind fun r3 => ((F12 k a0).bind fun r4 => ((F13 k r4).bind fun r5 => (bif (!decide (r5 = r3)) then some false else ((F12 k a0).bind fun r6 => ((F14 k r4 r6).bind fun r7 => (bif (!r7) then some false else some true))))))))))
def S4 (k : Nat) : CSpec := { params := [(.slice U0)], res := [(.bool, false)], fresh := true, sem := fun x => F4 k x.1 }
theorem e4 : (fun k => evFn ((T (fun _ _ => ⟨[], [], [], false⟩) k).cx [(10, S10 k), (11, S11 k), (12, S12 k), (13, S13 k), (14, S14 k)]) 5 Tryd.f4 (S4 0).params (S4 0).res true) = fun k => (S4 k).sem := by kernel_rfl
theorem ok4 {G : World → Prop} (hG : GoodW Tryd.prog G) (k : Nat) : (S4 k).ok Tryd.prog G 4 := fn_ok (T_ok (fun _ _ => ⟨[], [], [], false⟩) k) hG.lasts (calls := [(10, S10 k), (11, S11 k), (12, S12 k), (13, S13 k), (14, S14 k)]) ⟨ok10 hG k, ok11 hG k, ok12 hG k, ok13 hG k, ok14 hG k, trivial⟩ 5 rfl (S4 k) (congrFun e4 k)

/-- loop.example/g01402/laws.szField -/
def F37 (k : Nat) (a0 : D1) (a1 : Int) : Option (Int) :=
  (bif (decide ((wrap64 (a1 - (a0.1.size : Int))) < (0 : Int))) then some (-1 : Int) else (bif (decide ((wrap64 ((wrap64 (a1 - (a0.1.size : Int))) - (a0.2.size : Int))) < (0 : Int))) then some (-1 : Int) else some (wrap64 ((wrap64 (a1 - (a0.1.size : Int))) - (a0.2.size : Int)))))
def S37 (k : Nat) : CSpec := { params := [U1, (.int .i64)], res := [((.int .i64), false)], fresh := true, sem := fun x => F37 k x.1 x.2.1 }
theorem e37 : (fun k => evFn ((T (fun _ _ => ⟨[], [], [], false⟩) k).cx []) 5 Tryd.f37 (S37 0).params (S37 0).res true) = fun k => (S37 k).sem := by kernel_rfl
theorem ok37 {G : World → Prop} (hG : GoodW Tryd.prog G) (k : Nat) : (S37 k).ok Tryd.prog G 37 := fn_ok (T_ok (fun _ _ => ⟨[], [], [], false⟩) k) hG.lasts (calls := []) trivial 5 rfl (S37 k) (congrFun e37 k)

/-- loop.example/g01402/laws.szFieldS -/
def F26 (k : Nat) (a0 : List D1) (a1 : Int) : Option (Int) :=
  (bif (decide ((wrap64 (a1 - (a0.length : Int))) < (0 : Int))) then some (-1 : Int) else (iter (σ := Int × Int × Unit) (fun rec5 x4 => (bif (decide (x4.2.1 < (a0.length : Int))) then (bif (decide (0 ≤ x4.2.1 ∧ x4.2.1 < (a0.length : Int))) then ((F37 k (a0.getD x4.2.1.toNat Z1) x4.1).bind fun r6 => (bif (decide (r6 < (0 : Int))) then some (-1 : Int) else (rec5 (r6, (wrap64 (x4.2.1 + (1 : Int))), ())))) else none) else some x4.1)) k ((wrap64 (a1 - (a0.length : Int))), (0 : Int), ())))
def S26 (k : Nat) : CSpec := { params := [(.slice U1), (.int .i64)], res := [((.int .i64), false)], fresh := true, sem := fun x => F26 k x.1 x.2.1 }
theorem e26 : (fun k => evFn ((T (fun _ _ => ⟨[1, 5], [], [], false⟩) k).cx [(37, S37 k)]) 5 Tryd.f26 (S26 0).params (S26 0).res true) = fun k => (S26 k).sem := by kernel_rfl
theorem ok26 {G : World → Prop} (hG : GoodW Tryd.prog G) (k : Nat) : (S26 k).ok Tryd.prog G 26 := fn_ok (T_ok (fun _ _ => ⟨[1, 5], [], [], false⟩) k) hG.lasts (calls := [(37, S37 k)]) ⟨ok37 hG k, trivial⟩ 5 rfl (S26 k) (congrFun e26 k)

/-- loop.example/g01402/laws.szResponse -/
def F15 (k : Nat) (a0 : D2) (a1 : Int) : Option (Int) :=
  ((F26 k a0.2.1 a1).bind fun r1 => (bif (decide (r1 < (0 : Int))) then some (-1 : Int) else (bif (decide ((wrap64 (r1 - (a0.2.2.size : Int))) < (0 : Int))) then some (-1 : Int) else some (wrap64 (r1 - (a0.2.2.size : Int))))))
def S15 (k : Nat) : CSpec := { params := [U2, (.int .i64)], res := [((.int .i64), false)], fresh := true, sem := fun x => F15 k x.1 x.2.1 }
theorem e15 : (fun k => evFn ((T (fun _ _ => ⟨[], [], [], false⟩) k).cx [(26, S26 k)]) 5 Tryd.f15 (S15 0).params (S15 0).res true) = fun k => (S15 k).sem := by kernel_rfl
theorem ok15 {G : World → Prop} (hG : GoodW Tryd.prog G) (k : Nat) : (S15 k).ok Tryd.prog G 15 := fn_ok (T_ok (fun _ _ => ⟨[], [], [], false⟩) k) hG.lasts (calls := [(26, S26 k)]) ⟨ok26 hG k, trivial⟩ 5 rfl (S15 k) (congrFun e15 k)

/-- loop.example/g01402/laws.toField -/
def F41 (k : Nat) (a0 : D1) : Option (D1) :=
  some a0
def S41 (k : Nat) : CSpec := { params := [U1], res := [(U1, false)], fresh := true, sem := fun x => F41 k x.1 }
theorem e41 : (fun k => evFn ((T (fun _ _ => ⟨[], [], [], false⟩) k).cx []) 5 Tryd.f41 (S41 0).params (S41 0).res true) = fun k => (S41 k).sem := by kernel_rfl
theorem ok41 {G : World → Prop} (hG : GoodW Tryd.prog G) (k : Nat) : (S41 k).ok Tryd.prog G 41 := fn_ok (T_ok (fun _ _ => ⟨[], [], [], false⟩) k) hG.lasts (calls := []) trivial 5 rfl (S41 k) (congrFun e41 k)

/-- loop.example/g01402/laws.toFieldS -/
def F28 (k : Nat) (a0 : List D1) : Option ((List D1)) :=
  (bif (decide (0 ≤ (a0.length : Int) ∧ (a0.length : Int) = (a0.length : Int) ∧ (a0.length : Int) < (most : Int))) then (iter (σ := Int × List D1 × Unit) (fun rec5 x4 => (bif (decide (x4.1 < (a0.length : Int))) then (bif (decide (0 ≤ x4.1 ∧ x4.1 < (a0.length : Int))) then ((F41 k (a0.getD x4.1.toNat Z1)).bind fun r6 => (bif (decide (0 ≤ x4.1 ∧ x4.1 < (x4.2.1.length : Int))) then (rec5 ((wrap64 (x4.1 + (1 : Int))), (x4.2.1.set x4.1.toNat r6), ())) else none)) else none) else some x4.2.1)) k ((0 : Int), (List.replicate (a0.length : Int).toNat Z1), ())) else none)
def S28 (k : Nat) : CSpec := { params := [(.slice U1)], res := [((.slice U1), true)], fresh := true, sem := fun x => F28 k x.1 }
theorem e28 : (fun k => evFn ((T (fun _ _ => ⟨[4], [1], [], false⟩) k).cx [(41, S41 k)]) 5 Tryd.f28 (S28 0).params (S28 0).res true) = fun k => (S28 k).sem := by kernel_rfl
theorem ok28 {G : World → Prop} (hG : GoodW Tryd.prog G) (k : Nat) : (S28 k).ok Tryd.prog G 28 := fn_ok (T_ok (fun _ _ => ⟨[4], [1], [], false⟩) k) hG.lasts (calls := [(41, S41 k)]) ⟨ok41 hG k, trivial⟩ 5 rfl (S28 k) (congrFun e28 k)

/-- loop.example/g01402/laws.toResponse -/
def F17 (k : Nat) (a0 : D2) : Option (D2) :=
  ((F28 k a0.2.1).bind fun r1 => some (a0.1, r1, a0.2.2))
def S17 (k : Nat) : CSpec := { params := [U2], res := [(U2, false)], fresh := true, sem := fun x => F17 k x.1 }
theorem e17 : (fun k => evFn ((T (fun _ _ => ⟨[], [], [], false⟩) k).cx [(28, S28 k)]) 5 Tryd.f17 (S17 0).params (S17 0).res true) = fun k => (S17 k).sem := by kernel_rfl
theorem ok17 {G : World → Prop} (hG : GoodW Tryd.prog G) (k : Nat) : (S17 k).ok Tryd.prog G 17 := fn_ok (T_ok (fun _ _ => ⟨[], [], [], false⟩) k) hG.lasts (calls := [(28, S28 k)]) ⟨ok28 hG k, trivial⟩ 5 rfl (S17 k) (congrFun e17 k)

/-- loop.example/g01402/spec.FieldGet -/
def F38 (k : Nat) (a0 : List D1) (a1 : ByteArray) : Option (ByteArray × Bool) :=
  (iter (σ := ByteArray × Bool × Int × Unit) (fun rec4 x3 => (bif (decide (x3.2.2.1 < (a0.length : Int))) then (bif (decide (0 ≤ x3.2.2.1 ∧ x3.2.2.1 < (a0.length : Int))) then (bif (!decide ((a0.getD x3.2.2.1.toNat Z1).1 = a1)) then (rec4 (x3.1, x3.2.1, (wrap64 (x3.2.2.1 + (1 : Int))), ())) else (bif x3.2.1 then (bif (decide (x3.1.size + (ByteArray.mk #[44, 32]).size < mostText)) then (bif (decide (0 ≤ x3.2.2.1 ∧ x3.2.2.1 < (a0.length : Int))) then (bif (decide ((x3.1 ++ (ByteArray.mk #[44, 32])).size + (a0.getD x3.2.2.1.toNat Z1).2.size < mostText)) then (rec4 (((x3.1 ++ (ByteArray.mk #[44, 32])) ++ (a0.getD x3.2.2.1.toNat Z1).2), true, (wrap64 (x3.2.2.1 + (1 : Int))), ())) else none) else none) else none) else (bif (decide (0 ≤ x3.2.2.1 ∧ x3.2.2.1 < (a0.length : Int))) then (bif (decide (x3.1.size + (a0.getD x3.2.2.1.toNat Z1).2.size < mostText)) then (rec4 ((x3.1 ++ (a0.getD x3.2.2.1.toNat Z1).2), true, (wrap64 (x3.2.2.1 + (1 : Int))), ())) else none) else none))) else none) else some (x3.1, x3.2.1))) k ((ByteArray.mk #[]), false, (0 : Int), ()))
def S38 (k : Nat) : CSpec := { params := [(.slice U1), .str], res := [(.str, false), (.bool, false)], fresh := true, sem := fun x => F38 k x.1 x.2.1 }
theorem e38 : (fun k => evFn ((T (fun _ _ => ⟨[6, 7, 8], [], [], false⟩) k).cx []) 5 Tryd.f38 (S38 0).params (S38 0).res true) = fun k => (S38 k).sem := by kernel_rfl
theorem ok38 {G : World → Prop} (hG : GoodW Tryd.prog G) (k : Nat) : (S38 k).ok Tryd.prog G 38 := fn_ok (T_ok (fun _ _ => ⟨[6, 7, 8], [], [], false⟩) k) hG.lasts (calls := []) trivial 5 rfl (S38 k) (congrFun e38 k)

/-- loop.example/g01402/spec.ReadDec -/
def F39 (k : Nat) (a0 : ByteArray) : Option (Int × Bool) :=
  (iter (σ := Int × Int × Int × Unit) (fun rec4 x3 => (bif (decide (x3.2.2.1 < (a0.size : Int))) then (bif (decide (x3.2.2.1 < (11 : Int))) then (bif (decide (0 ≤ x3.2.2.1 ∧ x3.2.2.1 < (a0.size : Int))) then (bif (decide ((48 : Int) ≤ (bt a0 x3.2.2.1))) then (bif (decide (0 ≤ x3.2.2.1 ∧ x3.2.2.1 < (a0.size : Int))) then (bif (decide ((bt a0 x3.2.2.1) ≤ (57 : Int))) then (bif (decide (0 ≤ x3.2.2.1 ∧ x3.2.2.1 < (a0.size : Int))) then (rec4 ((wrap64 ((wrap64 (x3.1 * (10 : Int))) + (wrap64 ((wr .u8 ((bt a0 x3.2.2.1) - (48 : Int))))))), (wrap64 (x3.2.1 + (1 : Int))), (wrap64 (x3.2.2.1 + (1 : Int))), ())) else none) else (rec4 (x3.1, x3.2.1, (wrap64 (x3.2.2.1 + (1 : Int))), ()))) else none) else (rec4 (x3.1, x3.2.1, (wrap64 (x3.2.2.1 + (1 : Int))), ()))) else none) else (bif (decide ((0 : Int) < (a0.size : Int))) then (bif (decide (0 ≤ (0 : Int) ∧ (0 : Int) < (a0.size : Int))) then (bif (decide ((bt a0 (0 : Int)) = (45 : Int))) then (bif (decide ((9 : Int) < x3.2.1)) then some ((0 : Int), false) else (bif (decide ((10 : Int) < (a0.size : Int))) then some ((0 : Int), false) else ((F20 k (wrap64 (-x3.1))).bind fun r5 => (bif (!decide (r5 = a0)) then some ((0 : Int), false) else some ((wrap64 (-x3.1)), true))))) else (bif (decide ((9 : Int) < x3.2.1)) then some ((0 : Int), false) else (bif (decide ((10 : Int) < (a0.size : Int))) then some ((0 : Int), false) else ((F20 k x3.1).bind fun r6 => (bif (!decide (r6 = a0)) then some ((0 : Int), false) else some (x3.1, true)))))) else none) else (bif (decide ((9 : Int) < x3.2.1)) then some ((0 : Int), false) else (bif (decide ((10 : Int) < (a0.size : Int))) then some ((0 : Int), false) else ((F20 k x3.1).bind fun r7 => (bif (!decide (r7 = a0)) then some ((0 : Int), false) else some (x3.1, true))))))) else (bif (decide ((0 : Int) < (a0.size : Int))) then (bif (decide (0 ≤ (0 : Int) ∧ (0 : Int) < (a0.size : Int))) then (bif (decide ((bt a0 (0 : Int)) = (45 : Int))) then (bif (decide ((9 : Int) < x3.2.1)) then some ((0 : Int), false) else (bif (decide ((10 : Int) < (a0.size : Int))) then some ((0 : Int), false) else ((F20 k (wrap64 (-x3.1))).bind fun r8 => (bif (!decide (r8 = a0)) then some ((0 : Int), false) else some ((wrap64 (-x3.1)), true))))) else (bif (decide ((9 : Int) < x3.2.1)) then some ((0 : Int), false) else (bif (decide ((10 : Int) < (a0.size : Int))) then some ((0 : Int), false) else ((F20 k x3.1).bind fun r9 => (bif (!decide (r9 = a0)) then some ((0 : Int), false) else some (x3.1, true)))))) else none) else (bif (decide ((9 : Int) < x3.2.1)) then some ((0 : Int), false) else (bif (decide ((10 : Int) < (a0.size : Int))) then some ((0 : Int), false) else ((F20 k x3.1).bind fun r10 => (bif (!decide (r10 = a0)) then some ((0 : Int), false) else some (x3.1, true)))))))) k ((0 : Int), (0 : Int), (0 : Int), ()))
def S39 (k : Nat) : CSpec := { params := [.str], res := [((.int .i64), false), (.bool, false)], fresh := true, sem := fun x => F39 k x.1 }
theorem e39 : (fun k => evFn ((T (fun _ _ => ⟨[4, 5, 6], [], [], false⟩) k).cx [(20, S20 k)]) 5 Tryd.f39 (S39 0).params (S39 0).res true) = fun k => (S39 k).sem := by kernel_rfl
theorem ok39 {G : World → Prop} (hG : GoodW Tryd.prog G) (k : Nat) : (S39 k).ok Tryd.prog G 39 := fn_ok (T_ok (fun _ _ => ⟨[4, 5, 6], [], [], false⟩) k) hG.lasts (calls := [(20, S20 k)]) ⟨ok20 hG k, trivial⟩ 5 rfl (S39 k) (congrFun e39 k)

/-- loop.example/g01402/spec.TagOf -/
def F40 (k : Nat) (a0 : Int) : Option (ByteArray) :=
  ((F31 k a0 (1 : Int) (100000 : Int)).bind fun r1 => (bif (!r1) then some (ByteArray.mk #[]) else ((F20 k a0).bind fun r2 => (bif (decide ((ByteArray.mk #[34, 118]).size + r2.size < mostText)) then (bif (decide (((ByteArray.mk #[34, 118]) ++ r2).size + (ByteArray.mk #[34]).size < mostText)) then some (((ByteArray.mk #[34, 118]) ++ r2) ++ (ByteArray.mk #[34])) else none) else none))))
def S40 (k : Nat) : CSpec := { params := [(.int .i64)], res := [(.str, false)], fresh := true, sem := fun x => F40 k x.1 }
theorem e40 : (fun k => evFn ((T (fun _ _ => ⟨[], [], [], false⟩) k).cx [(20, S20 k), (31, S31 k)]) 5 Tryd.f40 (S40 0).params (S40 0).res true) = fun k => (S40 k).sem := by kernel_rfl
theorem ok40 {G : World → Prop} (hG : GoodW Tryd.prog G) (k : Nat) : (S40 k).ok Tryd.prog G 40 := fn_ok (T_ok (fun _ _ => ⟨[], [], [], false⟩) k) hG.lasts (calls := [(20, S20 k), (31, S31 k)]) ⟨ok20 hG k, ok31 hG k, trivial⟩ 5 rfl (S40 k) (congrFun e40 k)

/-- loop.example/g01402/spec.VersionIn -/
def F27 (k : Nat) (a0 : D2) : Option (Int) :=
  ((F38 k a0.2.1 (ByteArray.mk #[101, 116, 97, 103])).bind fun r1 => (bif (decide ((r1.1.size : Int) < (4 : Int))) then some (0 : Int) else (bif (decide (0 ≤ (2 : Int) ∧ (2 : Int) ≤ (wrap64 ((r1.1.size : Int) - (1 : Int))) ∧ (wrap64 ((r1.1.size : Int) - (1 : Int))) ≤ (r1.1.size : Int))) then ((F39 k (r1.1.extract (2 : Int).toNat (wrap64 ((r1.1.size : Int) - (1 : Int))).toNat)).bind fun r2 => (bif (!r2.2) then some (0 : Int) else ((F40 k r2.1).bind fun r3 => (bif (!decide (r3 = r1.1)) then some (0 : Int) else some r2.1)))) else none)))
def S27 (k : Nat) : CSpec := { params := [U2], res := [((.int .i64), false)], fresh := true, sem := fun x => F27 k x.1 }
theorem e27 : (fun k => evFn ((T (fun _ _ => ⟨[], [], [], false⟩) k).cx [(38, S38 k), (39, S39 k), (40, S40 k)]) 5 Tryd.f27 (S27 0).params (S27 0).res true) = fun k => (S27 k).sem := by kernel_rfl
theorem ok27 {G : World → Prop} (hG : GoodW Tryd.prog G) (k : Nat) : (S27 k).ok Tryd.prog G 27 := fn_ok (T_ok (fun _ _ => ⟨[], [], [], false⟩) k) hG.lasts (calls := [(38, S38 k), (39, S39 k), (40, S40 k)]) ⟨ok38 hG k, ok39 hG k, ok40 hG k, trivial⟩ 5 rfl (S27 k) (congrFun e27 k)

/-- loop.example/g01402/spec.SameAnswer -/
def F16 (k : Nat) (a0 : D2) (a1 : D2) : Option (Bool) :=
  (bif (decide (a0.1 = a1.1)) then (bif (decide (a0.2.2 = a1.2.2)) then ((F27 k a0).bind fun r1 => ((F27 k a1).bind fun r2 => some (decide (r1 = r2)))) else some false) else some false)
def S16 (k : Nat) : CSpec := { params := [U2, U2], res := [(.bool, false)], fresh := true, sem := fun x => F16 k x.1 x.2.1 }
theorem e16 : (fun k => evFn ((T (fun _ _ => ⟨[], [], [], false⟩) k).cx [(27, S27 k)]) 5 Tryd.f16 (S16 0).params (S16 0).res true) = fun k => (S16 k).sem := by kernel_rfl
theorem ok16 {G : World → Prop} (hG : GoodW Tryd.prog G) (k : Nat) : (S16 k).ok Tryd.prog G 16 := fn_ok (T_ok (fun _ _ => ⟨[], [], [], false⟩) k) hG.lasts (calls := [(27, S27 k)]) ⟨ok27 hG k, trivial⟩ 5 rfl (S16 k) (congrFun e16 k)

/-- loop.example/g01402/impl.FieldGet -/
def F42 (k : Nat) (a0 : List D1) (a1 : ByteArray) : Option (ByteArray × Bool) :=
  (iter (σ := Int × List ByteArray × Unit) (fun rec4 x3 => (bif (decide (x3.1 < (a0.length : Int))) then (bif (decide (0 ≤ x3.1 ∧ x3.1 < (a0.length : Int))) then (bif (decide ((a0.getD x3.1.toNat Z1).1 = a1)) then (bif (decide (x3.2.1.length + ([(a0.getD x3.1.toNat Z1).2] : List ByteArray).length < most)) then (rec4 ((wrap64 (x3.1 + (1 : Int))), (x3.2.1 ++ ([(a0.getD x3.1.toNat Z1).2] : List ByteArray)), ())) else none) else (rec4 ((wrap64 (x3.1 + (1 : Int))), x3.2.1, ()))) else none) else ((semJoin x3.2.1 (ByteArray.mk #[44, 32])).bind fun r5 => some (r5, (decide ((0 : Int) < (x3.2.1.length : Int))))))) k ((0 : Int), ([] : List ByteArray), ()))
def S42 (k : Nat) : CSpec := { params := [(.slice U1), .str], res := [(.str, false), (.bool, false)], fresh := true, sem := fun x => F42 k x.1 x.2.1 }
theorem e42 : (fun k => evFn ((T (fun _ _ => ⟨[6, 12], [], [0], false⟩) k).cx [(22, S22 k)]) 5 Tryd.f42 (S42 0).params (S42 0).res true) = fun k => (S42 k).sem := by kernel_rfl
theorem ok42 {G : World → Prop} (hG : GoodW Tryd.prog G) (k : Nat) : (S42 k).ok Tryd.prog G 42 := fn_ok (T_ok (fun _ _ => ⟨[6, 12], [], [0], false⟩) k) hG.lasts (calls := [(22, S22 k)]) ⟨ok22 hG k, trivial⟩ 5 rfl (S42 k) (congrFun e42 k)

/-- strconv.Atoi -/
def S49 (k : Nat) : CSpec := { params := [.str], res := [((.int .i64), false), (.err, false)], fresh := true, sem := fun x => semAtoi x.1 }
theorem ok49 {G : World → Prop} (hG : GoodW Tryd.prog G) (hA : Errs 2 3 G) (k : Nat) : (S49 k).ok Tryd.prog G 49 := ok_Atoi Tryd.func49 (by kernel_rfl) (by kernel_rfl) hA Tryd.strconv_Atoi_ok
    (fun s hs h ev w hv hev => (Tryd.strconv_Atoi_range s hs h ev w hv hev).mono fun e w' ⟨N, he, _, _, hb⟩ => ⟨_, _, he, hb⟩)
    (fun s hs g1 g2 ev w hv hev => by
      cases h : Lib.atoiAll s.data.toList with
      | ok v => exact absurd h (g1 v)
      | range => exact absurd h g2
      | _ => exact (Any.strconv_Atoi_syntax Tryd.laysC172 s hs h ev w hv hev).mono fun e w' ⟨N, he, _, _, hb⟩ => ⟨_, _, he, hb⟩)

/-- loop.example/g01402/impl.ReadDec -/
def F43 (k : Nat) (a0 : ByteArray) : Option (Int × Bool) :=
  ((semAtoi a0).bind fun r1 => (bif (!(!r1.2)) then some ((0 : Int), false) else ((F23 k r1.1).bind fun r2 => (bif (!decide (r2 = a0)) then some ((0 : Int), false) else ((F36 k r1.1 (-999999999 : Int) (999999999 : Int)).bind fun r3 => (bif (!r3) then some ((0 : Int), false) else some (r1.1, true)))))))
def S43 (k : Nat) : CSpec := { params := [.str], res := [((.int .i64), false), (.bool, false)], fresh := true, sem := fun x => F43 k x.1 }
theorem e43 : (fun k => evFn ((T (fun _ _ => ⟨[], [], [], false⟩) k).cx [(23, S23 k), (36, S36 k), (49, S49 k)]) 5 Tryd.f43 (S43 0).params (S43 0).res true) = fun k => (S43 k).sem := by kernel_rfl
theorem ok43 {G : World → Prop} (hG : GoodW Tryd.prog G) (hA : Errs 2 3 G) (k : Nat) : (S43 k).ok Tryd.prog G 43 := fn_ok (T_ok (fun _ _ => ⟨[], [], [], false⟩) k) hG.lasts (calls := [(23, S23 k), (36, S36 k), (49, S49 k)]) ⟨ok23 hG k, ok36 hG k, ok49 hG hA k, trivial⟩ 5 rfl (S43 k) (congrFun e43 k)

/-- loop.example/g01402/impl.TagOf -/
def F44 (k : Nat) (a0 : Int) : Option (ByteArray) :=
  ((F36 k a0 (1 : Int) (100000 : Int)).bind fun r1 => (bif (!r1) then some (ByteArray.mk #[]) else ((F23 k a0).bind fun r2 => (bif (decide ((ByteArray.mk #[34, 118]).size + r2.size < mostText)) then (bif (decide (((ByteArray.mk #[34, 118]) ++ r2).size + (ByteArray.mk #[34]).size < mostText)) then some (((ByteArray.mk #[34, 118]) ++ r2) ++ (ByteArray.mk #[34])) else none) else none))))
def S44 (k : Nat) : CSpec := { params := [(.int .i64)], res := [(.str, false)], fresh := true, sem := fun x => F44 k x.1 }
theorem e44 : (fun k => evFn ((T (fun _ _ => ⟨[], [], [], false⟩) k).cx [(23, S23 k), (36, S36 k)]) 5 Tryd.f44 (S44 0).params (S44 0).res true) = fun k => (S44 k).sem := by kernel_rfl
theorem ok44 {G : World → Prop} (hG : GoodW Tryd.prog G) (k : Nat) : (S44 k).ok Tryd.prog G 44 := fn_ok (T_ok (fun _ _ => ⟨[], [], [], false⟩) k) hG.lasts (calls := [(23, S23 k), (36, S36 k)]) ⟨ok23 hG k, ok36 hG k, trivial⟩ 5 rfl (S44 k) (congrFun e44 k)

/-- loop.example/g01402/impl.VersionIn -/
def F29 (k : Nat) (a0 : D2) : Option (Int) :=
  ((F42 k a0.2.1 (ByteArray.mk #[101, 116, 97, 103])).bind fun r1 => (bif (decide ((r1.1.size : Int) < (3 : Int))) then some (0 : Int) else (bif (decide (0 ≤ (2 : Int) ∧ (2 : Int) ≤ (wrap64 ((r1.1.size : Int) - (1 : Int))) ∧ (wrap64 ((r1.1.size : Int) - (1 : Int))) ≤ (r1.1.size : Int))) then ((F43 k (r1.1.extract (2 : Int).toNat (wrap64 ((r1.1.size : Int) - (1 : Int))).toNat)).bind fun r2 => (bif (!r2.2) then some (0 : Int) else ((F44 k r2.1).bind fun r3 => (bif (!decide (r3 = r1.1)) then some (0 : Int) else some r2.1)))) else none)))
def S29 (k : Nat) : CSpec := { params := [U2], res := [((.int .i64), false)], fresh := true, sem := fun x => F29 k x.1 }
theorem e29 : (fun k => evFn ((T (fun _ _ => ⟨[], [], [], false⟩) k).cx [(42, S42 k), (43, S43 k), (44, S44 k)]) 5 Tryd.f29 (S29 0).params (S29 0).res true) = fun k => (S29 k).sem := by kernel_rfl
theorem ok29 {G : World → Prop} (hG : GoodW Tryd.prog G) (hA : Errs 2 3 G) (k : Nat) : (S29 k).ok Tryd.prog G 29 := fn_ok (T_ok (fun _ _ => ⟨[], [], [], false⟩) k) hG.lasts (calls := [(42, S42 k), (43, S43 k), (44, S44 k)]) ⟨ok42 hG k, ok43 hG hA k, ok44 hG k, trivial⟩ 5 rfl (S29 k) (congrFun e29 k)

/-- loop.example/g01402/impl.SameAnswer -/
def F18 (k : Nat) (a0 : D2) (a1 : D2) : Option (Bool) :=
  (bif (decide (a0.1 = a1.1)) then (bif (decide (a0.2.2 = a1.2.2)) then ((F29 k a0).bind fun r1 => ((F29 k a1).bind fun r2 => some (decide (r1 = r2)))) else some false) else some false)
def S18 (k : Nat) : CSpec := { params := [U2, U2], res := [(.bool, false)], fresh := true, sem := fun x => F18 k x.1 x.2.1 }
theorem e18 : (fun k => evFn ((T (fun _ _ => ⟨[], [], [], false⟩) k).cx [(29, S29 k)]) 5 Tryd.f18 (S18 0).params (S18 0).res true) = fun k => (S18 k).sem := by kernel_rfl
theorem ok18 {G : World → Prop} (hG : GoodW Tryd.prog G) (hA : Errs 2 3 G) (k : Nat) : (S18 k).ok Tryd.prog G 18 := fn_ok (T_ok (fun _ _ => ⟨[], [], [], false⟩) k) hG.lasts (calls := [(29, S29 k)]) ⟨ok29 hG hA k, trivial⟩ 5 rfl (S18 k) (congrFun e18 k)

/-- loop.example/g01402/laws.eqField -/
def F45 (k : Nat) (a0 : D1) (a1 : D1) : Option (Bool) :=
  (bif (!decide (a0.1 = a1.1)) then some false else (bif (!decide (a0.2 = a1.2)) then some false else some true))
def S45 (k : Nat) : CSpec := { params := [U1, U1], res := [(.bool, false)], fresh := true, sem := fun x => F45 k x.1 x.2.1 }
theorem e45 : (fun k => evFn ((T (fun _ _ => ⟨[], [], [], false⟩) k).cx []) 5 Tryd.f45 (S45 0).params (S45 0).res true) = fun k => (S45 k).sem := by kernel_rfl
theorem ok45 {G : World → Prop} (hG : GoodW Tryd.prog G) (k : Nat) : (S45 k).ok Tryd.prog G 45 := fn_ok (T_ok (fun _ _ => ⟨[], [], [], false⟩) k) hG.lasts (calls := []) trivial 5 rfl (S45 k) (congrFun e45 k)

/-- loop.example/g01402/laws.eqFieldS -/
def F30 (k : Nat) (a0 : List D1) (a1 : List D1) : Option (Bool) :=
  (bif (!decide ((a0.length : Int) = (a1.length : Int))) then some false else (iter (σ := Int × Unit) (fun rec5 x4 => (bif (decide (x4.1 < (a0.length : Int))) then (bif (decide (0 ≤ x4.1 ∧ x4.1 < (a0.length : Int))) then (bif (decide (0 ≤ x4.1 ∧ x4.1 < (a1.length : Int))) then ((F45 k (a0.getD x4.1.toNat Z1) (a1.getD x4.1.toNat Z1)).bind fun r6 => (bif (!r6) then some false else (rec5 ((wrap64 (x4.1 + (1 : Int))), ())))) else none) else none) else some true)) k ((0 : Int), ())))
def S30 (k : Nat) : CSpec := { params := [(.slice U1), (.slice U1)], res := [(.bool, false)], fresh := true, sem := fun x => F30 k x.1 x.2.1 }
theorem e30 : (fun k => evFn ((T (fun _ _ => ⟨[5], [], [], false⟩) k).cx [(45, S45 k)]) 5 Tryd.f30 (S30 0).params (S30 0).res true) = fun k => (S30 k).sem := by kernel_rfl
theorem ok30 {G : World → Prop} (hG : GoodW Tryd.prog G) (k : Nat) : (S30 k).ok Tryd.prog G 30 := fn_ok (T_ok (fun _ _ => ⟨[5], [], [], false⟩) k) hG.lasts (calls := [(45, S45 k)]) ⟨ok45 hG k, trivial⟩ 5 rfl (S30 k) (congrFun e30 k)

/-- loop.example/g01402/laws.eqResponse -/
def F19 (k : Nat) (a0 : D2) (a1 : D2) : Option (Bool) :=
  (bif (!decide (a0.1 = a1.1)) then some false else ((F30 k a0.2.1 a1.2.1).bind fun r1 => (bif (!r1) then some false else (bif (!decide (a0.2.2 = a1.2.2)) then some false else some true))))
def S19 (k : Nat) : CSpec := { params := [U2, U2], res := [(.bool, false)], fresh := true, sem := fun x => F19 k x.1 x.2.1 }
theorem e19 : (fun k => evFn ((T (fun _ _ => ⟨[], [], [], false⟩) k).cx [(30, S30 k)]) 5 Tryd.f19 (S19 0).params (S19 0).res true) = fun k => (S19 k).sem := by kernel_rfl
theorem ok19 {G : World → Prop} (hG : GoodW Tryd.prog G) (k : Nat) : (S19 k).ok Tryd.prog G 19 := fn_ok (T_ok (fun _ _ => ⟨[], [], [], false⟩) k) hG.lasts (calls := [(30, S30 k)]) ⟨ok30 hG k, trivial⟩ 5 rfl (S19 k) (congrFun e19 k)

/-- loop.example/g01402/laws.FnExactSameAnswer -/
def F5 (k : Nat) (a0 : D2) (a1 : D2) : Option (Bool) :=
  ((F15 k a0 (1048576 : Int)).bind fun r1 => (bif (decide (r1 < (0 : Int))) then some true else ((F15 k a1 r1).bind fun r2 => (bif (decide (r2 < (0 : Int))) then some true else ((F17 k a0).bind fun r3 => ((F17 k a1).bind fun r4 => ((F16 k r3 r4).bind fun r5 => ((F17 k a0).bind fun r6 => ((F17 k a1).bind fun r7 => ((F18 k r6 r7).bind fun r8 => (bif (!(r8 == r5)) then some false else ((F17 k a0).bind fun r9 => ((F19 k r6 r9).bind fun r10 => (bif (!r10) then some false else ((F17 k a1).bind fun r11 => ((F19 k r7 r11).bind fun r12 => (bif (!r12) then some false else some true)))))))))))))))))
def S5 (k : Nat) : CSpec := { params := [U2, U2], res := [(.bool, false)], fresh := true, sem := fun x => F5 k x.1 x.2.1 }
theorem e5 : (fun k => evFn ((T (fun _ _ => ⟨[], [], [], false⟩) k).cx [(15, S15 k), (16, S16 k), (17, S17 k), (18, S18 k), (19, S19 k)]) 5 Tryd.f5 (S5 0).params (S5 0).res true) = fun k => (S5 k).sem := by kernel_rfl
theorem ok5 {G : World → Prop} (hG : GoodW Tryd.prog G) (hA : Errs 2 3 G) (k : Nat) : (S5 k).ok Tryd.prog G 5 := fn_ok (T_ok (fun _ _ => ⟨[], [], [], false⟩) k) hG.lasts (calls := [(15, S15 k), (16, S16 k), (17, S17 k), (18, S18 k), (19, S19 k)]) ⟨ok15 hG k, ok16 hG k, ok17 hG k, ok18 hG hA k, ok19 hG k, trivial⟩ 5 rfl (S5 k) (congrFun e5 k)
end Go.Proofs.YthbdlnhcioolgaaDoor.Fns
