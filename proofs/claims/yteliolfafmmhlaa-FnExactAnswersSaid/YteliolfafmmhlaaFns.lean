/- The functions of this part of the program, each by its functional form. -/
import Derived.Test.YteliolfafmmhlaaEv6
import Derived.Test.YteliolfafmmhlaaProg
import Derived.Test.YteliolfafmmhlaaEvCl
import Derived.Test.YteliolfafmmhlaaShelf
namespace Go.Proofs.Yteliolfafmmhlaa.Fns
open Go Go.RowKit Go.Proofs Go.Proofs.Yteliolfafmmhlaa.Ev
set_option maxRecDepth 1000000
set_option linter.unusedVariables false
abbrev U0 : Ty := .struct (.pair .str .str)
abbrev D0 := ByteArray × ByteArray
def Z0 : D0 := Ty.zero U0
abbrev U1 : Ty := .struct (.pair .str (.pair .str (.pair (.slice U0) .str)))
abbrev D1 := ByteArray × ByteArray × (List D0) × ByteArray
def Z1 : D1 := Ty.zero U1
abbrev U2 : Ty := .struct (.pair (.int .i64) (.pair (.slice U0) .str))
abbrev D2 := Int × (List D0) × ByteArray
def Z2 : D2 := Ty.zero U2
abbrev U3 : Ty := .struct (.pair .str (.pair (.slice U0) (.pair U2 (.pair (.int .i64) (.int .i64)))))
abbrev D3 := ByteArray × (List D0) × D2 × Int × Int
def Z3 : D3 := Ty.zero U3
abbrev U4 : Ty := .struct (.pair (.int .i64) U2)
abbrev D4 := Int × D2
def Z4 : D4 := Ty.zero U4
abbrev U5 : Ty := .struct (.pair (.int .i64) (.pair .str (.pair (.int .i64) (.pair U1 (.pair U1 (.pair U3 (.pair .bool (.pair (.int .i64) (.pair (.int .i64) (.pair (.int .i64) (.pair (.int .i64) (.pair .bool (.pair U2 (.slice U4))))))))))))))
abbrev D5 := Int × ByteArray × Int × D1 × D1 × D3 × Bool × Int × Int × Int × Int × Bool × D2 × (List D4)
def Z5 : D5 := Ty.zero U5
abbrev U6 : Ty := .struct (.pair U3 .bool)
abbrev D6 := D3 × Bool
def Z6 : D6 := Ty.zero U6
abbrev U7 : Ty := .struct (.pair (.int .i64) (.pair (.int .i64) (.pair (.slice U6) (.int .i64))))
abbrev D7 := Int × Int × (List D6) × Int
def Z7 : D7 := Ty.zero U7
abbrev U8 : Ty := .struct (.pair .str (.int .i64))
abbrev D8 := ByteArray × Int
def Z8 : D8 := Ty.zero U8
abbrev U9 : Ty := .struct (.pair (.slice U7) (.slice U8))
abbrev D9 := (List D7) × (List D8)
def Z9 : D9 := Ty.zero U9
abbrev U10 : Ty := .struct (.pair .str (.pair .bool (.pair (.int .i64) (.pair .bool (.pair .bool (.pair U1 (.pair U2 (.pair (.int .i64) (.int .i64)))))))))
abbrev D10 := ByteArray × Bool × Int × Bool × Bool × D1 × D2 × Int × Int
def Z10 : D10 := Ty.zero U10
abbrev U11 : Ty := .struct (.pair .str (.pair .str (.pair (.int .i64) (.pair (.int .i64) (.pair .bool (.pair .bool (.slice U0)))))))
abbrev D11 := ByteArray × ByteArray × Int × Int × Bool × Bool × (List D0)
def Z11 : D11 := Ty.zero U11
abbrev U12 : Ty := .struct (.slice U11)
abbrev D12 := (List D11)
def Z12 : D12 := Ty.zero U12
abbrev U13 : Ty := .struct (.pair (.int .i64) (.pair (.int .i64) (.pair (.int .i64) (.pair .str (.pair (.int .i64) (.int .i64))))))
abbrev D13 := Int × Int × Int × ByteArray × Int × Int
def Z13 : D13 := Ty.zero U13
abbrev U14 : Ty := .struct (.pair (.int .i64) (.pair (.int .i64) (.pair (.slice U5) (.pair U9 (.pair (.slice U10) (.pair U12 (.slice U13)))))))
abbrev D14 := Int × Int × (List D5) × D9 × (List D10) × D12 × (List D13)
def Z14 : D14 := Ty.zero U14
def kp (l : List ((List Nat × Nat) × Keep)) : List Nat → Nat → Keep := fun p r => match l with | [] => ⟨[], [], [], false⟩ | e :: l => bif p == e.1.1 && Nat.beq r e.1.2 then e.2 else kp l p r
noncomputable def T (keep : List Nat → Nat → Keep) (k : Nat) : Tabs where
  ty := [(3, (.int .i64)), (4, .bool), (5, (.int .u8)), (9, .str), (22, (.slice U5)), (23, (.slice U7)), (24, (.slice U8)), (26, U9), (27, (.slice U10)), (28, (.slice U11)), (30, U12), (31, (.slice U13)), (33, U14), (35, (.slice U4)), (37, (.slice U5)), (38, (.slice U7)), (39, (.slice U8)), (41, U9), (42, (.slice U10)), (43, (.slice U11)), (45, U12), (46, (.slice U13)), (48, U14), (61, (.slice U0)), (63, U1), (65, U2), (67, U3), (69, U5), (77, U4), (91, (.slice U0)), (93, U1), (95, U2), (97, U3), (98, (.slice U4)), (100, U5), (105, U10), (109, U13), (115, U10), (118, U13), (131, U0), (132, (.slice (.int .u8))), (138, (.slice U6)), (140, U7), (143, U8), (146, U11), (151, (.slice U6)), (153, U7), (155, U8), (158, U11), (171, U4), (179, U6), (181, U0), (184, U6)]
  cmp := []
  body := [(4, Try.f4), (5, Try.f5), (6, Try.f6), (7, Try.f7), (8, Try.f8), (9, Try.f9), (12, Try.f12), (13, Try.f13), (14, Try.f14), (15, Try.f15), (16, Try.f16), (17, Try.f17), (18, Try.f18), (19, Try.f19), (20, Try.f20), (21, Try.f21), (22, Try.f22), (23, Try.f23), (24, Try.f24), (25, Try.f25), (26, Try.f26), (27, Try.f27), (28, Try.f28), (29, Try.f29), (30, Try.f30), (37, Try.f37), (38, Try.f38), (39, Try.f39), (40, Try.f40), (41, Try.f41), (42, Try.f42), (43, Try.f43), (44, Try.f44), (45, Try.f45), (46, Try.f46), (47, Try.f47), (48, Try.f48), (49, Try.f49), (50, Try.f50), (51, Try.f51), (52, Try.f52), (53, Try.f53), (54, Try.f54), (55, Try.f55), (56, Try.f56), (57, Try.f57), (58, Try.f58), (59, Try.f59), (63, Try.f63), (64, Try.f64), (65, Try.f65), (66, Try.f66), (67, Try.f67), (68, Try.f68), (69, Try.f69), (70, Try.f70), (71, Try.f71), (72, Try.f72), (73, Try.f73), (74, Try.f74), (75, Try.f75), (76, Try.f76), (78, Try.f78), (79, Try.f79), (80, Try.f80), (81, Try.f81), (82, Try.f82), (83, Try.f83), (85, Try.f85), (86, Try.f86), (87, Try.f87), (88, Try.f88), (89, Try.f89), (90, Try.f90), (91, Try.f91), (92, Try.f92), (93, Try.f93), (94, Try.f94), (95, Try.f95), (96, Try.f96), (97, Try.f97)]
  keep := keep
  k := k
theorem T_ok (keep : List Nat → Nat → Keep) (k : Nat) : (T keep k).ok Try.prog where
  ty := by kernel_rfl
  cmp := by kernel_rfl
  body := ⟨⟨Try.func4, by kernel_rfl, by kernel_rfl⟩, ⟨Try.func5, by kernel_rfl, by kernel_rfl⟩, ⟨Try.func6, by kernel_rfl, by kernel_rfl⟩, ⟨Try.func7, by kernel_rfl, by kernel_rfl⟩, ⟨Try.func8, by kernel_rfl, by kernel_rfl⟩, ⟨Try.func9, by kernel_rfl, by kernel_rfl⟩, ⟨Try.func12, by kernel_rfl, by kernel_rfl⟩, ⟨Try.func13, by kernel_rfl, by kernel_rfl⟩, ⟨Try.func14, by kernel_rfl, by kernel_rfl⟩, ⟨Try.func15, by kernel_rfl, by kernel_rfl⟩, ⟨Try.func16, by kernel_rfl, by kernel_rfl⟩, ⟨Try.func17, by kernel_rfl, by kernel_rfl⟩, ⟨Try.func18, by kernel_rfl, by kernel_rfl⟩, ⟨Try.func19, by kernel_rfl, by kernel_rfl⟩, ⟨Try.func20, by kernel_rfl, by kernel_rfl⟩, ⟨Try.func21, by kernel_rfl, by kernel_rfl⟩, ⟨Try.func22, by kernel_rfl, by kernel_rfl⟩, ⟨Try.func23, by kernel_rfl, by kernel_rfl⟩, ⟨Try.func24, by kernel_rfl, by kernel_rfl⟩, ⟨Try.func25, by kernel_rfl, by kernel_rfl⟩, ⟨Try.func26, by kernel_rfl, by kernel_rfl⟩, ⟨Try.func27, by kernel_rfl, by kernel_rfl⟩, ⟨Try.func28, by kernel_rfl, by kernel_rfl⟩, ⟨Try.func29, by kernel_rfl, by kernel_rfl⟩, ⟨Try.func30, by kernel_rfl, by kernel_rfl⟩, ⟨Try.func37, by kernel_rfl, by kernel_rfl⟩, ⟨Try.func38, by kernel_rfl, by kernel_rfl⟩, ⟨Try.func39, by kernel_rfl, by kernel_rfl⟩, ⟨Try.func40, by kernel_rfl, by kernel_rfl⟩, ⟨Try.func41, by kernel_rfl, by kernel_rfl⟩, ⟨Try.func42, by kernel_rfl, by kernel_rfl⟩, ⟨Try.func43, by kernel_rfl, by kernel_rfl⟩, ⟨Try.func44, by kernel_rfl, by kernel_rfl⟩, ⟨Try.func45, by kernel_rfl, by kernel_rfl⟩, ⟨Try.func46, by kernel_rfl, by kernel_rfl⟩, ⟨Try.func47, by kernel_rfl, by kernel_rfl⟩, ⟨Try.func48, by kernel_rfl, by kernel_rfl⟩, ⟨Try.func49, by kernel_rfl, by kernel_rfl⟩, ⟨Try.func50, by kernel_rfl, by kernel_rfl⟩, ⟨Try.func51, by kernel_rfl, by kernel_rfl⟩, ⟨Try.func52, by kernel_rfl, by kernel_rfl⟩, ⟨Try.func53, by kernel_rfl, by kernel_rfl⟩, ⟨Try.func54, by kernel_rfl, by kernel_rfl⟩, ⟨Try.func55, by kernel_rfl, by kernel_rfl⟩, ⟨Try.func56, by kernel_rfl, by kernel_rfl⟩, ⟨Try.func57, by kernel_rfl, by kernel_rfl⟩, ⟨Try.func58, by kernel_rfl, by kernel_rfl⟩, ⟨Try.func59, by kernel_rfl, by kernel_rfl⟩, ⟨Try.func63, by kernel_rfl, by kernel_rfl⟩, ⟨Try.func64, by kernel_rfl, by kernel_rfl⟩, ⟨Try.func65, by kernel_rfl, by kernel_rfl⟩, ⟨Try.func66, by kernel_rfl, by kernel_rfl⟩, ⟨Try.func67, by kernel_rfl, by kernel_rfl⟩, ⟨Try.func68, by kernel_rfl, by kernel_rfl⟩, ⟨Try.func69, by kernel_rfl, by kernel_rfl⟩, ⟨Try.func70, by kernel_rfl, by kernel_rfl⟩, ⟨Try.func71, by kernel_rfl, by kernel_rfl⟩, ⟨Try.func72, by kernel_rfl, by kernel_rfl⟩, ⟨Try.func73, by kernel_rfl, by kernel_rfl⟩, ⟨Try.func74, by kernel_rfl, by kernel_rfl⟩, ⟨Try.func75, by kernel_rfl, by kernel_rfl⟩, ⟨Try.func76, by kernel_rfl, by kernel_rfl⟩, ⟨Try.func78, by kernel_rfl, by kernel_rfl⟩, ⟨Try.func79, by kernel_rfl, by kernel_rfl⟩, ⟨Try.func80, by kernel_rfl, by kernel_rfl⟩, ⟨Try.func81, by kernel_rfl, by kernel_rfl⟩, ⟨Try.func82, by kernel_rfl, by kernel_rfl⟩, ⟨Try.func83, by kernel_rfl, by kernel_rfl⟩, ⟨Try.func85, by kernel_rfl, by kernel_rfl⟩, ⟨Try.func86, by kernel_rfl, by kernel_rfl⟩, ⟨Try.func87, by kernel_rfl, by kernel_rfl⟩, ⟨Try.func88, by kernel_rfl, by kernel_rfl⟩, ⟨Try.func89, by kernel_rfl, by kernel_rfl⟩, ⟨Try.func90, by kernel_rfl, by kernel_rfl⟩, ⟨Try.func91, by kernel_rfl, by kernel_rfl⟩, ⟨Try.func92, by kernel_rfl, by kernel_rfl⟩, ⟨Try.func93, by kernel_rfl, by kernel_rfl⟩, ⟨Try.func94, by kernel_rfl, by kernel_rfl⟩, ⟨Try.func95, by kernel_rfl, by kernel_rfl⟩, ⟨Try.func96, by kernel_rfl, by kernel_rfl⟩, ⟨Try.func97, by kernel_rfl, by kernel_rfl⟩, trivial⟩
  mixed := by kernel_rfl

/-- loop.example/g01402/laws.szField -/
def F93 (k : Nat) (a0 : D0) (a1 : Int) : Option (Int) :=
  (bif (decide ((wrap64 (a1 - (a0.1.size : Int))) < (0 : Int))) then some (-1 : Int) else (bif (decide ((wrap64 ((wrap64 (a1 - (a0.1.size : Int))) - (a0.2.size : Int))) < (0 : Int))) then some (-1 : Int) else some (wrap64 ((wrap64 (a1 - (a0.1.size : Int))) - (a0.2.size : Int)))))
def S93 (k : Nat) : CSpec := { params := [U0, (.int .i64)], res := [((.int .i64), false)], fresh := true, sem := fun x => F93 k x.1 x.2.1 }
theorem e93 : (fun k => evFn ((T (fun _ _ => ⟨[], [], [], false⟩) k).cx []) 5 Try.f93 (S93 0).params (S93 0).res true) = fun k => (S93 k).sem := by kernel_rfl
theorem ok93 {G : World → Prop} (hG : Lasts G) (k : Nat) : (S93 k).ok Try.prog G 93 := fn_ok (T_ok (fun _ _ => ⟨[], [], [], false⟩) k) hG (calls := []) trivial 5 rfl (S93 k) (congrFun e93 k)

/-- loop.example/g01402/laws.szFieldS -/
def F85 (k : Nat) (a0 : List D0) (a1 : Int) : Option (Int) :=
  (bif (decide ((wrap64 (a1 - (a0.length : Int))) < (0 : Int))) then some (-1 : Int) else (iter (σ := Int × Int × Unit) (fun rec5 x4 => (bif (decide (x4.2.1 < (a0.length : Int))) then (bif (decide (0 ≤ x4.2.1 ∧ x4.2.1 < (a0.length : Int))) then ((F93 k (a0.getD x4.2.1.toNat Z0) x4.1).bind fun r6 => (bif (decide (r6 < (0 : Int))) then some (-1 : Int) else (rec5 (r6, (wrap64 (x4.2.1 + (1 : Int))), ())))) else none) else some x4.1)) k ((wrap64 (a1 - (a0.length : Int))), (0 : Int), ())))
def S85 (k : Nat) : CSpec := { params := [(.slice U0), (.int .i64)], res := [((.int .i64), false)], fresh := true, sem := fun x => F85 k x.1 x.2.1 }
theorem e85 : (fun k => evFn ((T (fun _ _ => ⟨[1, 5], [], [], false⟩) k).cx [(93, S93 k)]) 5 Try.f85 (S85 0).params (S85 0).res true) = fun k => (S85 k).sem := by kernel_rfl
theorem ok85 {G : World → Prop} (hG : Lasts G) (k : Nat) : (S85 k).ok Try.prog G 85 := fn_ok (T_ok (fun _ _ => ⟨[1, 5], [], [], false⟩) k) hG (calls := [(93, S93 k)]) ⟨ok93 hG k, trivial⟩ 5 rfl (S85 k) (congrFun e85 k)

/-- loop.example/g01402/laws.szRequest -/
def F63 (k : Nat) (a0 : D1) (a1 : Int) : Option (Int) :=
  (bif (decide ((wrap64 (a1 - (a0.1.size : Int))) < (0 : Int))) then some (-1 : Int) else (bif (decide ((wrap64 ((wrap64 (a1 - (a0.1.size : Int))) - (a0.2.1.size : Int))) < (0 : Int))) then some (-1 : Int) else ((F85 k a0.2.2.1 (wrap64 ((wrap64 (a1 - (a0.1.size : Int))) - (a0.2.1.size : Int)))).bind fun r1 => (bif (decide (r1 < (0 : Int))) then some (-1 : Int) else (bif (decide ((wrap64 (r1 - (a0.2.2.2.size : Int))) < (0 : Int))) then some (-1 : Int) else some (wrap64 (r1 - (a0.2.2.2.size : Int))))))))
def S63 (k : Nat) : CSpec := { params := [U1, (.int .i64)], res := [((.int .i64), false)], fresh := true, sem := fun x => F63 k x.1 x.2.1 }
theorem e63 : (fun k => evFn ((T (fun _ _ => ⟨[], [], [], false⟩) k).cx [(85, S85 k)]) 5 Try.f63 (S63 0).params (S63 0).res true) = fun k => (S63 k).sem := by kernel_rfl
theorem ok63 {G : World → Prop} (hG : Lasts G) (k : Nat) : (S63 k).ok Try.prog G 63 := fn_ok (T_ok (fun _ _ => ⟨[], [], [], false⟩) k) hG (calls := [(85, S85 k)]) ⟨ok85 hG k, trivial⟩ 5 rfl (S63 k) (congrFun e63 k)

/-- loop.example/g01402/laws.szResponse -/
def F65 (k : Nat) (a0 : D2) (a1 : Int) : Option (Int) :=
  ((F85 k a0.2.1 a1).bind fun r1 => (bif (decide (r1 < (0 : Int))) then some (-1 : Int) else (bif (decide ((wrap64 (r1 - (a0.2.2.size : Int))) < (0 : Int))) then some (-1 : Int) else some (wrap64 (r1 - (a0.2.2.size : Int))))))
def S65 (k : Nat) : CSpec := { params := [U2, (.int .i64)], res := [((.int .i64), false)], fresh := true, sem := fun x => F65 k x.1 x.2.1 }
theorem e65 : (fun k => evFn ((T (fun _ _ => ⟨[], [], [], false⟩) k).cx [(85, S85 k)]) 5 Try.f65 (S65 0).params (S65 0).res true) = fun k => (S65 k).sem := by kernel_rfl
theorem ok65 {G : World → Prop} (hG : Lasts G) (k : Nat) : (S65 k).ok Try.prog G 65 := fn_ok (T_ok (fun _ _ => ⟨[], [], [], false⟩) k) hG (calls := [(85, S85 k)]) ⟨ok85 hG k, trivial⟩ 5 rfl (S65 k) (congrFun e65 k)

/-- loop.example/g01402/laws.szStored -/
def F64 (k : Nat) (a0 : D3) (a1 : Int) : Option (Int) :=
  (bif (decide ((wrap64 (a1 - (a0.1.size : Int))) < (0 : Int))) then some (-1 : Int) else ((F85 k a0.2.1 (wrap64 (a1 - (a0.1.size : Int)))).bind fun r1 => (bif (decide (r1 < (0 : Int))) then some (-1 : Int) else ((F65 k a0.2.2.1 r1).bind fun r2 => (bif (decide (r2 < (0 : Int))) then some (-1 : Int) else some r2)))))
def S64 (k : Nat) : CSpec := { params := [U3, (.int .i64)], res := [((.int .i64), false)], fresh := true, sem := fun x => F64 k x.1 x.2.1 }
theorem e64 : (fun k => evFn ((T (fun _ _ => ⟨[], [], [], false⟩) k).cx [(65, S65 k), (85, S85 k)]) 5 Try.f64 (S64 0).params (S64 0).res true) = fun k => (S64 k).sem := by kernel_rfl
theorem ok64 {G : World → Prop} (hG : Lasts G) (k : Nat) : (S64 k).ok Try.prog G 64 := fn_ok (T_ok (fun _ _ => ⟨[], [], [], false⟩) k) hG (calls := [(65, S65 k), (85, S85 k)]) ⟨ok65 hG k, ok85 hG k, trivial⟩ 5 rfl (S64 k) (congrFun e64 k)

/-- loop.example/g01402/laws.szTold -/
def F86 (k : Nat) (a0 : D4) (a1 : Int) : Option (Int) :=
  ((F65 k a0.2 a1).bind fun r1 => (bif (decide (r1 < (0 : Int))) then some (-1 : Int) else some r1))
def S86 (k : Nat) : CSpec := { params := [U4, (.int .i64)], res := [((.int .i64), false)], fresh := true, sem := fun x => F86 k x.1 x.2.1 }
theorem e86 : (fun k => evFn ((T (fun _ _ => ⟨[], [], [], false⟩) k).cx [(65, S65 k)]) 5 Try.f86 (S86 0).params (S86 0).res true) = fun k => (S86 k).sem := by kernel_rfl
theorem ok86 {G : World → Prop} (hG : Lasts G) (k : Nat) : (S86 k).ok Try.prog G 86 := fn_ok (T_ok (fun _ _ => ⟨[], [], [], false⟩) k) hG (calls := [(65, S65 k)]) ⟨ok65 hG k, trivial⟩ 5 rfl (S86 k) (congrFun e86 k)

/-- loop.example/g01402/laws.szToldS -/
def F66 (k : Nat) (a0 : List D4) (a1 : Int) : Option (Int) :=
  (bif (decide ((wrap64 (a1 - (a0.length : Int))) < (0 : Int))) then some (-1 : Int) else (iter (σ := Int × Int × Unit) (fun rec5 x4 => (bif (decide (x4.2.1 < (a0.length : Int))) then (bif (decide (0 ≤ x4.2.1 ∧ x4.2.1 < (a0.length : Int))) then ((F86 k (a0.getD x4.2.1.toNat Z4) x4.1).bind fun r6 => (bif (decide (r6 < (0 : Int))) then some (-1 : Int) else (rec5 (r6, (wrap64 (x4.2.1 + (1 : Int))), ())))) else none) else some x4.1)) k ((wrap64 (a1 - (a0.length : Int))), (0 : Int), ())))
def S66 (k : Nat) : CSpec := { params := [(.slice U4), (.int .i64)], res := [((.int .i64), false)], fresh := true, sem := fun x => F66 k x.1 x.2.1 }
theorem e66 : (fun k => evFn ((T (fun _ _ => ⟨[1, 5], [], [], false⟩) k).cx [(86, S86 k)]) 5 Try.f66 (S66 0).params (S66 0).res true) = fun k => (S66 k).sem := by kernel_rfl
theorem ok66 {G : World → Prop} (hG : Lasts G) (k : Nat) : (S66 k).ok Try.prog G 66 := fn_ok (T_ok (fun _ _ => ⟨[1, 5], [], [], false⟩) k) hG (calls := [(86, S86 k)]) ⟨ok86 hG k, trivial⟩ 5 rfl (S66 k) (congrFun e66 k)

/-- loop.example/g01402/laws.szConn -/
def F39 (k : Nat) (a0 : D5) (a1 : Int) : Option (Int) :=
  (bif (decide ((wrap64 (a1 - (a0.2.1.size : Int))) < (0 : Int))) then some (-1 : Int) else ((F63 k a0.2.2.2.1 (wrap64 (a1 - (a0.2.1.size : Int)))).bind fun r1 => (bif (decide (r1 < (0 : Int))) then some (-1 : Int) else ((F63 k a0.2.2.2.2.1 r1).bind fun r2 => (bif (decide (r2 < (0 : Int))) then some (-1 : Int) else ((F64 k a0.2.2.2.2.2.1 r2).bind fun r3 => (bif (decide (r3 < (0 : Int))) then some (-1 : Int) else ((F65 k a0.2.2.2.2.2.2.2.2.2.2.2.2.1 r3).bind fun r4 => (bif (decide (r4 < (0 : Int))) then some (-1 : Int) else ((F66 k a0.2.2.2.2.2.2.2.2.2.2.2.2.2 r4).bind fun r5 => (bif (decide (r5 < (0 : Int))) then some (-1 : Int) else some r5)))))))))))
def S39 (k : Nat) : CSpec := { params := [U5, (.int .i64)], res := [((.int .i64), false)], fresh := true, sem := fun x => F39 k x.1 x.2.1 }
theorem e39 : (fun k => evFn ((T (fun _ _ => ⟨[], [], [], false⟩) k).cx [(63, S63 k), (64, S64 k), (65, S65 k), (66, S66 k)]) 5 Try.f39 (S39 0).params (S39 0).res true) = fun k => (S39 k).sem := by kernel_rfl
theorem ok39 {G : World → Prop} (hG : Lasts G) (k : Nat) : (S39 k).ok Try.prog G 39 := fn_ok (T_ok (fun _ _ => ⟨[], [], [], false⟩) k) hG (calls := [(63, S63 k), (64, S64 k), (65, S65 k), (66, S66 k)]) ⟨ok63 hG k, ok64 hG k, ok65 hG k, ok66 hG k, trivial⟩ 5 rfl (S39 k) (congrFun e39 k)

/-- loop.example/g01402/laws.szConnS -/
def F13 (k : Nat) (a0 : List D5) (a1 : Int) : Option (Int) :=
  (bif (decide ((wrap64 (a1 - (a0.length : Int))) < (0 : Int))) then some (-1 : Int) else (iter (σ := Int × Int × Unit) (fun rec5 x4 => (bif (decide (x4.2.1 < (a0.length : Int))) then (bif (decide (0 ≤ x4.2.1 ∧ x4.2.1 < (a0.length : Int))) then ((F39 k (a0.getD x4.2.1.toNat Z5) x4.1).bind fun r6 => (bif (decide (r6 < (0 : Int))) then some (-1 : Int) else (rec5 (r6, (wrap64 (x4.2.1 + (1 : Int))), ())))) else none) else some x4.1)) k ((wrap64 (a1 - (a0.length : Int))), (0 : Int), ())))
def S13 (k : Nat) : CSpec := { params := [(.slice U5), (.int .i64)], res := [((.int .i64), false)], fresh := true, sem := fun x => F13 k x.1 x.2.1 }
theorem e13 : (fun k => evFn ((T (fun _ _ => ⟨[1, 5], [], [], false⟩) k).cx [(39, S39 k)]) 5 Try.f13 (S13 0).params (S13 0).res true) = fun k => (S13 k).sem := by kernel_rfl
theorem ok13 {G : World → Prop} (hG : Lasts G) (k : Nat) : (S13 k).ok Try.prog G 13 := fn_ok (T_ok (fun _ _ => ⟨[1, 5], [], [], false⟩) k) hG (calls := [(39, S39 k)]) ⟨ok39 hG k, trivial⟩ 5 rfl (S13 k) (congrFun e13 k)

/-- loop.example/g01402/laws.szSlot -/
def F94 (k : Nat) (a0 : D6) (a1 : Int) : Option (Int) :=
  ((F64 k a0.1 a1).bind fun r1 => (bif (decide (r1 < (0 : Int))) then some (-1 : Int) else some r1))
def S94 (k : Nat) : CSpec := { params := [U6, (.int .i64)], res := [((.int .i64), false)], fresh := true, sem := fun x => F94 k x.1 x.2.1 }
theorem e94 : (fun k => evFn ((T (fun _ _ => ⟨[], [], [], false⟩) k).cx [(64, S64 k)]) 5 Try.f94 (S94 0).params (S94 0).res true) = fun k => (S94 k).sem := by kernel_rfl
theorem ok94 {G : World → Prop} (hG : Lasts G) (k : Nat) : (S94 k).ok Try.prog G 94 := fn_ok (T_ok (fun _ _ => ⟨[], [], [], false⟩) k) hG (calls := [(64, S64 k)]) ⟨ok64 hG k, trivial⟩ 5 rfl (S94 k) (congrFun e94 k)

/-- loop.example/g01402/laws.szSlotS -/
def F87 (k : Nat) (a0 : List D6) (a1 : Int) : Option (Int) :=
  (bif (decide ((wrap64 (a1 - (a0.length : Int))) < (0 : Int))) then some (-1 : Int) else (iter (σ := Int × Int × Unit) (fun rec5 x4 => (bif (decide (x4.2.1 < (a0.length : Int))) then (bif (decide (0 ≤ x4.2.1 ∧ x4.2.1 < (a0.length : Int))) then ((F94 k (a0.getD x4.2.1.toNat Z6) x4.1).bind fun r6 => (bif (decide (r6 < (0 : Int))) then some (-1 : Int) else (rec5 (r6, (wrap64 (x4.2.1 + (1 : Int))), ())))) else none) else some x4.1)) k ((wrap64 (a1 - (a0.length : Int))), (0 : Int), ())))
def S87 (k : Nat) : CSpec := { params := [(.slice U6), (.int .i64)], res := [((.int .i64), false)], fresh := true, sem := fun x => F87 k x.1 x.2.1 }
theorem e87 : (fun k => evFn ((T (fun _ _ => ⟨[1, 5], [], [], false⟩) k).cx [(94, S94 k)]) 5 Try.f87 (S87 0).params (S87 0).res true) = fun k => (S87 k).sem := by kernel_rfl
theorem ok87 {G : World → Prop} (hG : Lasts G) (k : Nat) : (S87 k).ok Try.prog G 87 := fn_ok (T_ok (fun _ _ => ⟨[1, 5], [], [], false⟩) k) hG (calls := [(94, S94 k)]) ⟨ok94 hG k, trivial⟩ 5 rfl (S87 k) (congrFun e87 k)

/-- loop.example/g01402/laws.szShard -/
def F67 (k : Nat) (a0 : D7) (a1 : Int) : Option (Int) :=
  ((F87 k a0.2.2.1 a1).bind fun r1 => (bif (decide (r1 < (0 : Int))) then some (-1 : Int) else some r1))
def S67 (k : Nat) : CSpec := { params := [U7, (.int .i64)], res := [((.int .i64), false)], fresh := true, sem := fun x => F67 k x.1 x.2.1 }
theorem e67 : (fun k => evFn ((T (fun _ _ => ⟨[], [], [], false⟩) k).cx [(87, S87 k)]) 5 Try.f67 (S67 0).params (S67 0).res true) = fun k => (S67 k).sem := by kernel_rfl
theorem ok67 {G : World → Prop} (hG : Lasts G) (k : Nat) : (S67 k).ok Try.prog G 67 := fn_ok (T_ok (fun _ _ => ⟨[], [], [], false⟩) k) hG (calls := [(87, S87 k)]) ⟨ok87 hG k, trivial⟩ 5 rfl (S67 k) (congrFun e67 k)

/-- loop.example/g01402/laws.szShardS -/
def F40 (k : Nat) (a0 : List D7) (a1 : Int) : Option (Int) :=
  (bif (decide ((wrap64 (a1 - (a0.length : Int))) < (0 : Int))) then some (-1 : Int) else (iter (σ := Int × Int × Unit) (fun rec5 x4 => (bif (decide (x4.2.1 < (a0.length : Int))) then (bif (decide (0 ≤ x4.2.1 ∧ x4.2.1 < (a0.length : Int))) then ((F67 k (a0.getD x4.2.1.toNat Z7) x4.1).bind fun r6 => (bif (decide (r6 < (0 : Int))) then some (-1 : Int) else (rec5 (r6, (wrap64 (x4.2.1 + (1 : Int))), ())))) else none) else some x4.1)) k ((wrap64 (a1 - (a0.length : Int))), (0 : Int), ())))
def S40 (k : Nat) : CSpec := { params := [(.slice U7), (.int .i64)], res := [((.int .i64), false)], fresh := true, sem := fun x => F40 k x.1 x.2.1 }
theorem e40 : (fun k => evFn ((T (fun _ _ => ⟨[1, 5], [], [], false⟩) k).cx [(67, S67 k)]) 5 Try.f40 (S40 0).params (S40 0).res true) = fun k => (S40 k).sem := by kernel_rfl
theorem ok40 {G : World → Prop} (hG : Lasts G) (k : Nat) : (S40 k).ok Try.prog G 40 := fn_ok (T_ok (fun _ _ => ⟨[1, 5], [], [], false⟩) k) hG (calls := [(67, S67 k)]) ⟨ok67 hG k, trivial⟩ 5 rfl (S40 k) (congrFun e40 k)

/-- loop.example/g01402/laws.szGenRow -/
def F68 (k : Nat) (a0 : D8) (a1 : Int) : Option (Int) :=
  (bif (decide ((wrap64 (a1 - (a0.1.size : Int))) < (0 : Int))) then some (-1 : Int) else some (wrap64 (a1 - (a0.1.size : Int))))
def S68 (k : Nat) : CSpec := { params := [U8, (.int .i64)], res := [((.int .i64), false)], fresh := true, sem := fun x => F68 k x.1 x.2.1 }
theorem e68 : (fun k => evFn ((T (fun _ _ => ⟨[], [], [], false⟩) k).cx []) 5 Try.f68 (S68 0).params (S68 0).res true) = fun k => (S68 k).sem := by kernel_rfl
theorem ok68 {G : World → Prop} (hG : Lasts G) (k : Nat) : (S68 k).ok Try.prog G 68 := fn_ok (T_ok (fun _ _ => ⟨[], [], [], false⟩) k) hG (calls := []) trivial 5 rfl (S68 k) (congrFun e68 k)

/-- loop.example/g01402/laws.szGenRowS -/
def F41 (k : Nat) (a0 : List D8) (a1 : Int) : Option (Int) :=
  (bif (decide ((wrap64 (a1 - (a0.length : Int))) < (0 : Int))) then some (-1 : Int) else (iter (σ := Int × Int × Unit) (fun rec5 x4 => (bif (decide (x4.2.1 < (a0.length : Int))) then (bif (decide (0 ≤ x4.2.1 ∧ x4.2.1 < (a0.length : Int))) then ((F68 k (a0.getD x4.2.1.toNat Z8) x4.1).bind fun r6 => (bif (decide (r6 < (0 : Int))) then some (-1 : Int) else (rec5 (r6, (wrap64 (x4.2.1 + (1 : Int))), ())))) else none) else some x4.1)) k ((wrap64 (a1 - (a0.length : Int))), (0 : Int), ())))
def S41 (k : Nat) : CSpec := { params := [(.slice U8), (.int .i64)], res := [((.int .i64), false)], fresh := true, sem := fun x => F41 k x.1 x.2.1 }
theorem e41 : (fun k => evFn ((T (fun _ _ => ⟨[1, 5], [], [], false⟩) k).cx [(68, S68 k)]) 5 Try.f41 (S41 0).params (S41 0).res true) = fun k => (S41 k).sem := by kernel_rfl
theorem ok41 {G : World → Prop} (hG : Lasts G) (k : Nat) : (S41 k).ok Try.prog G 41 := fn_ok (T_ok (fun _ _ => ⟨[1, 5], [], [], false⟩) k) hG (calls := [(68, S68 k)]) ⟨ok68 hG k, trivial⟩ 5 rfl (S41 k) (congrFun e41 k)

/-- loop.example/g01402/laws.szCache -/
def F14 (k : Nat) (a0 : D9) (a1 : Int) : Option (Int) :=
  ((F40 k a0.1 a1).bind fun r1 => (bif (decide (r1 < (0 : Int))) then some (-1 : Int) else ((F41 k a0.2 r1).bind fun r2 => (bif (decide (r2 < (0 : Int))) then some (-1 : Int) else some r2))))
def S14 (k : Nat) : CSpec := { params := [U9, (.int .i64)], res := [((.int .i64), false)], fresh := true, sem := fun x => F14 k x.1 x.2.1 }
theorem e14 : (fun k => evFn ((T (fun _ _ => ⟨[], [], [], false⟩) k).cx [(40, S40 k), (41, S41 k)]) 5 Try.f14 (S14 0).params (S14 0).res true) = fun k => (S14 k).sem := by kernel_rfl
theorem ok14 {G : World → Prop} (hG : Lasts G) (k : Nat) : (S14 k).ok Try.prog G 14 := fn_ok (T_ok (fun _ _ => ⟨[], [], [], false⟩) k) hG (calls := [(40, S40 k), (41, S41 k)]) ⟨ok40 hG k, ok41 hG k, trivial⟩ 5 rfl (S14 k) (congrFun e14 k)

/-- loop.example/g01402/laws.szFlight -/
def F42 (k : Nat) (a0 : D10) (a1 : Int) : Option (Int) :=
  (bif (decide ((wrap64 (a1 - (a0.1.size : Int))) < (0 : Int))) then some (-1 : Int) else ((F63 k a0.2.2.2.2.2.1 (wrap64 (a1 - (a0.1.size : Int)))).bind fun r1 => (bif (decide (r1 < (0 : Int))) then some (-1 : Int) else ((F65 k a0.2.2.2.2.2.2.1 r1).bind fun r2 => (bif (decide (r2 < (0 : Int))) then some (-1 : Int) else some r2)))))
def S42 (k : Nat) : CSpec := { params := [U10, (.int .i64)], res := [((.int .i64), false)], fresh := true, sem := fun x => F42 k x.1 x.2.1 }
theorem e42 : (fun k => evFn ((T (fun _ _ => ⟨[], [], [], false⟩) k).cx [(63, S63 k), (65, S65 k)]) 5 Try.f42 (S42 0).params (S42 0).res true) = fun k => (S42 k).sem := by kernel_rfl
theorem ok42 {G : World → Prop} (hG : Lasts G) (k : Nat) : (S42 k).ok Try.prog G 42 := fn_ok (T_ok (fun _ _ => ⟨[], [], [], false⟩) k) hG (calls := [(63, S63 k), (65, S65 k)]) ⟨ok63 hG k, ok65 hG k, trivial⟩ 5 rfl (S42 k) (congrFun e42 k)

/-- loop.example/g01402/laws.szFlightS -/
def F15 (k : Nat) (a0 : List D10) (a1 : Int) : Option (Int) :=
  (bif (decide ((wrap64 (a1 - (a0.length : Int))) < (0 : Int))) then some (-1 : Int) else (iter (σ := Int × Int × Unit) (fun rec5 x4 => (bif (decide (x4.2.1 < (a0.length : Int))) then (bif (decide (0 ≤ x4.2.1 ∧ x4.2.1 < (a0.length : Int))) then ((F42 k (a0.getD x4.2.1.toNat Z10) x4.1).bind fun r6 => (bif (decide (r6 < (0 : Int))) then some (-1 : Int) else (rec5 (r6, (wrap64 (x4.2.1 + (1 : Int))), ())))) else none) else some x4.1)) k ((wrap64 (a1 - (a0.length : Int))), (0 : Int), ())))
def S15 (k : Nat) : CSpec := { params := [(.slice U10), (.int .i64)], res := [((.int .i64), false)], fresh := true, sem := fun x => F15 k x.1 x.2.1 }
theorem e15 : (fun k => evFn ((T (fun _ _ => ⟨[1, 5], [], [], false⟩) k).cx [(42, S42 k)]) 5 Try.f15 (S15 0).params (S15 0).res true) = fun k => (S15 k).sem := by kernel_rfl
theorem ok15 {G : World → Prop} (hG : Lasts G) (k : Nat) : (S15 k).ok Try.prog G 15 := fn_ok (T_ok (fun _ _ => ⟨[1, 5], [], [], false⟩) k) hG (calls := [(42, S42 k)]) ⟨ok42 hG k, trivial⟩ 5 rfl (S15 k) (congrFun e15 k)

/-- loop.example/g01402/laws.szRes -/
def F69 (k : Nat) (a0 : D11) (a1 : Int) : Option (Int) :=
  (bif (decide ((wrap64 (a1 - (a0.1.size : Int))) < (0 : Int))) then some (-1 : Int) else (bif (decide ((wrap64 ((wrap64 (a1 - (a0.1.size : Int))) - (a0.2.1.size : Int))) < (0 : Int))) then some (-1 : Int) else ((F85 k a0.2.2.2.2.2.2 (wrap64 ((wrap64 (a1 - (a0.1.size : Int))) - (a0.2.1.size : Int)))).bind fun r1 => (bif (decide (r1 < (0 : Int))) then some (-1 : Int) else some r1))))
def S69 (k : Nat) : CSpec := { params := [U11, (.int .i64)], res := [((.int .i64), false)], fresh := true, sem := fun x => F69 k x.1 x.2.1 }
theorem e69 : (fun k => evFn ((T (fun _ _ => ⟨[], [], [], false⟩) k).cx [(85, S85 k)]) 5 Try.f69 (S69 0).params (S69 0).res true) = fun k => (S69 k).sem := by kernel_rfl
theorem ok69 {G : World → Prop} (hG : Lasts G) (k : Nat) : (S69 k).ok Try.prog G 69 := fn_ok (T_ok (fun _ _ => ⟨[], [], [], false⟩) k) hG (calls := [(85, S85 k)]) ⟨ok85 hG k, trivial⟩ 5 rfl (S69 k) (congrFun e69 k)

/-- loop.example/g01402/laws.szResS -/
def F43 (k : Nat) (a0 : List D11) (a1 : Int) : Option (Int) :=
  (bif (decide ((wrap64 (a1 - (a0.length : Int))) < (0 : Int))) then some (-1 : Int) else (iter (σ := Int × Int × Unit) (fun rec5 x4 => (bif (decide (x4.2.1 < (a0.length : Int))) then (bif (decide (0 ≤ x4.2.1 ∧ x4.2.1 < (a0.length : Int))) then ((F69 k (a0.getD x4.2.1.toNat Z11) x4.1).bind fun r6 => (bif (decide (r6 < (0 : Int))) then some (-1 : Int) else (rec5 (r6, (wrap64 (x4.2.1 + (1 : Int))), ())))) else none) else some x4.1)) k ((wrap64 (a1 - (a0.length : Int))), (0 : Int), ())))
def S43 (k : Nat) : CSpec := { params := [(.slice U11), (.int .i64)], res := [((.int .i64), false)], fresh := true, sem := fun x => F43 k x.1 x.2.1 }
theorem e43 : (fun k => evFn ((T (fun _ _ => ⟨[1, 5], [], [], false⟩) k).cx [(69, S69 k)]) 5 Try.f43 (S43 0).params (S43 0).res true) = fun k => (S43 k).sem := by kernel_rfl
theorem ok43 {G : World → Prop} (hG : Lasts G) (k : Nat) : (S43 k).ok Try.prog G 43 := fn_ok (T_ok (fun _ _ => ⟨[1, 5], [], [], false⟩) k) hG (calls := [(69, S69 k)]) ⟨ok69 hG k, trivial⟩ 5 rfl (S43 k) (congrFun e43 k)

/-- loop.example/g01402/laws.szOrigin -/
def F16 (k : Nat) (a0 : D12) (a1 : Int) : Option (Int) :=
  ((F43 k a0 a1).bind fun r1 => (bif (decide (r1 < (0 : Int))) then some (-1 : Int) else some r1))
def S16 (k : Nat) : CSpec := { params := [U12, (.int .i64)], res := [((.int .i64), false)], fresh := true, sem := fun x => F16 k x.1 x.2.1 }
theorem e16 : (fun k => evFn ((T (fun _ _ => ⟨[], [], [], false⟩) k).cx [(43, S43 k)]) 5 Try.f16 (S16 0).params (S16 0).res true) = fun k => (S16 k).sem := by kernel_rfl
theorem ok16 {G : World → Prop} (hG : Lasts G) (k : Nat) : (S16 k).ok Try.prog G 16 := fn_ok (T_ok (fun _ _ => ⟨[], [], [], false⟩) k) hG (calls := [(43, S43 k)]) ⟨ok43 hG k, trivial⟩ 5 rfl (S16 k) (congrFun e16 k)

/-- loop.example/g01402/laws.szEvent -/
def F44 (k : Nat) (a0 : D13) (a1 : Int) : Option (Int) :=
  (bif (decide ((wrap64 (a1 - (a0.2.2.2.1.size : Int))) < (0 : Int))) then some (-1 : Int) else some (wrap64 (a1 - (a0.2.2.2.1.size : Int))))
def S44 (k : Nat) : CSpec := { params := [U13, (.int .i64)], res := [((.int .i64), false)], fresh := true, sem := fun x => F44 k x.1 x.2.1 }
theorem e44 : (fun k => evFn ((T (fun _ _ => ⟨[], [], [], false⟩) k).cx []) 5 Try.f44 (S44 0).params (S44 0).res true) = fun k => (S44 k).sem := by kernel_rfl
theorem ok44 {G : World → Prop} (hG : Lasts G) (k : Nat) : (S44 k).ok Try.prog G 44 := fn_ok (T_ok (fun _ _ => ⟨[], [], [], false⟩) k) hG (calls := []) trivial 5 rfl (S44 k) (congrFun e44 k)

/-- loop.example/g01402/laws.szEventS -/
def F17 (k : Nat) (a0 : List D13) (a1 : Int) : Option (Int) :=
  (bif (decide ((wrap64 (a1 - (a0.length : Int))) < (0 : Int))) then some (-1 : Int) else (iter (σ := Int × Int × Unit) (fun rec5 x4 => (bif (decide (x4.2.1 < (a0.length : Int))) then (bif (decide (0 ≤ x4.2.1 ∧ x4.2.1 < (a0.length : Int))) then ((F44 k (a0.getD x4.2.1.toNat Z13) x4.1).bind fun r6 => (bif (decide (r6 < (0 : Int))) then some (-1 : Int) else (rec5 (r6, (wrap64 (x4.2.1 + (1 : Int))), ())))) else none) else some x4.1)) k ((wrap64 (a1 - (a0.length : Int))), (0 : Int), ())))
def S17 (k : Nat) : CSpec := { params := [(.slice U13), (.int .i64)], res := [((.int .i64), false)], fresh := true, sem := fun x => F17 k x.1 x.2.1 }
theorem e17 : (fun k => evFn ((T (fun _ _ => ⟨[1, 5], [], [], false⟩) k).cx [(44, S44 k)]) 5 Try.f17 (S17 0).params (S17 0).res true) = fun k => (S17 k).sem := by kernel_rfl
theorem ok17 {G : World → Prop} (hG : Lasts G) (k : Nat) : (S17 k).ok Try.prog G 17 := fn_ok (T_ok (fun _ _ => ⟨[1, 5], [], [], false⟩) k) hG (calls := [(44, S44 k)]) ⟨ok44 hG k, trivial⟩ 5 rfl (S17 k) (congrFun e17 k)

/-- loop.example/g01402/laws.szWorld -/
def F4 (k : Nat) (a0 : D14) (a1 : Int) : Option (Int) :=
  ((F13 k a0.2.2.1 a1).bind fun r1 => (bif (decide (r1 < (0 : Int))) then some (-1 : Int) else ((F14 k a0.2.2.2.1 r1).bind fun r2 => (bif (decide (r2 < (0 : Int))) then some (-1 : Int) else ((F15 k a0.2.2.2.2.1 r2).bind fun r3 => (bif (decide (r3 < (0 : Int))) then some (-1 : Int) else ((F16 k a0.2.2.2.2.2.1 r3).bind fun r4 => (bif (decide (r4 < (0 : Int))) then some (-1 : Int) else ((F17 k a0.2.2.2.2.2.2 r4).bind fun r5 => (bif (decide (r5 < (0 : Int))) then some (-1 : Int) else some r5))))))))))
def S4 (k : Nat) : CSpec := { params := [U14, (.int .i64)], res := [((.int .i64), false)], fresh := true, sem := fun x => F4 k x.1 x.2.1 }
theorem e4 : (fun k => evFn ((T (fun _ _ => ⟨[], [], [], false⟩) k).cx [(13, S13 k), (14, S14 k), (15, S15 k), (16, S16 k), (17, S17 k)]) 5 Try.f4 (S4 0).params (S4 0).res true) = fun k => (S4 k).sem := by kernel_rfl
theorem ok4 {G : World → Prop} (hG : Lasts G) (k : Nat) : (S4 k).ok Try.prog G 4 := fn_ok (T_ok (fun _ _ => ⟨[], [], [], false⟩) k) hG (calls := [(13, S13 k), (14, S14 k), (15, S15 k), (16, S16 k), (17, S17 k)]) ⟨ok13 hG k, ok14 hG k, ok15 hG k, ok16 hG k, ok17 hG k, trivial⟩ 5 rfl (S4 k) (congrFun e4 k)

/-- loop.example/g01402/laws.toField -/
def F95 (k : Nat) (a0 : D0) : Option (D0) :=
  some a0
def S95 (k : Nat) : CSpec := { params := [U0], res := [(U0, false)], fresh := true, sem := fun x => F95 k x.1 }
theorem e95 : (fun k => evFn ((T (fun _ _ => ⟨[], [], [], false⟩) k).cx []) 5 Try.f95 (S95 0).params (S95 0).res true) = fun k => (S95 k).sem := by kernel_rfl
theorem ok95 {G : World → Prop} (hG : Lasts G) (k : Nat) : (S95 k).ok Try.prog G 95 := fn_ok (T_ok (fun _ _ => ⟨[], [], [], false⟩) k) hG (calls := []) trivial 5 rfl (S95 k) (congrFun e95 k)

/-- loop.example/g01402/laws.toFieldS -/
def F88 (k : Nat) (a0 : List D0) : Option ((List D0)) :=
  (bif (decide (0 ≤ (a0.length : Int) ∧ (a0.length : Int) = (a0.length : Int) ∧ (a0.length : Int) < (most : Int))) then (iter (σ := Int × List D0 × Unit) (fun rec5 x4 => (bif (decide (x4.1 < (a0.length : Int))) then (bif (decide (0 ≤ x4.1 ∧ x4.1 < (a0.length : Int))) then ((F95 k (a0.getD x4.1.toNat Z0)).bind fun r6 => (bif (decide (0 ≤ x4.1 ∧ x4.1 < (x4.2.1.length : Int))) then (rec5 ((wrap64 (x4.1 + (1 : Int))), (x4.2.1.set x4.1.toNat r6), ())) else none)) else none) else some x4.2.1)) k ((0 : Int), (List.replicate (a0.length : Int).toNat Z0), ())) else none)
def S88 (k : Nat) : CSpec := { params := [(.slice U0)], res := [((.slice U0), true)], fresh := true, sem := fun x => F88 k x.1 }
theorem e88 : (fun k => evFn ((T (fun _ _ => ⟨[4], [1], [], false⟩) k).cx [(95, S95 k)]) 5 Try.f88 (S88 0).params (S88 0).res true) = fun k => (S88 k).sem := by kernel_rfl
theorem ok88 {G : World → Prop} (hG : Lasts G) (k : Nat) : (S88 k).ok Try.prog G 88 := fn_ok (T_ok (fun _ _ => ⟨[4], [1], [], false⟩) k) hG (calls := [(95, S95 k)]) ⟨ok95 hG k, trivial⟩ 5 rfl (S88 k) (congrFun e88 k)

/-- loop.example/g01402/laws.toRequest -/
def F70 (k : Nat) (a0 : D1) : Option (D1) :=
  ((F88 k a0.2.2.1).bind fun r1 => some (a0.1, a0.2.1, r1, a0.2.2.2))
def S70 (k : Nat) : CSpec := { params := [U1], res := [(U1, true)], fresh := true, sem := fun x => F70 k x.1 }
theorem e70 : (fun k => evFn ((T (fun _ _ => ⟨[], [], [], false⟩) k).cx [(88, S88 k)]) 5 Try.f70 (S70 0).params (S70 0).res true) = fun k => (S70 k).sem := by kernel_rfl
theorem ok70 {G : World → Prop} (hG : Lasts G) (k : Nat) : (S70 k).ok Try.prog G 70 := fn_ok (T_ok (fun _ _ => ⟨[], [], [], false⟩) k) hG (calls := [(88, S88 k)]) ⟨ok88 hG k, trivial⟩ 5 rfl (S70 k) (congrFun e70 k)

/-- loop.example/g01402/laws.toResponse -/
def F72 (k : Nat) (a0 : D2) : Option (D2) :=
  ((F88 k a0.2.1).bind fun r1 => some (a0.1, r1, a0.2.2))
def S72 (k : Nat) : CSpec := { params := [U2], res := [(U2, true)], fresh := true, sem := fun x => F72 k x.1 }
theorem e72 : (fun k => evFn ((T (fun _ _ => ⟨[], [], [], false⟩) k).cx [(88, S88 k)]) 5 Try.f72 (S72 0).params (S72 0).res true) = fun k => (S72 k).sem := by kernel_rfl
theorem ok72 {G : World → Prop} (hG : Lasts G) (k : Nat) : (S72 k).ok Try.prog G 72 := fn_ok (T_ok (fun _ _ => ⟨[], [], [], false⟩) k) hG (calls := [(88, S88 k)]) ⟨ok88 hG k, trivial⟩ 5 rfl (S72 k) (congrFun e72 k)

/-- loop.example/g01402/laws.toStored -/
def F71 (k : Nat) (a0 : D3) : Option (D3) :=
  ((F88 k a0.2.1).bind fun r1 => ((F72 k a0.2.2.1).bind fun r2 => some (a0.1, r1, r2, a0.2.2.2.1, a0.2.2.2.2)))
def S71 (k : Nat) : CSpec := { params := [U3], res := [(U3, true)], fresh := true, sem := fun x => F71 k x.1 }
theorem e71 : (fun k => evFn ((T (fun _ _ => ⟨[], [], [], false⟩) k).cx [(72, S72 k), (88, S88 k)]) 5 Try.f71 (S71 0).params (S71 0).res true) = fun k => (S71 k).sem := by kernel_rfl
theorem ok71 {G : World → Prop} (hG : Lasts G) (k : Nat) : (S71 k).ok Try.prog G 71 := fn_ok (T_ok (fun _ _ => ⟨[], [], [], false⟩) k) hG (calls := [(72, S72 k), (88, S88 k)]) ⟨ok72 hG k, ok88 hG k, trivial⟩ 5 rfl (S71 k) (congrFun e71 k)

/-- loop.example/g01402/laws.toTold -/
def F89 (k : Nat) (a0 : D4) : Option (D4) :=
  ((F72 k a0.2).bind fun r1 => some (a0.1, r1))
def S89 (k : Nat) : CSpec := { params := [U4], res := [(U4, true)], fresh := true, sem := fun x => F89 k x.1 }
theorem e89 : (fun k => evFn ((T (fun _ _ => ⟨[], [], [], false⟩) k).cx [(72, S72 k)]) 5 Try.f89 (S89 0).params (S89 0).res true) = fun k => (S89 k).sem := by kernel_rfl
theorem ok89 {G : World → Prop} (hG : Lasts G) (k : Nat) : (S89 k).ok Try.prog G 89 := fn_ok (T_ok (fun _ _ => ⟨[], [], [], false⟩) k) hG (calls := [(72, S72 k)]) ⟨ok72 hG k, trivial⟩ 5 rfl (S89 k) (congrFun e89 k)

/-- loop.example/g01402/laws.toToldS -/
def F73 (k : Nat) (a0 : List D4) : Option ((List D4)) :=
  (bif (decide (0 ≤ (a0.length : Int) ∧ (a0.length : Int) = (a0.length : Int) ∧ (a0.length : Int) < (most : Int))) then (iter (σ := Int × List D4 × Unit) (fun rec5 x4 => (bif (decide (x4.1 < (a0.length : Int))) then (bif (decide (0 ≤ x4.1 ∧ x4.1 < (a0.length : Int))) then ((F89 k (a0.getD x4.1.toNat Z4)).bind fun r6 => (bif (decide (0 ≤ x4.1 ∧ x4.1 < (x4.2.1.length : Int))) then (rec5 ((wrap64 (x4.1 + (1 : Int))), (x4.2.1.set x4.1.toNat r6), ())) else none)) else none) else some x4.2.1)) k ((0 : Int), (List.replicate (a0.length : Int).toNat Z4), ())) else none)
def S73 (k : Nat) : CSpec := { params := [(.slice U4)], res := [((.slice U4), true)], fresh := true, sem := fun x => F73 k x.1 }
theorem e73 : (fun k => evFn ((T (fun _ _ => ⟨[4], [1], [], false⟩) k).cx [(89, S89 k)]) 5 Try.f73 (S73 0).params (S73 0).res true) = fun k => (S73 k).sem := by kernel_rfl
theorem ok73 {G : World → Prop} (hG : Lasts G) (k : Nat) : (S73 k).ok Try.prog G 73 := fn_ok (T_ok (fun _ _ => ⟨[4], [1], [], false⟩) k) hG (calls := [(89, S89 k)]) ⟨ok89 hG k, trivial⟩ 5 rfl (S73 k) (congrFun e73 k)

/-- loop.example/g01402/laws.toConn -/
def F46 (k : Nat) (a0 : D5) : Option (D5) :=
  ((F70 k a0.2.2.2.1).bind fun r1 => ((F70 k a0.2.2.2.2.1).bind fun r2 => ((F71 k a0.2.2.2.2.2.1).bind fun r3 => ((F72 k a0.2.2.2.2.2.2.2.2.2.2.2.2.1).bind fun r4 => ((F73 k a0.2.2.2.2.2.2.2.2.2.2.2.2.2).bind fun r5 => some (a0.1, a0.2.1, a0.2.2.1, r1, r2, r3, a0.2.2.2.2.2.2.1, a0.2.2.2.2.2.2.2.1, a0.2.2.2.2.2.2.2.2.1, a0.2.2.2.2.2.2.2.2.2.1, a0.2.2.2.2.2.2.2.2.2.2.1, a0.2.2.2.2.2.2.2.2.2.2.2.1, r4, r5))))))
def S46 (k : Nat) : CSpec := { params := [U5], res := [(U5, true)], fresh := true, sem := fun x => F46 k x.1 }
theorem e46 : (fun k => evFn ((T (fun _ _ => ⟨[], [], [], false⟩) k).cx [(70, S70 k), (71, S71 k), (72, S72 k), (73, S73 k)]) 5 Try.f46 (S46 0).params (S46 0).res true) = fun k => (S46 k).sem := by kernel_rfl
theorem ok46 {G : World → Prop} (hG : Lasts G) (k : Nat) : (S46 k).ok Try.prog G 46 := fn_ok (T_ok (fun _ _ => ⟨[], [], [], false⟩) k) hG (calls := [(70, S70 k), (71, S71 k), (72, S72 k), (73, S73 k)]) ⟨ok70 hG k, ok71 hG k, ok72 hG k, ok73 hG k, trivial⟩ 5 rfl (S46 k) (congrFun e46 k)

/-- loop.example/g01402/laws.toConnS -/
def F19 (k : Nat) (a0 : List D5) : Option ((List D5)) :=
  (bif (decide (0 ≤ (a0.length : Int) ∧ (a0.length : Int) = (a0.length : Int) ∧ (a0.length : Int) < (most : Int))) then (iter (σ := Int × List D5 × Unit) (fun rec5 x4 => (bif (decide (x4.1 < (a0.length : Int))) then (bif (decide (0 ≤ x4.1 ∧ x4.1 < (a0.length : Int))) then ((F46 k (a0.getD x4.1.toNat Z5)).bind fun r6 => (bif (decide (0 ≤ x4.1 ∧ x4.1 < (x4.2.1.length : Int))) then (rec5 ((wrap64 (x4.1 + (1 : Int))), (x4.2.1.set x4.1.toNat r6), ())) else none)) else none) else some x4.2.1)) k ((0 : Int), (List.replicate (a0.length : Int).toNat Z5), ())) else none)
def S19 (k : Nat) : CSpec := { params := [(.slice U5)], res := [((.slice U5), true)], fresh := true, sem := fun x => F19 k x.1 }
theorem e19 : (fun k => evFn ((T (fun _ _ => ⟨[4], [1], [], false⟩) k).cx [(46, S46 k)]) 5 Try.f19 (S19 0).params (S19 0).res true) = fun k => (S19 k).sem := by kernel_rfl
theorem ok19 {G : World → Prop} (hG : Lasts G) (k : Nat) : (S19 k).ok Try.prog G 19 := fn_ok (T_ok (fun _ _ => ⟨[4], [1], [], false⟩) k) hG (calls := [(46, S46 k)]) ⟨ok46 hG k, trivial⟩ 5 rfl (S19 k) (congrFun e19 k)

/-- loop.example/g01402/laws.toSlot -/
def F96 (k : Nat) (a0 : D6) : Option (D6) :=
  ((F71 k a0.1).bind fun r1 => some (r1, a0.2))
def S96 (k : Nat) : CSpec := { params := [U6], res := [(U6, true)], fresh := true, sem := fun x => F96 k x.1 }
theorem e96 : (fun k => evFn ((T (fun _ _ => ⟨[], [], [], false⟩) k).cx [(71, S71 k)]) 5 Try.f96 (S96 0).params (S96 0).res true) = fun k => (S96 k).sem := by kernel_rfl
theorem ok96 {G : World → Prop} (hG : Lasts G) (k : Nat) : (S96 k).ok Try.prog G 96 := fn_ok (T_ok (fun _ _ => ⟨[], [], [], false⟩) k) hG (calls := [(71, S71 k)]) ⟨ok71 hG k, trivial⟩ 5 rfl (S96 k) (congrFun e96 k)

/-- loop.example/g01402/laws.toSlotS -/
def F90 (k : Nat) (a0 : List D6) : Option ((List D6)) :=
  (bif (decide (0 ≤ (a0.length : Int) ∧ (a0.length : Int) = (a0.length : Int) ∧ (a0.length : Int) < (most : Int))) then (iter (σ := Int × List D6 × Unit) (fun rec5 x4 => (bif (decide (x4.1 < (a0.length : Int))) then (bif (decide (0 ≤ x4.1 ∧ x4.1 < (a0.length : Int))) then ((F96 k (a0.getD x4.1.toNat Z6)).bind fun r6 => (bif (decide (0 ≤ x4.1 ∧ x4.1 < (x4.2.1.length : Int))) then (rec5 ((wrap64 (x4.1 + (1 : Int))), (x4.2.1.set x4.1.toNat r6), ())) else none)) else none) else some x4.2.1)) k ((0 : Int), (List.replicate (a0.length : Int).toNat Z6), ())) else none)
def S90 (k : Nat) : CSpec := { params := [(.slice U6)], res := [((.slice U6), true)], fresh := true, sem := fun x => F90 k x.1 }
theorem e90 : (fun k => evFn ((T (fun _ _ => ⟨[4], [1], [], false⟩) k).cx [(96, S96 k)]) 5 Try.f90 (S90 0).params (S90 0).res true) = fun k => (S90 k).sem := by kernel_rfl
theorem ok90 {G : World → Prop} (hG : Lasts G) (k : Nat) : (S90 k).ok Try.prog G 90 := fn_ok (T_ok (fun _ _ => ⟨[4], [1], [], false⟩) k) hG (calls := [(96, S96 k)]) ⟨ok96 hG k, trivial⟩ 5 rfl (S90 k) (congrFun e90 k)

/-- loop.example/g01402/laws.toShard -/
def F74 (k : Nat) (a0 : D7) : Option (D7) :=
  ((F90 k a0.2.2.1).bind fun r1 => some (a0.1, a0.2.1, r1, a0.2.2.2))
def S74 (k : Nat) : CSpec := { params := [U7], res := [(U7, true)], fresh := true, sem := fun x => F74 k x.1 }
theorem e74 : (fun k => evFn ((T (fun _ _ => ⟨[], [], [], false⟩) k).cx [(90, S90 k)]) 5 Try.f74 (S74 0).params (S74 0).res true) = fun k => (S74 k).sem := by kernel_rfl
theorem ok74 {G : World → Prop} (hG : Lasts G) (k : Nat) : (S74 k).ok Try.prog G 74 := fn_ok (T_ok (fun _ _ => ⟨[], [], [], false⟩) k) hG (calls := [(90, S90 k)]) ⟨ok90 hG k, trivial⟩ 5 rfl (S74 k) (congrFun e74 k)

/-- loop.example/g01402/laws.toShardS -/
def F47 (k : Nat) (a0 : List D7) : Option ((List D7)) :=
  (bif (decide (0 ≤ (a0.length : Int) ∧ (a0.length : Int) = (a0.length : Int) ∧ (a0.length : Int) < (most : Int))) then (iter (σ := Int × List D7 × Unit) (fun rec5 x4 => (bif (decide (x4.1 < (a0.length : Int))) then (bif (decide (0 ≤ x4.1 ∧ x4.1 < (a0.length : Int))) then ((F74 k (a0.getD x4.1.toNat Z7)).bind fun r6 => (bif (decide (0 ≤ x4.1 ∧ x4.1 < (x4.2.1.length : Int))) then (rec5 ((wrap64 (x4.1 + (1 : Int))), (x4.2.1.set x4.1.toNat r6), ())) else none)) else none) else some x4.2.1)) k ((0 : Int), (List.replicate (a0.length : Int).toNat Z7), ())) else none)
def S47 (k : Nat) : CSpec := { params := [(.slice U7)], res := [((.slice U7), true)], fresh := true, sem := fun x => F47 k x.1 }
theorem e47 : (fun k => evFn ((T (fun _ _ => ⟨[4], [1], [], false⟩) k).cx [(74, S74 k)]) 5 Try.f47 (S47 0).params (S47 0).res true) = fun k => (S47 k).sem := by kernel_rfl
theorem ok47 {G : World → Prop} (hG : Lasts G) (k : Nat) : (S47 k).ok Try.prog G 47 := fn_ok (T_ok (fun _ _ => ⟨[4], [1], [], false⟩) k) hG (calls := [(74, S74 k)]) ⟨ok74 hG k, trivial⟩ 5 rfl (S47 k) (congrFun e47 k)

/-- loop.example/g01402/laws.toGenRow -/
def F75 (k : Nat) (a0 : D8) : Option (D8) :=
  some a0
def S75 (k : Nat) : CSpec := { params := [U8], res := [(U8, false)], fresh := true, sem := fun x => F75 k x.1 }
theorem e75 : (fun k => evFn ((T (fun _ _ => ⟨[], [], [], false⟩) k).cx []) 5 Try.f75 (S75 0).params (S75 0).res true) = fun k => (S75 k).sem := by kernel_rfl
theorem ok75 {G : World → Prop} (hG : Lasts G) (k : Nat) : (S75 k).ok Try.prog G 75 := fn_ok (T_ok (fun _ _ => ⟨[], [], [], false⟩) k) hG (calls := []) trivial 5 rfl (S75 k) (congrFun e75 k)

/-- loop.example/g01402/laws.toGenRowS -/
def F48 (k : Nat) (a0 : List D8) : Option ((List D8)) :=
  (bif (decide (0 ≤ (a0.length : Int) ∧ (a0.length : Int) = (a0.length : Int) ∧ (a0.length : Int) < (most : Int))) then (iter (σ := Int × List D8 × Unit) (fun rec5 x4 => (bif (decide (x4.1 < (a0.length : Int))) then (bif (decide (0 ≤ x4.1 ∧ x4.1 < (a0.length : Int))) then ((F75 k (a0.getD x4.1.toNat Z8)).bind fun r6 => (bif (decide (0 ≤ x4.1 ∧ x4.1 < (x4.2.1.length : Int))) then (rec5 ((wrap64 (x4.1 + (1 : Int))), (x4.2.1.set x4.1.toNat r6), ())) else none)) else none) else some x4.2.1)) k ((0 : Int), (List.replicate (a0.length : Int).toNat Z8), ())) else none)
def S48 (k : Nat) : CSpec := { params := [(.slice U8)], res := [((.slice U8), true)], fresh := true, sem := fun x => F48 k x.1 }
theorem e48 : (fun k => evFn ((T (fun _ _ => ⟨[4], [1], [], false⟩) k).cx [(75, S75 k)]) 5 Try.f48 (S48 0).params (S48 0).res true) = fun k => (S48 k).sem := by kernel_rfl
theorem ok48 {G : World → Prop} (hG : Lasts G) (k : Nat) : (S48 k).ok Try.prog G 48 := fn_ok (T_ok (fun _ _ => ⟨[4], [1], [], false⟩) k) hG (calls := [(75, S75 k)]) ⟨ok75 hG k, trivial⟩ 5 rfl (S48 k) (congrFun e48 k)

/-- loop.example/g01402/laws.toCache -/
def F20 (k : Nat) (a0 : D9) : Option (D9) :=
  ((F47 k a0.1).bind fun r1 => ((F48 k a0.2).bind fun r2 => some (r1, r2)))
def S20 (k : Nat) : CSpec := { params := [U9], res := [(U9, true)], fresh := true, sem := fun x => F20 k x.1 }
theorem e20 : (fun k => evFn ((T (fun _ _ => ⟨[], [], [], false⟩) k).cx [(47, S47 k), (48, S48 k)]) 5 Try.f20 (S20 0).params (S20 0).res true) = fun k => (S20 k).sem := by kernel_rfl
theorem ok20 {G : World → Prop} (hG : Lasts G) (k : Nat) : (S20 k).ok Try.prog G 20 := fn_ok (T_ok (fun _ _ => ⟨[], [], [], false⟩) k) hG (calls := [(47, S47 k), (48, S48 k)]) ⟨ok47 hG k, ok48 hG k, trivial⟩ 5 rfl (S20 k) (congrFun e20 k)

/-- loop.example/g01402/laws.toFlight -/
def F49 (k : Nat) (a0 : D10) : Option (D10) :=
  ((F70 k a0.2.2.2.2.2.1).bind fun r1 => ((F72 k a0.2.2.2.2.2.2.1).bind fun r2 => some (a0.1, a0.2.1, a0.2.2.1, a0.2.2.2.1, a0.2.2.2.2.1, r1, r2, a0.2.2.2.2.2.2.2.1, a0.2.2.2.2.2.2.2.2)))
def S49 (k : Nat) : CSpec := { params := [U10], res := [(U10, true)], fresh := true, sem := fun x => F49 k x.1 }
theorem e49 : (fun k => evFn ((T (fun _ _ => ⟨[], [], [], false⟩) k).cx [(70, S70 k), (72, S72 k)]) 5 Try.f49 (S49 0).params (S49 0).res true) = fun k => (S49 k).sem := by kernel_rfl
theorem ok49 {G : World → Prop} (hG : Lasts G) (k : Nat) : (S49 k).ok Try.prog G 49 := fn_ok (T_ok (fun _ _ => ⟨[], [], [], false⟩) k) hG (calls := [(70, S70 k), (72, S72 k)]) ⟨ok70 hG k, ok72 hG k, trivial⟩ 5 rfl (S49 k) (congrFun e49 k)

/-- loop.example/g01402/laws.toFlightS -/
def F21 (k : Nat) (a0 : List D10) : Option ((List D10)) :=
  (bif (decide (0 ≤ (a0.length : Int) ∧ (a0.length : Int) = (a0.length : Int) ∧ (a0.length : Int) < (most : Int))) then (iter (σ := Int × List D10 × Unit) (fun rec5 x4 => (bif (decide (x4.1 < (a0.length : Int))) then (bif (decide (0 ≤ x4.1 ∧ x4.1 < (a0.length : Int))) then ((F49 k (a0.getD x4.1.toNat Z10)).bind fun r6 => (bif (decide (0 ≤ x4.1 ∧ x4.1 < (x4.2.1.length : Int))) then (rec5 ((wrap64 (x4.1 + (1 : Int))), (x4.2.1.set x4.1.toNat r6), ())) else none)) else none) else some x4.2.1)) k ((0 : Int), (List.replicate (a0.length : Int).toNat Z10), ())) else none)
def S21 (k : Nat) : CSpec := { params := [(.slice U10)], res := [((.slice U10), true)], fresh := true, sem := fun x => F21 k x.1 }
theorem e21 : (fun k => evFn ((T (fun _ _ => ⟨[4], [1], [], false⟩) k).cx [(49, S49 k)]) 5 Try.f21 (S21 0).params (S21 0).res true) = fun k => (S21 k).sem := by kernel_rfl
theorem ok21 {G : World → Prop} (hG : Lasts G) (k : Nat) : (S21 k).ok Try.prog G 21 := fn_ok (T_ok (fun _ _ => ⟨[4], [1], [], false⟩) k) hG (calls := [(49, S49 k)]) ⟨ok49 hG k, trivial⟩ 5 rfl (S21 k) (congrFun e21 k)

/-- loop.example/g01402/laws.toRes -/
def F76 (k : Nat) (a0 : D11) : Option (D11) :=
  ((F88 k a0.2.2.2.2.2.2).bind fun r1 => some (a0.1, a0.2.1, a0.2.2.1, a0.2.2.2.1, a0.2.2.2.2.1, a0.2.2.2.2.2.1, r1))
def S76 (k : Nat) : CSpec := { params := [U11], res := [(U11, true)], fresh := true, sem := fun x => F76 k x.1 }
theorem e76 : (fun k => evFn ((T (fun _ _ => ⟨[], [], [], false⟩) k).cx [(88, S88 k)]) 5 Try.f76 (S76 0).params (S76 0).res true) = fun k => (S76 k).sem := by kernel_rfl
theorem ok76 {G : World → Prop} (hG : Lasts G) (k : Nat) : (S76 k).ok Try.prog G 76 := fn_ok (T_ok (fun _ _ => ⟨[], [], [], false⟩) k) hG (calls := [(88, S88 k)]) ⟨ok88 hG k, trivial⟩ 5 rfl (S76 k) (congrFun e76 k)

/-- loop.example/g01402/laws.toResS -/
def F50 (k : Nat) (a0 : List D11) : Option ((List D11)) :=
  (bif (decide (0 ≤ (a0.length : Int) ∧ (a0.length : Int) = (a0.length : Int) ∧ (a0.length : Int) < (most : Int))) then (iter (σ := Int × List D11 × Unit) (fun rec5 x4 => (bif (decide (x4.1 < (a0.length : Int))) then (bif (decide (0 ≤ x4.1 ∧ x4.1 < (a0.length : Int))) then ((F76 k (a0.getD x4.1.toNat Z11)).bind fun r6 => (bif (decide (0 ≤ x4.1 ∧ x4.1 < (x4.2.1.length : Int))) then (rec5 ((wrap64 (x4.1 + (1 : Int))), (x4.2.1.set x4.1.toNat r6), ())) else none)) else none) else some x4.2.1)) k ((0 : Int), (List.replicate (a0.length : Int).toNat Z11), ())) else none)
def S50 (k : Nat) : CSpec := { params := [(.slice U11)], res := [((.slice U11), true)], fresh := true, sem := fun x => F50 k x.1 }
theorem e50 : (fun k => evFn ((T (fun _ _ => ⟨[4], [1], [], false⟩) k).cx [(76, S76 k)]) 5 Try.f50 (S50 0).params (S50 0).res true) = fun k => (S50 k).sem := by kernel_rfl
theorem ok50 {G : World → Prop} (hG : Lasts G) (k : Nat) : (S50 k).ok Try.prog G 50 := fn_ok (T_ok (fun _ _ => ⟨[4], [1], [], false⟩) k) hG (calls := [(76, S76 k)]) ⟨ok76 hG k, trivial⟩ 5 rfl (S50 k) (congrFun e50 k)

/-- loop.example/g01402/laws.toOrigin -/
def F22 (k : Nat) (a0 : D12) : Option (D12) :=
  ((F50 k a0).bind fun r1 => some r1)
def S22 (k : Nat) : CSpec := { params := [U12], res := [(U12, true)], fresh := true, sem := fun x => F22 k x.1 }
theorem e22 : (fun k => evFn ((T (fun _ _ => ⟨[], [], [], false⟩) k).cx [(50, S50 k)]) 5 Try.f22 (S22 0).params (S22 0).res true) = fun k => (S22 k).sem := by kernel_rfl
theorem ok22 {G : World → Prop} (hG : Lasts G) (k : Nat) : (S22 k).ok Try.prog G 22 := fn_ok (T_ok (fun _ _ => ⟨[], [], [], false⟩) k) hG (calls := [(50, S50 k)]) ⟨ok50 hG k, trivial⟩ 5 rfl (S22 k) (congrFun e22 k)

/-- loop.example/g01402/laws.toEvent -/
def F51 (k : Nat) (a0 : D13) : Option (D13) :=
  some a0
def S51 (k : Nat) : CSpec := { params := [U13], res := [(U13, false)], fresh := true, sem := fun x => F51 k x.1 }
theorem e51 : (fun k => evFn ((T (fun _ _ => ⟨[], [], [], false⟩) k).cx []) 5 Try.f51 (S51 0).params (S51 0).res true) = fun k => (S51 k).sem := by kernel_rfl
theorem ok51 {G : World → Prop} (hG : Lasts G) (k : Nat) : (S51 k).ok Try.prog G 51 := fn_ok (T_ok (fun _ _ => ⟨[], [], [], false⟩) k) hG (calls := []) trivial 5 rfl (S51 k) (congrFun e51 k)

/-- loop.example/g01402/laws.toEventS -/
def F23 (k : Nat) (a0 : List D13) : Option ((List D13)) :=
  (bif (decide (0 ≤ (a0.length : Int) ∧ (a0.length : Int) = (a0.length : Int) ∧ (a0.length : Int) < (most : Int))) then (iter (σ := Int × List D13 × Unit) (fun rec5 x4 => (bif (decide (x4.1 < (a0.length : Int))) then (bif (decide (0 ≤ x4.1 ∧ x4.1 < (a0.length : Int))) then ((F51 k (a0.getD x4.1.toNat Z13)).bind fun r6 => (bif (decide (0 ≤ x4.1 ∧ x4.1 < (x4.2.1.length : Int))) then (rec5 ((wrap64 (x4.1 + (1 : Int))), (x4.2.1.set x4.1.toNat r6), ())) else none)) else none) else some x4.2.1)) k ((0 : Int), (List.replicate (a0.length : Int).toNat Z13), ())) else none)
def S23 (k : Nat) : CSpec := { params := [(.slice U13)], res := [((.slice U13), true)], fresh := true, sem := fun x => F23 k x.1 }
theorem e23 : (fun k => evFn ((T (fun _ _ => ⟨[4], [1], [], false⟩) k).cx [(51, S51 k)]) 5 Try.f23 (S23 0).params (S23 0).res true) = fun k => (S23 k).sem := by kernel_rfl
theorem ok23 {G : World → Prop} (hG : Lasts G) (k : Nat) : (S23 k).ok Try.prog G 23 := fn_ok (T_ok (fun _ _ => ⟨[4], [1], [], false⟩) k) hG (calls := [(51, S51 k)]) ⟨ok51 hG k, trivial⟩ 5 rfl (S23 k) (congrFun e23 k)

/-- loop.example/g01402/laws.toWorld -/
def F6 (k : Nat) (a0 : D14) : Option (D14) :=
  ((F19 k a0.2.2.1).bind fun r1 => ((F20 k a0.2.2.2.1).bind fun r2 => ((F21 k a0.2.2.2.2.1).bind fun r3 => ((F22 k a0.2.2.2.2.2.1).bind fun r4 => ((F23 k a0.2.2.2.2.2.2).bind fun r5 => some (a0.1, a0.2.1, r1, r2, r3, r4, r5))))))
def S6 (k : Nat) : CSpec := { params := [U14], res := [(U14, true)], fresh := true, sem := fun x => F6 k x.1 }
theorem e6 : (fun k => evFn ((T (fun _ _ => ⟨[], [], [], false⟩) k).cx [(19, S19 k), (20, S20 k), (21, S21 k), (22, S22 k), (23, S23 k)]) 5 Try.f6 (S6 0).params (S6 0).res true) = fun k => (S6 k).sem := by kernel_rfl
theorem ok6 {G : World → Prop} (hG : Lasts G) (k : Nat) : (S6 k).ok Try.prog G 6 := fn_ok (T_ok (fun _ _ => ⟨[], [], [], false⟩) k) hG (calls := [(19, S19 k), (20, S20 k), (21, S21 k), (22, S22 k), (23, S23 k)]) ⟨ok19 hG k, ok20 hG k, ok21 hG k, ok22 hG k, ok23 hG k, trivial⟩ 5 rfl (S6 k) (congrFun e6 k)

/-- loop.example/g01402/spec.l12Resp -/
def F45 (k : Nat) (a0 : D2) : Option (D2) :=
  (bif (decide (([] : List D0).length + a0.2.1.length < most)) then some (a0.1, (([] : List D0) ++ a0.2.1), a0.2.2) else none)
def S45 (k : Nat) : CSpec := { params := [U2], res := [(U2, true)], fresh := true, sem := fun x => F45 k x.1 }
theorem e45 : (fun k => evFn ((T (fun _ _ => ⟨[], [], [], false⟩) k).cx []) 5 Try.f45 (S45 0).params (S45 0).res true) = fun k => (S45 k).sem := by kernel_rfl
theorem ok45 {G : World → Prop} (hG : Lasts G) (k : Nat) : (S45 k).ok Try.prog G 45 := fn_ok (T_ok (fun _ _ => ⟨[], [], [], false⟩) k) hG (calls := []) trivial 5 rfl (S45 k) (congrFun e45 k)

/-- loop.example/g01402/spec.l15Told -/
def F18 (k : Nat) (a0 : List D4) : Option ((List D4)) :=
  (iter (σ := Int × List D4 × Unit) (fun rec5 x4 => (bif (decide (x4.1 < (a0.length : Int))) then (bif (decide (0 ≤ x4.1 ∧ x4.1 < (a0.length : Int))) then (bif (decide (0 ≤ x4.1 ∧ x4.1 < (a0.length : Int))) then ((F45 k (a0.getD x4.1.toNat Z4).2).bind fun r6 => (bif (decide (x4.2.1.length + ([((a0.getD x4.1.toNat Z4).1, r6)] : List D4).length < most)) then (rec5 ((wrap64 (x4.1 + (1 : Int))), (x4.2.1 ++ ([((a0.getD x4.1.toNat Z4).1, r6)] : List D4)), ())) else none)) else none) else none) else some x4.2.1)) k ((0 : Int), ([] : List D4), ()))
def S18 (k : Nat) : CSpec := { params := [(.slice U4)], res := [((.slice U4), true)], fresh := true, sem := fun x => F18 k x.1 }
theorem e18 : (fun k => evFn ((T (fun _ _ => ⟨[3, 4], [], [1], false⟩) k).cx [(45, S45 k)]) 5 Try.f18 (S18 0).params (S18 0).res true) = fun k => (S18 k).sem := by kernel_rfl
theorem ok18 {G : World → Prop} (hG : Lasts G) (k : Nat) : (S18 k).ok Try.prog G 18 := fn_ok (T_ok (fun _ _ => ⟨[3, 4], [], [1], false⟩) k) hG (calls := [(45, S45 k)]) ⟨ok45 hG k, trivial⟩ 5 rfl (S18 k) (congrFun e18 k)

/-- loop.example/g01402/spec.Answers -/
def F5 (k : Nat) (a0 : D14) : Option ((List D4)) :=
  (iter (σ := Int × List D4 × Unit) (fun rec5 x4 => (bif (decide (x4.1 < (a0.2.2.1.length : Int))) then (bif (decide (0 ≤ x4.1 ∧ x4.1 < (a0.2.2.1.length : Int))) then ((F18 k (a0.2.2.1.getD x4.1.toNat Z5).2.2.2.2.2.2.2.2.2.2.2.2.2).bind fun r6 => (bif (decide (x4.2.1.length + r6.length < most)) then (rec5 ((wrap64 (x4.1 + (1 : Int))), (x4.2.1 ++ r6), ())) else none)) else none) else some x4.2.1)) k ((0 : Int), ([] : List D4), ()))
def S5 (k : Nat) : CSpec := { params := [U14], res := [((.slice U4), true)], fresh := true, sem := fun x => F5 k x.1 }
theorem e5 : (fun k => evFn ((T (fun _ _ => ⟨[3, 4], [], [2], false⟩) k).cx [(18, S18 k)]) 5 Try.f5 (S5 0).params (S5 0).res true) = fun k => (S5 k).sem := by kernel_rfl
theorem ok5 {G : World → Prop} (hG : Lasts G) (k : Nat) : (S5 k).ok Try.prog G 5 := fn_ok (T_ok (fun _ _ => ⟨[3, 4], [], [2], false⟩) k) hG (calls := [(18, S18 k)]) ⟨ok18 hG k, trivial⟩ 5 rfl (S5 k) (congrFun e5 k)

/-- slices.Clone[[]loop.example/g01402/impl.Field,loop.example/g01402/impl.Field] -/
def S77 (k : Nat) : CSpec := { params := [.slice U0], res := [(.slice U0, true)], fresh := true, sem := fun x => semClone x.1 }
theorem ok77 {G : World → Prop} (hG : Lasts G) (k : Nat) : (S77 k).ok Try.prog G 77 := ok_Clone Try.lClone77 Try.func77 (by kernel_rfl) (by kernel_rfl) (by kernel_rfl)

/-- loop.example/g01402/impl.cloneResponse -/
def F52 (k : Nat) (a0 : D2) : Option (D2) :=
  ((semClone a0.2.1).bind fun r1 => some (a0.1, r1, a0.2.2))
def S52 (k : Nat) : CSpec := { params := [U2], res := [(U2, true)], fresh := true, sem := fun x => F52 k x.1 }
theorem e52 : (fun k => evFn ((T (fun _ _ => ⟨[], [], [], false⟩) k).cx [(77, S77 k)]) 5 Try.f52 (S52 0).params (S52 0).res true) = fun k => (S52 k).sem := by kernel_rfl
theorem ok52 {G : World → Prop} (hG : Lasts G) (k : Nat) : (S52 k).ok Try.prog G 52 := fn_ok (T_ok (fun _ _ => ⟨[], [], [], false⟩) k) hG (calls := [(77, S77 k)]) ⟨ok77 hG k, trivial⟩ 5 rfl (S52 k) (congrFun e52 k)

/-- loop.example/g01402/impl.cloneTold -/
def F24 (k : Nat) (a0 : List D4) : Option ((List D4)) :=
  (iter (σ := Int × List D4 × Unit) (fun rec5 x4 => (bif (decide (x4.1 < (a0.length : Int))) then (bif (decide (0 ≤ x4.1 ∧ x4.1 < (a0.length : Int))) then ((F52 k (a0.getD x4.1.toNat Z4).2).bind fun r6 => (bif (decide (x4.2.1.length + ([((a0.getD x4.1.toNat Z4).1, r6)] : List D4).length < most)) then (rec5 ((wrap64 (x4.1 + (1 : Int))), (x4.2.1 ++ ([((a0.getD x4.1.toNat Z4).1, r6)] : List D4)), ())) else none)) else none) else some x4.2.1)) k ((0 : Int), ([] : List D4), ()))
def S24 (k : Nat) : CSpec := { params := [(.slice U4)], res := [((.slice U4), true)], fresh := true, sem := fun x => F24 k x.1 }
theorem e24 : (fun k => evFn ((T (fun _ _ => ⟨[3, 8], [], [1], false⟩) k).cx [(52, S52 k)]) 5 Try.f24 (S24 0).params (S24 0).res true) = fun k => (S24 k).sem := by kernel_rfl
theorem ok24 {G : World → Prop} (hG : Lasts G) (k : Nat) : (S24 k).ok Try.prog G 24 := fn_ok (T_ok (fun _ _ => ⟨[3, 8], [], [1], false⟩) k) hG (calls := [(52, S52 k)]) ⟨ok52 hG k, trivial⟩ 5 rfl (S24 k) (congrFun e24 k)

/-- loop.example/g01402/impl.Answers -/
def F7 (k : Nat) (a0 : D14) : Option ((List D4)) :=
  (iter (σ := Int × List D4 × Unit) (fun rec5 x4 => (bif (decide (x4.1 < (a0.2.2.1.length : Int))) then (bif (decide (0 ≤ x4.1 ∧ x4.1 < (a0.2.2.1.length : Int))) then ((F24 k (a0.2.2.1.getD x4.1.toNat Z5).2.2.2.2.2.2.2.2.2.2.2.2.2).bind fun r6 => (bif (decide (x4.2.1.length + r6.length < most)) then (rec5 ((wrap64 (x4.1 + (1 : Int))), (x4.2.1 ++ r6), ())) else none)) else none) else some x4.2.1)) k ((0 : Int), ([] : List D4), ()))
def S7 (k : Nat) : CSpec := { params := [U14], res := [((.slice U4), true)], fresh := true, sem := fun x => F7 k x.1 }
theorem e7 : (fun k => evFn ((T (fun _ _ => ⟨[3, 10], [], [2], false⟩) k).cx [(24, S24 k)]) 5 Try.f7 (S7 0).params (S7 0).res true) = fun k => (S7 k).sem := by kernel_rfl
theorem ok7 {G : World → Prop} (hG : Lasts G) (k : Nat) : (S7 k).ok Try.prog G 7 := fn_ok (T_ok (fun _ _ => ⟨[3, 10], [], [2], false⟩) k) hG (calls := [(24, S24 k)]) ⟨ok24 hG k, trivial⟩ 5 rfl (S7 k) (congrFun e7 k)

/-- loop.example/g01402/laws.eqField -/
def F91 (k : Nat) (a0 : D0) (a1 : D0) : Option (Bool) :=
  (bif (!decide (a0.1 = a1.1)) then some false else (bif (!decide (a0.2 = a1.2)) then some false else some true))
def S91 (k : Nat) : CSpec := { params := [U0, U0], res := [(.bool, false)], fresh := true, sem := fun x => F91 k x.1 x.2.1 }
theorem e91 : (fun k => evFn ((T (fun _ _ => ⟨[], [], [], false⟩) k).cx []) 5 Try.f91 (S91 0).params (S91 0).res true) = fun k => (S91 k).sem := by kernel_rfl
theorem ok91 {G : World → Prop} (hG : Lasts G) (k : Nat) : (S91 k).ok Try.prog G 91 := fn_ok (T_ok (fun _ _ => ⟨[], [], [], false⟩) k) hG (calls := []) trivial 5 rfl (S91 k) (congrFun e91 k)

/-- loop.example/g01402/laws.eqFieldS -/
def F78 (k : Nat) (a0 : List D0) (a1 : List D0) : Option (Bool) :=
  (bif (!decide ((a0.length : Int) = (a1.length : Int))) then some false else (iter (σ := Int × Unit) (fun rec5 x4 => (bif (decide (x4.1 < (a0.length : Int))) then (bif (decide (0 ≤ x4.1 ∧ x4.1 < (a0.length : Int))) then (bif (decide (0 ≤ x4.1 ∧ x4.1 < (a1.length : Int))) then ((F91 k (a0.getD x4.1.toNat Z0) (a1.getD x4.1.toNat Z0)).bind fun r6 => (bif (!r6) then some false else (rec5 ((wrap64 (x4.1 + (1 : Int))), ())))) else none) else none) else some true)) k ((0 : Int), ())))
def S78 (k : Nat) : CSpec := { params := [(.slice U0), (.slice U0)], res := [(.bool, false)], fresh := true, sem := fun x => F78 k x.1 x.2.1 }
theorem e78 : (fun k => evFn ((T (fun _ _ => ⟨[5], [], [], false⟩) k).cx [(91, S91 k)]) 5 Try.f78 (S78 0).params (S78 0).res true) = fun k => (S78 k).sem := by kernel_rfl
theorem ok78 {G : World → Prop} (hG : Lasts G) (k : Nat) : (S78 k).ok Try.prog G 78 := fn_ok (T_ok (fun _ _ => ⟨[5], [], [], false⟩) k) hG (calls := [(91, S91 k)]) ⟨ok91 hG k, trivial⟩ 5 rfl (S78 k) (congrFun e78 k)

/-- loop.example/g01402/laws.eqResponse -/
def F53 (k : Nat) (a0 : D2) (a1 : D2) : Option (Bool) :=
  (bif (!decide (a0.1 = a1.1)) then some false else ((F78 k a0.2.1 a1.2.1).bind fun r1 => (bif (!r1) then some false else (bif (!decide (a0.2.2 = a1.2.2)) then some false else some true))))
def S53 (k : Nat) : CSpec := { params := [U2, U2], res := [(.bool, false)], fresh := true, sem := fun x => F53 k x.1 x.2.1 }
theorem e53 : (fun k => evFn ((T (fun _ _ => ⟨[], [], [], false⟩) k).cx [(78, S78 k)]) 5 Try.f53 (S53 0).params (S53 0).res true) = fun k => (S53 k).sem := by kernel_rfl
theorem ok53 {G : World → Prop} (hG : Lasts G) (k : Nat) : (S53 k).ok Try.prog G 53 := fn_ok (T_ok (fun _ _ => ⟨[], [], [], false⟩) k) hG (calls := [(78, S78 k)]) ⟨ok78 hG k, trivial⟩ 5 rfl (S53 k) (congrFun e53 k)

/-- loop.example/g01402/laws.eqTold -/
def F25 (k : Nat) (a0 : D4) (a1 : D4) : Option (Bool) :=
  (bif (!decide (a0.1 = a1.1)) then some false else ((F53 k a0.2 a1.2).bind fun r1 => (bif (!r1) then some false else some true)))
def S25 (k : Nat) : CSpec := { params := [U4, U4], res := [(.bool, false)], fresh := true, sem := fun x => F25 k x.1 x.2.1 }
theorem e25 : (fun k => evFn ((T (fun _ _ => ⟨[], [], [], false⟩) k).cx [(53, S53 k)]) 5 Try.f25 (S25 0).params (S25 0).res true) = fun k => (S25 k).sem := by kernel_rfl
theorem ok25 {G : World → Prop} (hG : Lasts G) (k : Nat) : (S25 k).ok Try.prog G 25 := fn_ok (T_ok (fun _ _ => ⟨[], [], [], false⟩) k) hG (calls := [(53, S53 k)]) ⟨ok53 hG k, trivial⟩ 5 rfl (S25 k) (congrFun e25 k)

/-- loop.example/g01402/laws.eqToldS -/
def F8 (k : Nat) (a0 : List D4) (a1 : List D4) : Option (Bool) :=
  (bif (!decide ((a0.length : Int) = (a1.length : Int))) then some false else (iter (σ := Int × Unit) (fun rec5 x4 => (bif (decide (x4.1 < (a0.length : Int))) then (bif (decide (0 ≤ x4.1 ∧ x4.1 < (a0.length : Int))) then (bif (decide (0 ≤ x4.1 ∧ x4.1 < (a1.length : Int))) then ((F25 k (a0.getD x4.1.toNat Z4) (a1.getD x4.1.toNat Z4)).bind fun r6 => (bif (!r6) then some false else (rec5 ((wrap64 (x4.1 + (1 : Int))), ())))) else none) else none) else some true)) k ((0 : Int), ())))
def S8 (k : Nat) : CSpec := { params := [(.slice U4), (.slice U4)], res := [(.bool, false)], fresh := true, sem := fun x => F8 k x.1 x.2.1 }
theorem e8 : (fun k => evFn ((T (fun _ _ => ⟨[5], [], [], false⟩) k).cx [(25, S25 k)]) 5 Try.f8 (S8 0).params (S8 0).res true) = fun k => (S8 k).sem := by kernel_rfl
theorem ok8 {G : World → Prop} (hG : Lasts G) (k : Nat) : (S8 k).ok Try.prog G 8 := fn_ok (T_ok (fun _ _ => ⟨[5], [], [], false⟩) k) hG (calls := [(25, S25 k)]) ⟨ok25 hG k, trivial⟩ 5 rfl (S8 k) (congrFun e8 k)

/-- loop.example/g01402/laws.eqRequest -/
def F79 (k : Nat) (a0 : D1) (a1 : D1) : Option (Bool) :=
  (bif (!decide (a0.1 = a1.1)) then some false else (bif (!decide (a0.2.1 = a1.2.1)) then some false else ((F78 k a0.2.2.1 a1.2.2.1).bind fun r1 => (bif (!r1) then some false else (bif (!decide (a0.2.2.2 = a1.2.2.2)) then some false else some true)))))
def S79 (k : Nat) : CSpec := { params := [U1, U1], res := [(.bool, false)], fresh := true, sem := fun x => F79 k x.1 x.2.1 }
theorem e79 : (fun k => evFn ((T (fun _ _ => ⟨[], [], [], false⟩) k).cx [(78, S78 k)]) 5 Try.f79 (S79 0).params (S79 0).res true) = fun k => (S79 k).sem := by kernel_rfl
theorem ok79 {G : World → Prop} (hG : Lasts G) (k : Nat) : (S79 k).ok Try.prog G 79 := fn_ok (T_ok (fun _ _ => ⟨[], [], [], false⟩) k) hG (calls := [(78, S78 k)]) ⟨ok78 hG k, trivial⟩ 5 rfl (S79 k) (congrFun e79 k)

/-- loop.example/g01402/laws.eqStored -/
def F80 (k : Nat) (a0 : D3) (a1 : D3) : Option (Bool) :=
  (bif (!decide (a0.1 = a1.1)) then some false else ((F78 k a0.2.1 a1.2.1).bind fun r1 => (bif (!r1) then some false else ((F53 k a0.2.2.1 a1.2.2.1).bind fun r2 => (bif (!r2) then some false else (bif (!decide (a0.2.2.2.1 = a1.2.2.2.1)) then some false else (bif (!decide (a0.2.2.2.2 = a1.2.2.2.2)) then some false else some true)))))))
def S80 (k : Nat) : CSpec := { params := [U3, U3], res := [(.bool, false)], fresh := true, sem := fun x => F80 k x.1 x.2.1 }
theorem e80 : (fun k => evFn ((T (fun _ _ => ⟨[], [], [], false⟩) k).cx [(53, S53 k), (78, S78 k)]) 5 Try.f80 (S80 0).params (S80 0).res true) = fun k => (S80 k).sem := by kernel_rfl
theorem ok80 {G : World → Prop} (hG : Lasts G) (k : Nat) : (S80 k).ok Try.prog G 80 := fn_ok (T_ok (fun _ _ => ⟨[], [], [], false⟩) k) hG (calls := [(53, S53 k), (78, S78 k)]) ⟨ok53 hG k, ok78 hG k, trivial⟩ 5 rfl (S80 k) (congrFun e80 k)

/-- loop.example/g01402/laws.eqConn -/
def F54 (k : Nat) (a0 : D5) (a1 : D5) : Option (Bool) :=
  (bif (!decide (a0.1 = a1.1)) then some false else (bif (!decide (a0.2.1 = a1.2.1)) then some false else (bif (!decide (a0.2.2.1 = a1.2.2.1)) then some false else ((F79 k a0.2.2.2.1 a1.2.2.2.1).bind fun r1 => (bif (!r1) then some false else ((F79 k a0.2.2.2.2.1 a1.2.2.2.2.1).bind fun r2 => (bif (!r2) then some false else ((F80 k a0.2.2.2.2.2.1 a1.2.2.2.2.2.1).bind fun r3 => (bif (!r3) then some false else (bif (!(a0.2.2.2.2.2.2.1 == a1.2.2.2.2.2.2.1)) then some false else (bif (!decide (a0.2.2.2.2.2.2.2.1 = a1.2.2.2.2.2.2.2.1)) then some false else (bif (!decide (a0.2.2.2.2.2.2.2.2.1 = a1.2.2.2.2.2.2.2.2.1)) then some false else (bif (!decide (a0.2.2.2.2.2.2.2.2.2.1 = a1.2.2.2.2.2.2.2.2.2.1)) then some false else (bif (!decide (a0.2.2.2.2.2.2.2.2.2.2.1 = a1.2.2.2.2.2.2.2.2.2.2.1)) then some false else (bif (!(a0.2.2.2.2.2.2.2.2.2.2.2.1 == a1.2.2.2.2.2.2.2.2.2.2.2.1)) then some false else ((F53 k a0.2.2.2.2.2.2.2.2.2.2.2.2.1 a1.2.2.2.2.2.2.2.2.2.2.2.2.1).bind fun r4 => (bif (!r4) then some false else ((F8 k a0.2.2.2.2.2.2.2.2.2.2.2.2.2 a1.2.2.2.2.2.2.2.2.2.2.2.2.2).bind fun r5 => (bif (!r5) then some false else some true)))))))))))))))))))
def S54 (k : Nat) : CSpec := { params := [U5, U5], res := [(.bool, false)], fresh := true, sem := fun x => F54 k x.1 x.2.1 }
theorem e54 : (fun k => evFn ((T (fun _ _ => ⟨[], [], [], false⟩) k).cx [(8, S8 k), (53, S53 k), (79, S79 k), (80, S80 k)]) 5 Try.f54 (S54 0).params (S54 0).res true) = fun k => (S54 k).sem := by kernel_rfl
theorem ok54 {G : World → Prop} (hG : Lasts G) (k : Nat) : (S54 k).ok Try.prog G 54 := fn_ok (T_ok (fun _ _ => ⟨[], [], [], false⟩) k) hG (calls := [(8, S8 k), (53, S53 k), (79, S79 k), (80, S80 k)]) ⟨ok8 hG k, ok53 hG k, ok79 hG k, ok80 hG k, trivial⟩ 5 rfl (S54 k) (congrFun e54 k)

/-- loop.example/g01402/laws.eqConnS -/
def F26 (k : Nat) (a0 : List D5) (a1 : List D5) : Option (Bool) :=
  (bif (!decide ((a0.length : Int) = (a1.length : Int))) then some false else (iter (σ := Int × Unit) (fun rec5 x4 => (bif (decide (x4.1 < (a0.length : Int))) then (bif (decide (0 ≤ x4.1 ∧ x4.1 < (a0.length : Int))) then (bif (decide (0 ≤ x4.1 ∧ x4.1 < (a1.length : Int))) then ((F54 k (a0.getD x4.1.toNat Z5) (a1.getD x4.1.toNat Z5)).bind fun r6 => (bif (!r6) then some false else (rec5 ((wrap64 (x4.1 + (1 : Int))), ())))) else none) else none) else some true)) k ((0 : Int), ())))
def S26 (k : Nat) : CSpec := { params := [(.slice U5), (.slice U5)], res := [(.bool, false)], fresh := true, sem := fun x => F26 k x.1 x.2.1 }
theorem e26 : (fun k => evFn ((T (fun _ _ => ⟨[5], [], [], false⟩) k).cx [(54, S54 k)]) 5 Try.f26 (S26 0).params (S26 0).res true) = fun k => (S26 k).sem := by kernel_rfl
theorem ok26 {G : World → Prop} (hG : Lasts G) (k : Nat) : (S26 k).ok Try.prog G 26 := fn_ok (T_ok (fun _ _ => ⟨[5], [], [], false⟩) k) hG (calls := [(54, S54 k)]) ⟨ok54 hG k, trivial⟩ 5 rfl (S26 k) (congrFun e26 k)

/-- loop.example/g01402/laws.eqSlot -/
def F97 (k : Nat) (a0 : D6) (a1 : D6) : Option (Bool) :=
  ((F80 k a0.1 a1.1).bind fun r1 => (bif (!r1) then some false else (bif (!(a0.2 == a1.2)) then some false else some true)))
def S97 (k : Nat) : CSpec := { params := [U6, U6], res := [(.bool, false)], fresh := true, sem := fun x => F97 k x.1 x.2.1 }
theorem e97 : (fun k => evFn ((T (fun _ _ => ⟨[], [], [], false⟩) k).cx [(80, S80 k)]) 5 Try.f97 (S97 0).params (S97 0).res true) = fun k => (S97 k).sem := by kernel_rfl
theorem ok97 {G : World → Prop} (hG : Lasts G) (k : Nat) : (S97 k).ok Try.prog G 97 := fn_ok (T_ok (fun _ _ => ⟨[], [], [], false⟩) k) hG (calls := [(80, S80 k)]) ⟨ok80 hG k, trivial⟩ 5 rfl (S97 k) (congrFun e97 k)

/-- loop.example/g01402/laws.eqSlotS -/
def F92 (k : Nat) (a0 : List D6) (a1 : List D6) : Option (Bool) :=
  (bif (!decide ((a0.length : Int) = (a1.length : Int))) then some false else (iter (σ := Int × Unit) (fun rec5 x4 => (bif (decide (x4.1 < (a0.length : Int))) then (bif (decide (0 ≤ x4.1 ∧ x4.1 < (a0.length : Int))) then (bif (decide (0 ≤ x4.1 ∧ x4.1 < (a1.length : Int))) then ((F97 k (a0.getD x4.1.toNat Z6) (a1.getD x4.1.toNat Z6)).bind fun r6 => (bif (!r6) then some false else (rec5 ((wrap64 (x4.1 + (1 : Int))), ())))) else none) else none) else some true)) k ((0 : Int), ())))
def S92 (k : Nat) : CSpec := { params := [(.slice U6), (.slice U6)], res := [(.bool, false)], fresh := true, sem := fun x => F92 k x.1 x.2.1 }
theorem e92 : (fun k => evFn ((T (fun _ _ => ⟨[5], [], [], false⟩) k).cx [(97, S97 k)]) 5 Try.f92 (S92 0).params (S92 0).res true) = fun k => (S92 k).sem := by kernel_rfl
theorem ok92 {G : World → Prop} (hG : Lasts G) (k : Nat) : (S92 k).ok Try.prog G 92 := fn_ok (T_ok (fun _ _ => ⟨[5], [], [], false⟩) k) hG (calls := [(97, S97 k)]) ⟨ok97 hG k, trivial⟩ 5 rfl (S92 k) (congrFun e92 k)

/-- loop.example/g01402/laws.eqShard -/
def F81 (k : Nat) (a0 : D7) (a1 : D7) : Option (Bool) :=
  (bif (!decide (a0.1 = a1.1)) then some false else (bif (!decide (a0.2.1 = a1.2.1)) then some false else ((F92 k a0.2.2.1 a1.2.2.1).bind fun r1 => (bif (!r1) then some false else (bif (!decide (a0.2.2.2 = a1.2.2.2)) then some false else some true)))))
def S81 (k : Nat) : CSpec := { params := [U7, U7], res := [(.bool, false)], fresh := true, sem := fun x => F81 k x.1 x.2.1 }
theorem e81 : (fun k => evFn ((T (fun _ _ => ⟨[], [], [], false⟩) k).cx [(92, S92 k)]) 5 Try.f81 (S81 0).params (S81 0).res true) = fun k => (S81 k).sem := by kernel_rfl
theorem ok81 {G : World → Prop} (hG : Lasts G) (k : Nat) : (S81 k).ok Try.prog G 81 := fn_ok (T_ok (fun _ _ => ⟨[], [], [], false⟩) k) hG (calls := [(92, S92 k)]) ⟨ok92 hG k, trivial⟩ 5 rfl (S81 k) (congrFun e81 k)

/-- loop.example/g01402/laws.eqShardS -/
def F55 (k : Nat) (a0 : List D7) (a1 : List D7) : Option (Bool) :=
  (bif (!decide ((a0.length : Int) = (a1.length : Int))) then some false else (iter (σ := Int × Unit) (fun rec5 x4 => (bif (decide (x4.1 < (a0.length : Int))) then (bif (decide (0 ≤ x4.1 ∧ x4.1 < (a0.length : Int))) then (bif (decide (0 ≤ x4.1 ∧ x4.1 < (a1.length : Int))) then ((F81 k (a0.getD x4.1.toNat Z7) (a1.getD x4.1.toNat Z7)).bind fun r6 => (bif (!r6) then some false else (rec5 ((wrap64 (x4.1 + (1 : Int))), ())))) else none) else none) else some true)) k ((0 : Int), ())))
def S55 (k : Nat) : CSpec := { params := [(.slice U7), (.slice U7)], res := [(.bool, false)], fresh := true, sem := fun x => F55 k x.1 x.2.1 }
theorem e55 : (fun k => evFn ((T (fun _ _ => ⟨[5], [], [], false⟩) k).cx [(81, S81 k)]) 5 Try.f55 (S55 0).params (S55 0).res true) = fun k => (S55 k).sem := by kernel_rfl
theorem ok55 {G : World → Prop} (hG : Lasts G) (k : Nat) : (S55 k).ok Try.prog G 55 := fn_ok (T_ok (fun _ _ => ⟨[5], [], [], false⟩) k) hG (calls := [(81, S81 k)]) ⟨ok81 hG k, trivial⟩ 5 rfl (S55 k) (congrFun e55 k)

/-- loop.example/g01402/laws.eqGenRow -/
def F82 (k : Nat) (a0 : D8) (a1 : D8) : Option (Bool) :=
  (bif (!decide (a0.1 = a1.1)) then some false else (bif (!decide (a0.2 = a1.2)) then some false else some true))
def S82 (k : Nat) : CSpec := { params := [U8, U8], res := [(.bool, false)], fresh := true, sem := fun x => F82 k x.1 x.2.1 }
theorem e82 : (fun k => evFn ((T (fun _ _ => ⟨[], [], [], false⟩) k).cx []) 5 Try.f82 (S82 0).params (S82 0).res true) = fun k => (S82 k).sem := by kernel_rfl
theorem ok82 {G : World → Prop} (hG : Lasts G) (k : Nat) : (S82 k).ok Try.prog G 82 := fn_ok (T_ok (fun _ _ => ⟨[], [], [], false⟩) k) hG (calls := []) trivial 5 rfl (S82 k) (congrFun e82 k)

/-- loop.example/g01402/laws.eqGenRowS -/
def F56 (k : Nat) (a0 : List D8) (a1 : List D8) : Option (Bool) :=
  (bif (!decide ((a0.length : Int) = (a1.length : Int))) then some false else (iter (σ := Int × Unit) (fun rec5 x4 => (bif (decide (x4.1 < (a0.length : Int))) then (bif (decide (0 ≤ x4.1 ∧ x4.1 < (a0.length : Int))) then (bif (decide (0 ≤ x4.1 ∧ x4.1 < (a1.length : Int))) then ((F82 k (a0.getD x4.1.toNat Z8) (a1.getD x4.1.toNat Z8)).bind fun r6 => (bif (!r6) then some false else (rec5 ((wrap64 (x4.1 + (1 : Int))), ())))) else none) else none) else some true)) k ((0 : Int), ())))
def S56 (k : Nat) : CSpec := { params := [(.slice U8), (.slice U8)], res := [(.bool, false)], fresh := true, sem := fun x => F56 k x.1 x.2.1 }
theorem e56 : (fun k => evFn ((T (fun _ _ => ⟨[5], [], [], false⟩) k).cx [(82, S82 k)]) 5 Try.f56 (S56 0).params (S56 0).res true) = fun k => (S56 k).sem := by kernel_rfl
theorem ok56 {G : World → Prop} (hG : Lasts G) (k : Nat) : (S56 k).ok Try.prog G 56 := fn_ok (T_ok (fun _ _ => ⟨[5], [], [], false⟩) k) hG (calls := [(82, S82 k)]) ⟨ok82 hG k, trivial⟩ 5 rfl (S56 k) (congrFun e56 k)

/-- loop.example/g01402/laws.eqCache -/
def F27 (k : Nat) (a0 : D9) (a1 : D9) : Option (Bool) :=
  ((F55 k a0.1 a1.1).bind fun r1 => (bif (!r1) then some false else ((F56 k a0.2 a1.2).bind fun r2 => (bif (!r2) then some false else some true))))
def S27 (k : Nat) : CSpec := { params := [U9, U9], res := [(.bool, false)], fresh := true, sem := fun x => F27 k x.1 x.2.1 }
theorem e27 : (fun k => evFn ((T (fun _ _ => ⟨[], [], [], false⟩) k).cx [(55, S55 k), (56, S56 k)]) 5 Try.f27 (S27 0).params (S27 0).res true) = fun k => (S27 k).sem := by kernel_rfl
theorem ok27 {G : World → Prop} (hG : Lasts G) (k : Nat) : (S27 k).ok Try.prog G 27 := fn_ok (T_ok (fun _ _ => ⟨[], [], [], false⟩) k) hG (calls := [(55, S55 k), (56, S56 k)]) ⟨ok55 hG k, ok56 hG k, trivial⟩ 5 rfl (S27 k) (congrFun e27 k)

/-- loop.example/g01402/laws.eqFlight -/
def F57 (k : Nat) (a0 : D10) (a1 : D10) : Option (Bool) :=
  (bif (!decide (a0.1 = a1.1)) then some false else (bif (!(a0.2.1 == a1.2.1)) then some false else (bif (!decide (a0.2.2.1 = a1.2.2.1)) then some false else (bif (!(a0.2.2.2.1 == a1.2.2.2.1)) then some false else (bif (!(a0.2.2.2.2.1 == a1.2.2.2.2.1)) then some false else ((F79 k a0.2.2.2.2.2.1 a1.2.2.2.2.2.1).bind fun r1 => (bif (!r1) then some false else ((F53 k a0.2.2.2.2.2.2.1 a1.2.2.2.2.2.2.1).bind fun r2 => (bif (!r2) then some false else (bif (!decide (a0.2.2.2.2.2.2.2.1 = a1.2.2.2.2.2.2.2.1)) then some false else (bif (!decide (a0.2.2.2.2.2.2.2.2 = a1.2.2.2.2.2.2.2.2)) then some false else some true)))))))))))
def S57 (k : Nat) : CSpec := { params := [U10, U10], res := [(.bool, false)], fresh := true, sem := fun x => F57 k x.1 x.2.1 }
theorem e57 : (fun k => evFn ((T (fun _ _ => ⟨[], [], [], false⟩) k).cx [(53, S53 k), (79, S79 k)]) 5 Try.f57 (S57 0).params (S57 0).res true) = fun k => (S57 k).sem := by kernel_rfl
theorem ok57 {G : World → Prop} (hG : Lasts G) (k : Nat) : (S57 k).ok Try.prog G 57 := fn_ok (T_ok (fun _ _ => ⟨[], [], [], false⟩) k) hG (calls := [(53, S53 k), (79, S79 k)]) ⟨ok53 hG k, ok79 hG k, trivial⟩ 5 rfl (S57 k) (congrFun e57 k)

/-- loop.example/g01402/laws.eqFlightS -/
def F28 (k : Nat) (a0 : List D10) (a1 : List D10) : Option (Bool) :=
  (bif (!decide ((a0.length : Int) = (a1.length : Int))) then some false else (iter (σ := Int × Unit) (fun rec5 x4 => (bif (decide (x4.1 < (a0.length : Int))) then (bif (decide (0 ≤ x4.1 ∧ x4.1 < (a0.length : Int))) then (bif (decide (0 ≤ x4.1 ∧ x4.1 < (a1.length : Int))) then ((F57 k (a0.getD x4.1.toNat Z10) (a1.getD x4.1.toNat Z10)).bind fun r6 => (bif (!r6) then some false else (rec5 ((wrap64 (x4.1 + (1 : Int))), ())))) else none) else none) else some true)) k ((0 : Int), ())))
def S28 (k : Nat) : CSpec := { params := [(.slice U10), (.slice U10)], res := [(.bool, false)], fresh := true, sem := fun x => F28 k x.1 x.2.1 }
theorem e28 : (fun k => evFn ((T (fun _ _ => ⟨[5], [], [], false⟩) k).cx [(57, S57 k)]) 5 Try.f28 (S28 0).params (S28 0).res true) = fun k => (S28 k).sem := by kernel_rfl
theorem ok28 {G : World → Prop} (hG : Lasts G) (k : Nat) : (S28 k).ok Try.prog G 28 := fn_ok (T_ok (fun _ _ => ⟨[5], [], [], false⟩) k) hG (calls := [(57, S57 k)]) ⟨ok57 hG k, trivial⟩ 5 rfl (S28 k) (congrFun e28 k)

/-- loop.example/g01402/laws.eqRes -/
def F83 (k : Nat) (a0 : D11) (a1 : D11) : Option (Bool) :=
  (bif (!decide (a0.1 = a1.1)) then some false else (bif (!decide (a0.2.1 = a1.2.1)) then some false else (bif (!decide (a0.2.2.1 = a1.2.2.1)) then some false else (bif (!decide (a0.2.2.2.1 = a1.2.2.2.1)) then some false else (bif (!(a0.2.2.2.2.1 == a1.2.2.2.2.1)) then some false else (bif (!(a0.2.2.2.2.2.1 == a1.2.2.2.2.2.1)) then some false else ((F78 k a0.2.2.2.2.2.2 a1.2.2.2.2.2.2).bind fun r1 => (bif (!r1) then some false else some true))))))))
def S83 (k : Nat) : CSpec := { params := [U11, U11], res := [(.bool, false)], fresh := true, sem := fun x => F83 k x.1 x.2.1 }
theorem e83 : (fun k => evFn ((T (fun _ _ => ⟨[], [], [], false⟩) k).cx [(78, S78 k)]) 5 Try.f83 (S83 0).params (S83 0).res true) = fun k => (S83 k).sem := by kernel_rfl
theorem ok83 {G : World → Prop} (hG : Lasts G) (k : Nat) : (S83 k).ok Try.prog G 83 := fn_ok (T_ok (fun _ _ => ⟨[], [], [], false⟩) k) hG (calls := [(78, S78 k)]) ⟨ok78 hG k, trivial⟩ 5 rfl (S83 k) (congrFun e83 k)

/-- loop.example/g01402/laws.eqResS -/
def F58 (k : Nat) (a0 : List D11) (a1 : List D11) : Option (Bool) :=
  (bif (!decide ((a0.length : Int) = (a1.length : Int))) then some false else (iter (σ := Int × Unit) (fun rec5 x4 => (bif (decide (x4.1 < (a0.length : Int))) then (bif (decide (0 ≤ x4.1 ∧ x4.1 < (a0.length : Int))) then (bif (decide (0 ≤ x4.1 ∧ x4.1 < (a1.length : Int))) then ((F83 k (a0.getD x4.1.toNat Z11) (a1.getD x4.1.toNat Z11)).bind fun r6 => (bif (!r6) then some false else (rec5 ((wrap64 (x4.1 + (1 : Int))), ())))) else none) else none) else some true)) k ((0 : Int), ())))
def S58 (k : Nat) : CSpec := { params := [(.slice U11), (.slice U11)], res := [(.bool, false)], fresh := true, sem := fun x => F58 k x.1 x.2.1 }
theorem e58 : (fun k => evFn ((T (fun _ _ => ⟨[5], [], [], false⟩) k).cx [(83, S83 k)]) 5 Try.f58 (S58 0).params (S58 0).res true) = fun k => (S58 k).sem := by kernel_rfl
theorem ok58 {G : World → Prop} (hG : Lasts G) (k : Nat) : (S58 k).ok Try.prog G 58 := fn_ok (T_ok (fun _ _ => ⟨[5], [], [], false⟩) k) hG (calls := [(83, S83 k)]) ⟨ok83 hG k, trivial⟩ 5 rfl (S58 k) (congrFun e58 k)

/-- loop.example/g01402/laws.eqOrigin -/
def F29 (k : Nat) (a0 : D12) (a1 : D12) : Option (Bool) :=
  ((F58 k a0 a1).bind fun r1 => (bif (!r1) then some false else some true))
def S29 (k : Nat) : CSpec := { params := [U12, U12], res := [(.bool, false)], fresh := true, sem := fun x => F29 k x.1 x.2.1 }
theorem e29 : (fun k => evFn ((T (fun _ _ => ⟨[], [], [], false⟩) k).cx [(58, S58 k)]) 5 Try.f29 (S29 0).params (S29 0).res true) = fun k => (S29 k).sem := by kernel_rfl
theorem ok29 {G : World → Prop} (hG : Lasts G) (k : Nat) : (S29 k).ok Try.prog G 29 := fn_ok (T_ok (fun _ _ => ⟨[], [], [], false⟩) k) hG (calls := [(58, S58 k)]) ⟨ok58 hG k, trivial⟩ 5 rfl (S29 k) (congrFun e29 k)

/-- loop.example/g01402/laws.eqEvent -/
def F59 (k : Nat) (a0 : D13) (a1 : D13) : Option (Bool) :=
  (bif (!decide (a0.1 = a1.1)) then some false else (bif (!decide (a0.2.1 = a1.2.1)) then some false else (bif (!decide (a0.2.2.1 = a1.2.2.1)) then some false else (bif (!decide (a0.2.2.2.1 = a1.2.2.2.1)) then some false else (bif (!decide (a0.2.2.2.2.1 = a1.2.2.2.2.1)) then some false else (bif (!decide (a0.2.2.2.2.2 = a1.2.2.2.2.2)) then some false else some true))))))
def S59 (k : Nat) : CSpec := { params := [U13, U13], res := [(.bool, false)], fresh := true, sem := fun x => F59 k x.1 x.2.1 }
theorem e59 : (fun k => evFn ((T (fun _ _ => ⟨[], [], [], false⟩) k).cx []) 5 Try.f59 (S59 0).params (S59 0).res true) = fun k => (S59 k).sem := by kernel_rfl
theorem ok59 {G : World → Prop} (hG : Lasts G) (k : Nat) : (S59 k).ok Try.prog G 59 := fn_ok (T_ok (fun _ _ => ⟨[], [], [], false⟩) k) hG (calls := []) trivial 5 rfl (S59 k) (congrFun e59 k)

/-- loop.example/g01402/laws.eqEventS -/
def F30 (k : Nat) (a0 : List D13) (a1 : List D13) : Option (Bool) :=
  (bif (!decide ((a0.length : Int) = (a1.length : Int))) then some false else (iter (σ := Int × Unit) (fun rec5 x4 => (bif (decide (x4.1 < (a0.length : Int))) then (bif (decide (0 ≤ x4.1 ∧ x4.1 < (a0.length : Int))) then (bif (decide (0 ≤ x4.1 ∧ x4.1 < (a1.length : Int))) then ((F59 k (a0.getD x4.1.toNat Z13) (a1.getD x4.1.toNat Z13)).bind fun r6 => (bif (!r6) then some false else (rec5 ((wrap64 (x4.1 + (1 : Int))), ())))) else none) else none) else some true)) k ((0 : Int), ())))
def S30 (k : Nat) : CSpec := { params := [(.slice U13), (.slice U13)], res := [(.bool, false)], fresh := true, sem := fun x => F30 k x.1 x.2.1 }
theorem e30 : (fun k => evFn ((T (fun _ _ => ⟨[5], [], [], false⟩) k).cx [(59, S59 k)]) 5 Try.f30 (S30 0).params (S30 0).res true) = fun k => (S30 k).sem := by kernel_rfl
theorem ok30 {G : World → Prop} (hG : Lasts G) (k : Nat) : (S30 k).ok Try.prog G 30 := fn_ok (T_ok (fun _ _ => ⟨[5], [], [], false⟩) k) hG (calls := [(59, S59 k)]) ⟨ok59 hG k, trivial⟩ 5 rfl (S30 k) (congrFun e30 k)

/-- loop.example/g01402/laws.eqWorld -/
def F9 (k : Nat) (a0 : D14) (a1 : D14) : Option (Bool) :=
  (bif (!decide (a0.1 = a1.1)) then some false else (bif (!decide (a0.2.1 = a1.2.1)) then some false else ((F26 k a0.2.2.1 a1.2.2.1).bind fun r1 => (bif (!r1) then some false else ((F27 k a0.2.2.2.1 a1.2.2.2.1).bind fun r2 => (bif (!r2) then some false else ((F28 k a0.2.2.2.2.1 a1.2.2.2.2.1).bind fun r3 => (bif (!r3) then some false else ((F29 k a0.2.2.2.2.2.1 a1.2.2.2.2.2.1).bind fun r4 => (bif (!r4) then some false else ((F30 k a0.2.2.2.2.2.2 a1.2.2.2.2.2.2).bind fun r5 => (bif (!r5) then some false else some true))))))))))))
def S9 (k : Nat) : CSpec := { params := [U14, U14], res := [(.bool, false)], fresh := true, sem := fun x => F9 k x.1 x.2.1 }
theorem e9 : (fun k => evFn ((T (fun _ _ => ⟨[], [], [], false⟩) k).cx [(26, S26 k), (27, S27 k), (28, S28 k), (29, S29 k), (30, S30 k)]) 5 Try.f9 (S9 0).params (S9 0).res true) = fun k => (S9 k).sem := by kernel_rfl
theorem ok9 {G : World → Prop} (hG : Lasts G) (k : Nat) : (S9 k).ok Try.prog G 9 := fn_ok (T_ok (fun _ _ => ⟨[], [], [], false⟩) k) hG (calls := [(26, S26 k), (27, S27 k), (28, S28 k), (29, S29 k), (30, S30 k)]) ⟨ok26 hG k, ok27 hG k, ok28 hG k, ok29 hG k, ok30 hG k, trivial⟩ 5 rfl (S9 k) (congrFun e9 k)

/-- loop.example/g01402/laws.markText -/
def F37 (k : Nat) (a0 : Int) : Option (ByteArray) :=
  (bif (decide (a0 ≤ (0 : Int))) then some (ByteArray.mk #[109, 48]) else (iter (σ := Int × ByteArray × Unit) (fun rec4 x3 => (bif (decide ((0 : Int) < x3.1)) then (bif (decide ((10 : Int) = 0)) then none else (bif (decide ((strOf ([(wr .u8 ((wrap64 ((48 : Int) + (x3.1.tmod (10 : Int))))))] : List Int)).size + x3.2.1.size < mostText)) then (bif (decide ((10 : Int) = 0)) then none else (rec4 ((wrap64 (x3.1.tdiv (10 : Int))), ((strOf ([(wr .u8 ((wrap64 ((48 : Int) + (x3.1.tmod (10 : Int))))))] : List Int)) ++ x3.2.1), ()))) else none)) else (bif (decide ((ByteArray.mk #[109]).size + x3.2.1.size < mostText)) then some ((ByteArray.mk #[109]) ++ x3.2.1) else none))) k (a0, (ByteArray.mk #[]), ())))
def S37 (k : Nat) : CSpec := { params := [(.int .i64)], res := [(.str, false)], fresh := true, sem := fun x => F37 k x.1 }
theorem e37 : (fun k => evFn ((T (fun _ _ => ⟨[0, 3], [], [], false⟩) k).cx []) 5 Try.f37 (S37 0).params (S37 0).res true) = fun k => (S37 k).sem := by kernel_rfl
theorem ok37 {G : World → Prop} (hG : Lasts G) (k : Nat) : (S37 k).ok Try.prog G 37 := fn_ok (T_ok (fun _ _ => ⟨[0, 3], [], [], false⟩) k) hG (calls := []) trivial 5 rfl (S37 k) (congrFun e37 k)

/-- loop.example/g01402/laws.heldFieldS -/
def F38 (k : Nat) (a0 : List D0) (a1 : Int) : Option (Int) :=
  (iter (σ := Int × Int × Unit) (fun rec6 x5 => (bif (decide (x5.2.1 < (a0.length : Int))) then (bif (decide (0 ≤ x5.2.1 ∧ x5.2.1 < (a0.length : Int))) then ((F37 k x5.1).bind fun r7 => (bif (!decide ((a0.getD x5.2.1.toNat Z0).1 = r7)) then some (-1 : Int) else (bif (decide (0 ≤ x5.2.1 ∧ x5.2.1 < (a0.length : Int))) then ((F37 k (wrap64 (x5.1 + (1 : Int)))).bind fun r8 => (bif (!decide ((a0.getD x5.2.1.toNat Z0).2 = r8)) then some (-1 : Int) else (rec6 ((wrap64 ((wrap64 (x5.1 + (1 : Int))) + (1 : Int))), (wrap64 (x5.2.1 + (1 : Int))), ())))) else none))) else none) else some x5.1)) k (a1, (0 : Int), ()))
def S38 (k : Nat) : CSpec := { params := [(.slice U0), (.int .i64)], res := [((.int .i64), false)], fresh := true, sem := fun x => F38 k x.1 x.2.1 }
theorem e38 : (fun k => evFn ((T (fun _ _ => ⟨[1, 5], [], [], false⟩) k).cx [(37, S37 k)]) 5 Try.f38 (S38 0).params (S38 0).res true) = fun k => (S38 k).sem := by kernel_rfl
theorem ok38 {G : World → Prop} (hG : Lasts G) (k : Nat) : (S38 k).ok Try.prog G 38 := fn_ok (T_ok (fun _ _ => ⟨[1, 5], [], [], false⟩) k) hG (calls := [(37, S37 k)]) ⟨ok37 hG k, trivial⟩ 5 rfl (S38 k) (congrFun e38 k)

/-- loop.example/g01402/laws.heldToldS -/
def F12 (k : Nat) (a0 : List D4) (a1 : Int) : Option (Int) :=
  (iter (σ := Int × Int × Unit) (fun rec6 x5 => (bif (decide (x5.2.1 < (a0.length : Int))) then (bif (decide (0 ≤ x5.2.1 ∧ x5.2.1 < (a0.length : Int))) then (bif (!decide ((a0.getD x5.2.1.toNat Z4).1 = x5.1)) then some (-1 : Int) else (bif (decide (0 ≤ x5.2.1 ∧ x5.2.1 < (a0.length : Int))) then (bif (!decide ((a0.getD x5.2.1.toNat Z4).2.1 = (wrap64 (x5.1 + (1 : Int))))) then some (-1 : Int) else (bif (decide (0 ≤ x5.2.1 ∧ x5.2.1 < (a0.length : Int))) then ((F38 k (a0.getD x5.2.1.toNat Z4).2.2.1 (wrap64 ((wrap64 (x5.1 + (1 : Int))) + (1 : Int)))).bind fun r7 => (bif (decide (r7 < (0 : Int))) then some (-1 : Int) else (bif (decide (0 ≤ x5.2.1 ∧ x5.2.1 < (a0.length : Int))) then ((F37 k r7).bind fun r8 => (bif (!decide ((a0.getD x5.2.1.toNat Z4).2.2.2 = r8)) then some (-1 : Int) else (rec6 ((wrap64 (r7 + (1 : Int))), (wrap64 (x5.2.1 + (1 : Int))), ())))) else none))) else none)) else none)) else none) else some x5.1)) k (a1, (0 : Int), ()))
def S12 (k : Nat) : CSpec := { params := [(.slice U4), (.int .i64)], res := [((.int .i64), false)], fresh := true, sem := fun x => F12 k x.1 x.2.1 }
theorem e12 : (fun k => evFn ((T (fun _ _ => ⟨[1, 5], [], [], false⟩) k).cx [(37, S37 k), (38, S38 k)]) 5 Try.f12 (S12 0).params (S12 0).res true) = fun k => (S12 k).sem := by kernel_rfl
theorem ok12 {G : World → Prop} (hG : Lasts G) (k : Nat) : (S12 k).ok Try.prog G 12 := fn_ok (T_ok (fun _ _ => ⟨[1, 5], [], [], false⟩) k) hG (calls := [(37, S37 k), (38, S38 k)]) ⟨ok37 hG k, ok38 hG k, trivial⟩ 5 rfl (S12 k) (congrFun e12 k)
end Go.Proofs.Yteliolfafmmhlaa.Fns
