/- The functions of this part of the program, each by its functional form. -/
import Derived.Test.YtigbabjhcihmaaaGreatDoorEv6
import Derived.Test.YtigbabjhcihmaaaGreatDoorProg
import Derived.Test.YtigbabjhcihmaaaGreatDoorEvLb
import Derived.Test.YtigbabjhcihmaaaGreatDoorEvLc
import Derived.Test.YtigbabjhcihmaaaGreatDoorEvLp
import Derived.Test.YtigbabjhcihmaaaGreatDoorEvGe
import Derived.Test.YtigbabjhcihmaaaGreatDoorEvLm
import Derived.Test.YtigbabjhcihmaaaGreatDoorEvCl
import Derived.Test.YtigbabjhcihmaaaGreatDoorShelf
import Derived.Test.YtigbabjhcihmaaaGreatDoorTok
namespace Go.Proofs.YtigbabjhcihmaaaGreatDoor.Fns
open Go Go.RowKit Go.Proofs Go.Proofs.YtigbabjhcihmaaaGreatDoor.Ev
set_option maxRecDepth 1000000
set_option linter.unusedVariables false
abbrev U0 : Ty := .struct (.pair .str .str)
abbrev D0 := ByteArray × ByteArray
def Z0 : D0 := Ty.zero U0
abbrev U1 : Ty := .struct (.pair .str (.pair .str (.pair (.int .i64) (.pair (.int .i64) (.pair .bool (.pair .bool (.slice U0)))))))
abbrev D1 := ByteArray × ByteArray × Int × Int × Bool × Bool × (List D0)
def Z1 : D1 := Ty.zero U1
abbrev U2 : Ty := .struct (.slice U1)
abbrev D2 := (List D1)
def Z2 : D2 := Ty.zero U2
abbrev U3 : Ty := .struct (.pair (.int .i64) (.pair (.int .i64) .str))
abbrev D3 := Int × Int × ByteArray
def Z3 : D3 := Ty.zero U3
abbrev U4 : Ty := .struct (.pair (.slice .str) (.pair (.int .i64) (.pair (.int .i64) (.pair (.int .i64) (.pair U2 (.slice U3))))))
abbrev D4 := (List ByteArray) × Int × Int × Int × D2 × (List D3)
def Z4 : D4 := Ty.zero U4
abbrev U5 : Ty := .struct (.pair (.int .i64) (.pair (.slice U0) .str))
abbrev D5 := Int × (List D0) × ByteArray
def Z5 : D5 := Ty.zero U5
abbrev U6 : Ty := .struct (.pair .str (.pair (.slice U0) (.pair U5 (.pair (.int .i64) (.int .i64)))))
abbrev D6 := ByteArray × (List D0) × D5 × Int × Int
def Z6 : D6 := Ty.zero U6
abbrev U7 : Ty := .struct (.pair U6 .bool)
abbrev D7 := D6 × Bool
def Z7 : D7 := Ty.zero U7
abbrev U8 : Ty := .struct (.pair (.int .i64) (.pair (.int .i64) (.pair (.slice U7) (.int .i64))))
abbrev D8 := Int × Int × (List D7) × Int
def Z8 : D8 := Ty.zero U8
abbrev U9 : Ty := .struct (.pair .str (.int .i64))
abbrev D9 := ByteArray × Int
def Z9 : D9 := Ty.zero U9
abbrev U10 : Ty := .struct (.pair (.slice U8) (.slice U9))
abbrev D10 := (List D8) × (List D9)
def Z10 : D10 := Ty.zero U10
abbrev U11 : Ty := .struct (.pair .str (.pair .str (.pair (.slice U0) .str)))
abbrev D11 := ByteArray × ByteArray × (List D0) × ByteArray
def Z11 : D11 := Ty.zero U11
abbrev U12 : Ty := .struct (.pair (.int .i64) U5)
abbrev D12 := Int × D5
def Z12 : D12 := Ty.zero U12
abbrev U13 : Ty := .struct (.pair (.int .i64) (.pair .str (.pair (.int .i64) (.pair U11 (.pair U11 (.pair U6 (.pair .bool (.pair (.int .i64) (.pair (.int .i64) (.pair (.int .i64) (.pair (.int .i64) (.pair .bool (.pair U5 (.slice U12))))))))))))))
abbrev D13 := Int × ByteArray × Int × D11 × D11 × D6 × Bool × Int × Int × Int × Int × Bool × D5 × (List D12)
def Z13 : D13 := Ty.zero U13
abbrev U14 : Ty := .struct (.pair .str (.pair .bool (.pair (.int .i64) (.pair .bool (.pair .bool (.pair U11 (.pair U5 (.pair (.int .i64) (.int .i64)))))))))
abbrev D14 := ByteArray × Bool × Int × Bool × Bool × D11 × D5 × Int × Int
def Z14 : D14 := Ty.zero U14
abbrev U15 : Ty := .struct (.pair (.int .i64) (.pair (.int .i64) (.pair (.int .i64) (.pair .str (.pair (.int .i64) (.int .i64))))))
abbrev D15 := Int × Int × Int × ByteArray × Int × Int
def Z15 : D15 := Ty.zero U15
abbrev U16 : Ty := .struct (.pair (.int .i64) (.pair (.int .i64) (.pair (.slice U13) (.pair U10 (.pair (.slice U14) (.pair U2 (.slice U15)))))))
abbrev D16 := Int × Int × (List D13) × D10 × (List D14) × D2 × (List D15)
def Z16 : D16 := Ty.zero U16
def kp (l : List ((List Nat × Nat) × Keep)) : List Nat → Nat → Keep := fun p r => match l with | [] => ⟨[], [], [], false⟩ | e :: l => bif p == e.1.1 && Nat.beq r e.1.2 then e.2 else kp l p r
noncomputable def T (keep : List Nat → Nat → Keep) (k : Nat) : Tabs where
  ty := [(3, (.int .i64)), (4, .bool), (5, (.int .u8)), (9, .str), (29, (.slice U8)), (30, (.slice U9)), (32, U10), (42, (.slice U0)), (44, U5), (46, U6), (52, (.slice .str)), (53, (.slice U1)), (55, U2), (56, (.slice U3)), (58, U4), (60, (.slice U13)), (61, (.slice U14)), (62, (.slice U1)), (64, U2), (65, (.slice U15)), (67, U16), (69, (.slice U3)), (71, U4), (83, (.slice U0)), (94, U11), (115, U0), (146, (.slice U7)), (148, U8), (152, U9), (186, (.slice (.int .u8))), (207, U3), (212, (.slice U12)), (214, U13), (217, U3), (224, U14), (228, U15), (233, U7), (251, (.int .u64)), (269, U1), (271, U1), (278, U12), (287, U0)]
  cmp := [115]
  body := [(13, Tryz.f13), (17, Tryz.f17), (20, Tryz.f20), (23, Tryz.f23), (24, Tryz.f24), (25, Tryz.f25), (26, Tryz.f26), (27, Tryz.f27), (28, Tryz.f28), (31, Tryz.f31), (37, Tryz.f37), (44, Tryz.f44), (48, Tryz.f48), (49, Tryz.f49), (53, Tryz.f53), (55, Tryz.f55), (56, Tryz.f56), (65, Tryz.f65), (66, Tryz.f66), (68, Tryz.f68), (70, Tryz.f70), (71, Tryz.f71), (72, Tryz.f72), (73, Tryz.f73), (74, Tryz.f74), (75, Tryz.f75), (76, Tryz.f76), (77, Tryz.f77), (78, Tryz.f78), (79, Tryz.f79), (80, Tryz.f80), (81, Tryz.f81), (82, Tryz.f82), (83, Tryz.f83), (84, Tryz.f84), (85, Tryz.f85), (92, Tryz.f92), (93, Tryz.f93), (94, Tryz.f94), (95, Tryz.f95), (104, Tryz.f104), (105, Tryz.f105), (106, Tryz.f106), (109, Tryz.f109), (112, Tryz.f112), (120, Tryz.f120), (121, Tryz.f121), (122, Tryz.f122), (125, Tryz.f125), (128, Tryz.f128), (134, Tryz.f134), (135, Tryz.f135), (136, Tryz.f136), (138, Tryz.f138), (146, Tryz.f146), (156, Tryz.f156), (157, Tryz.f157), (163, Tryz.f163), (164, Tryz.f164), (165, Tryz.f165), (166, Tryz.f166), (167, Tryz.f167), (168, Tryz.f168), (169, Tryz.f169), (170, Tryz.f170), (171, Tryz.f171), (172, Tryz.f172), (173, Tryz.f173), (174, Tryz.f174), (175, Tryz.f175), (176, Tryz.f176), (177, Tryz.f177), (178, Tryz.f178), (179, Tryz.f179), (180, Tryz.f180), (181, Tryz.f181), (182, Tryz.f182), (183, Tryz.f183), (184, Tryz.f184), (187, Tryz.f187), (188, Tryz.f188), (192, Tryz.f192), (194, Tryz.f194), (195, Tryz.f195), (196, Tryz.f196), (198, Tryz.f198), (200, Tryz.f200), (203, Tryz.f203), (205, Tryz.f205), (206, Tryz.f206), (207, Tryz.f207), (208, Tryz.f208), (209, Tryz.f209), (213, Tryz.f213), (214, Tryz.f214), (220, Tryz.f220), (222, Tryz.f222), (224, Tryz.f224), (225, Tryz.f225), (226, Tryz.f226), (227, Tryz.f227), (228, Tryz.f228), (241, Tryz.f241), (242, Tryz.f242), (243, Tryz.f243), (249, Tryz.f249), (250, Tryz.f250), (253, Tryz.f253), (254, Tryz.f254), (259, Tryz.f259), (260, Tryz.f260), (261, Tryz.f261), (264, Tryz.f264), (265, Tryz.f265), (266, Tryz.f266), (267, Tryz.f267), (268, Tryz.f268), (273, Tryz.f273), (274, Tryz.f274), (275, Tryz.f275), (276, Tryz.f276), (284, Tryz.f284), (285, Tryz.f285), (291, Tryz.f291), (292, Tryz.f292), (297, Tryz.f297), (302, Tryz.f302), (314, Tryz.f314), (315, Tryz.f315), (322, Tryz.f322), (323, Tryz.f323), (324, Tryz.f324), (325, Tryz.f325), (340, Tryz.f340)]
  keep := keep
  k := k
theorem T_ok (keep : List Nat → Nat → Keep) (k : Nat) : (T keep k).ok Tryz.prog where
  ty := by kernel_rfl
  cmp := by kernel_rfl
  body := ⟨⟨Tryz.func13, by kernel_rfl, by kernel_rfl⟩, ⟨Tryz.func17, by kernel_rfl, by kernel_rfl⟩, ⟨Tryz.func20, by kernel_rfl, by kernel_rfl⟩, ⟨Tryz.func23, by kernel_rfl, by kernel_rfl⟩, ⟨Tryz.func24, by kernel_rfl, by kernel_rfl⟩, ⟨Tryz.func25, by kernel_rfl, by kernel_rfl⟩, ⟨Tryz.func26, by kernel_rfl, by kernel_rfl⟩, ⟨Tryz.func27, by kernel_rfl, by kernel_rfl⟩, ⟨Tryz.func28, by kernel_rfl, by kernel_rfl⟩, ⟨Tryz.func31, by kernel_rfl, by kernel_rfl⟩, ⟨Tryz.func37, by kernel_rfl, by kernel_rfl⟩, ⟨Tryz.func44, by kernel_rfl, by kernel_rfl⟩, ⟨Tryz.func48, by kernel_rfl, by kernel_rfl⟩, ⟨Tryz.func49, by kernel_rfl, by kernel_rfl⟩, ⟨Tryz.func53, by kernel_rfl, by kernel_rfl⟩, ⟨Tryz.func55, by kernel_rfl, by kernel_rfl⟩, ⟨Tryz.func56, by kernel_rfl, by kernel_rfl⟩, ⟨Tryz.func65, by kernel_rfl, by kernel_rfl⟩, ⟨Tryz.func66, by kernel_rfl, by kernel_rfl⟩, ⟨Tryz.func68, by kernel_rfl, by kernel_rfl⟩, ⟨Tryz.func70, by kernel_rfl, by kernel_rfl⟩, ⟨Tryz.func71, by kernel_rfl, by kernel_rfl⟩, ⟨Tryz.func72, by kernel_rfl, by kernel_rfl⟩, ⟨Tryz.func73, by kernel_rfl, by kernel_rfl⟩, ⟨Tryz.func74, by kernel_rfl, by kernel_rfl⟩, ⟨Tryz.func75, by kernel_rfl, by kernel_rfl⟩, ⟨Tryz.func76, by kernel_rfl, by kernel_rfl⟩, ⟨Tryz.func77, by kernel_rfl, by kernel_rfl⟩, ⟨Tryz.func78, by kernel_rfl, by kernel_rfl⟩, ⟨Tryz.func79, by kernel_rfl, by kernel_rfl⟩, ⟨Tryz.func80, by kernel_rfl, by kernel_rfl⟩, ⟨Tryz.func81, by kernel_rfl, by kernel_rfl⟩, ⟨Tryz.func82, by kernel_rfl, by kernel_rfl⟩, ⟨Tryz.func83, by kernel_rfl, by kernel_rfl⟩, ⟨Tryz.func84, by kernel_rfl, by kernel_rfl⟩, ⟨Tryz.func85, by kernel_rfl, by kernel_rfl⟩, ⟨Tryz.func92, by kernel_rfl, by kernel_rfl⟩, ⟨Tryz.func93, by kernel_rfl, by kernel_rfl⟩, ⟨Tryz.func94, by kernel_rfl, by kernel_rfl⟩, ⟨Tryz.func95, by kernel_rfl, by kernel_rfl⟩, ⟨Tryz.func104, by kernel_rfl, by kernel_rfl⟩, ⟨Tryz.func105, by kernel_rfl, by kernel_rfl⟩, ⟨Tryz.func106, by kernel_rfl, by kernel_rfl⟩, ⟨Tryz.func109, by kernel_rfl, by kernel_rfl⟩, ⟨Tryz.func112, by kernel_rfl, by kernel_rfl⟩, ⟨Tryz.func120, by kernel_rfl, by kernel_rfl⟩, ⟨Tryz.func121, by kernel_rfl, by kernel_rfl⟩, ⟨Tryz.func122, by kernel_rfl, by kernel_rfl⟩, ⟨Tryz.func125, by kernel_rfl, by kernel_rfl⟩, ⟨Tryz.func128, by kernel_rfl, by kernel_rfl⟩, ⟨Tryz.func134, by kernel_rfl, by kernel_rfl⟩, ⟨Tryz.func135, by kernel_rfl, by kernel_rfl⟩, ⟨Tryz.func136, by kernel_rfl, by kernel_rfl⟩, ⟨Tryz.func138, by kernel_rfl, by kernel_rfl⟩, ⟨Tryz.func146, by kernel_rfl, by kernel_rfl⟩, ⟨Tryz.func156, by kernel_rfl, by kernel_rfl⟩, ⟨Tryz.func157, by kernel_rfl, by kernel_rfl⟩, ⟨Tryz.func163, by kernel_rfl, by kernel_rfl⟩, ⟨Tryz.func164, by kernel_rfl, by kernel_rfl⟩, ⟨Tryz.func165, by kernel_rfl, by kernel_rfl⟩, ⟨Tryz.func166, by kernel_rfl, by kernel_rfl⟩, ⟨Tryz.func167, by kernel_rfl, by kernel_rfl⟩, ⟨Tryz.func168, by kernel_rfl, by kernel_rfl⟩, ⟨Tryz.func169, by kernel_rfl, by kernel_rfl⟩, ⟨Tryz.func170, by kernel_rfl, by kernel_rfl⟩, ⟨Tryz.func171, by kernel_rfl, by kernel_rfl⟩, ⟨Tryz.func172, by kernel_rfl, by kernel_rfl⟩, ⟨Tryz.func173, by kernel_rfl, by kernel_rfl⟩, ⟨Tryz.func174, by kernel_rfl, by kernel_rfl⟩, ⟨Tryz.func175, by kernel_rfl, by kernel_rfl⟩, ⟨Tryz.func176, by kernel_rfl, by kernel_rfl⟩, ⟨Tryz.func177, by kernel_rfl, by kernel_rfl⟩, ⟨Tryz.func178, by kernel_rfl, by kernel_rfl⟩, ⟨Tryz.func179, by kernel_rfl, by kernel_rfl⟩, ⟨Tryz.func180, by kernel_rfl, by kernel_rfl⟩, ⟨Tryz.func181, by kernel_rfl, by kernel_rfl⟩, ⟨Tryz.func182, by kernel_rfl, by kernel_rfl⟩, ⟨Tryz.func183, by kernel_rfl, by kernel_rfl⟩, ⟨Tryz.func184, by kernel_rfl, by kernel_rfl⟩, ⟨Tryz.func187, by kernel_rfl, by kernel_rfl⟩, ⟨Tryz.func188, by kernel_rfl, by kernel_rfl⟩, ⟨Tryz.func192, by kernel_rfl, by kernel_rfl⟩, ⟨Tryz.func194, by kernel_rfl, by kernel_rfl⟩, ⟨Tryz.func195, by kernel_rfl, by kernel_rfl⟩, ⟨Tryz.func196, by kernel_rfl, by kernel_rfl⟩, ⟨Tryz.func198, by kernel_rfl, by kernel_rfl⟩, ⟨Tryz.func200, by kernel_rfl, by kernel_rfl⟩, ⟨Tryz.func203, by kernel_rfl, by kernel_rfl⟩, ⟨Tryz.func205, by kernel_rfl, by kernel_rfl⟩, ⟨Tryz.func206, by kernel_rfl, by kernel_rfl⟩, ⟨Tryz.func207, by kernel_rfl, by kernel_rfl⟩, ⟨Tryz.func208, by kernel_rfl, by kernel_rfl⟩, ⟨Tryz.func209, by kernel_rfl, by kernel_rfl⟩, ⟨Tryz.func213, by kernel_rfl, by kernel_rfl⟩, ⟨Tryz.func214, by kernel_rfl, by kernel_rfl⟩, ⟨Tryz.func220, by kernel_rfl, by kernel_rfl⟩, ⟨Tryz.func222, by kernel_rfl, by kernel_rfl⟩, ⟨Tryz.func224, by kernel_rfl, by kernel_rfl⟩, ⟨Tryz.func225, by kernel_rfl, by kernel_rfl⟩, ⟨Tryz.func226, by kernel_rfl, by kernel_rfl⟩, ⟨Tryz.func227, by kernel_rfl, by kernel_rfl⟩, ⟨Tryz.func228, by kernel_rfl, by kernel_rfl⟩, ⟨Tryz.func241, by kernel_rfl, by kernel_rfl⟩, ⟨Tryz.func242, by kernel_rfl, by kernel_rfl⟩, ⟨Tryz.func243, by kernel_rfl, by kernel_rfl⟩, ⟨Tryz.func249, by kernel_rfl, by kernel_rfl⟩, ⟨Tryz.func250, by kernel_rfl, by kernel_rfl⟩, ⟨Tryz.func253, by kernel_rfl, by kernel_rfl⟩, ⟨Tryz.func254, by kernel_rfl, by kernel_rfl⟩, ⟨Tryz.func259, by kernel_rfl, by kernel_rfl⟩, ⟨Tryz.func260, by kernel_rfl, by kernel_rfl⟩, ⟨Tryz.func261, by kernel_rfl, by kernel_rfl⟩, ⟨Tryz.func264, by kernel_rfl, by kernel_rfl⟩, ⟨Tryz.func265, by kernel_rfl, by kernel_rfl⟩, ⟨Tryz.func266, by kernel_rfl, by kernel_rfl⟩, ⟨Tryz.func267, by kernel_rfl, by kernel_rfl⟩, ⟨Tryz.func268, by kernel_rfl, by kernel_rfl⟩, ⟨Tryz.func273, by kernel_rfl, by kernel_rfl⟩, ⟨Tryz.func274, by kernel_rfl, by kernel_rfl⟩, ⟨Tryz.func275, by kernel_rfl, by kernel_rfl⟩, ⟨Tryz.func276, by kernel_rfl, by kernel_rfl⟩, ⟨Tryz.func284, by kernel_rfl, by kernel_rfl⟩, ⟨Tryz.func285, by kernel_rfl, by kernel_rfl⟩, ⟨Tryz.func291, by kernel_rfl, by kernel_rfl⟩, ⟨Tryz.func292, by kernel_rfl, by kernel_rfl⟩, ⟨Tryz.func297, by kernel_rfl, by kernel_rfl⟩, ⟨Tryz.func302, by kernel_rfl, by kernel_rfl⟩, ⟨Tryz.func314, by kernel_rfl, by kernel_rfl⟩, ⟨Tryz.func315, by kernel_rfl, by kernel_rfl⟩, ⟨Tryz.func322, by kernel_rfl, by kernel_rfl⟩, ⟨Tryz.func323, by kernel_rfl, by kernel_rfl⟩, ⟨Tryz.func324, by kernel_rfl, by kernel_rfl⟩, ⟨Tryz.func325, by kernel_rfl, by kernel_rfl⟩, ⟨Tryz.func340, by kernel_rfl, by kernel_rfl⟩, trivial⟩
  mixed := by kernel_rfl

/-- loop.example/g01402/laws.szStringS -/
def F70 (k : Nat) (a0 : List ByteArray) (a1 : Int) : Option (Int) :=
  (bif (decide ((wrap64 (a1 - (a0.length : Int))) < (0 : Int))) then some (-1 : Int) else (iter (σ := Int × Int × Unit) (fun rec4 x3 => (bif (decide (x3.2.1 < (a0.length : Int))) then (bif (decide (0 ≤ x3.2.1 ∧ x3.2.1 < (a0.length : Int))) then (bif (decide ((wrap64 (x3.1 - ((a0.getD x3.2.1.toNat (ByteArray.mk #[])).size : Int))) < (0 : Int))) then some (-1 : Int) else (rec4 ((wrap64 (x3.1 - ((a0.getD x3.2.1.toNat (ByteArray.mk #[])).size : Int))), (wrap64 (x3.2.1 + (1 : Int))), ()))) else none) else some x3.1)) k ((wrap64 (a1 - (a0.length : Int))), (0 : Int), ())))
def S70 (k : Nat) : CSpec := { params := [(.slice .str), (.int .i64)], res := [((.int .i64), false)], fresh := true, sem := fun x => F70 k x.1 x.2.1 }
theorem e70 : (fun k => evFn ((T (fun _ _ => ⟨[1, 5], [], [], false⟩) k).cx []) 5 Tryz.f70 (S70 0).params (S70 0).res true) = fun k => (S70 k).sem := by kernel_rfl
theorem ok70 {G : World → Prop} (hG : Lasts G) (k : Nat) : (S70 k).ok Tryz.prog G 70 := fn_ok (T_ok (fun _ _ => ⟨[1, 5], [], [], false⟩) k) hG (calls := []) trivial 5 rfl (S70 k) (congrFun e70 k)

/-- loop.example/g01402/laws.szField -/
def F259 (k : Nat) (a0 : D0) (a1 : Int) : Option (Int) :=
  (bif (decide ((wrap64 (a1 - (a0.1.size : Int))) < (0 : Int))) then some (-1 : Int) else (bif (decide ((wrap64 ((wrap64 (a1 - (a0.1.size : Int))) - (a0.2.size : Int))) < (0 : Int))) then some (-1 : Int) else some (wrap64 ((wrap64 (a1 - (a0.1.size : Int))) - (a0.2.size : Int)))))
def S259 (k : Nat) : CSpec := { params := [U0, (.int .i64)], res := [((.int .i64), false)], fresh := true, sem := fun x => F259 k x.1 x.2.1 }
theorem e259 : (fun k => evFn ((T (fun _ _ => ⟨[], [], [], false⟩) k).cx []) 5 Tryz.f259 (S259 0).params (S259 0).res true) = fun k => (S259 k).sem := by kernel_rfl
theorem ok259 {G : World → Prop} (hG : Lasts G) (k : Nat) : (S259 k).ok Tryz.prog G 259 := fn_ok (T_ok (fun _ _ => ⟨[], [], [], false⟩) k) hG (calls := []) trivial 5 rfl (S259 k) (congrFun e259 k)

/-- loop.example/g01402/laws.szFieldS -/
def F192 (k : Nat) (a0 : List D0) (a1 : Int) : Option (Int) :=
  (bif (decide ((wrap64 (a1 - (a0.length : Int))) < (0 : Int))) then some (-1 : Int) else (iter (σ := Int × Int × Unit) (fun rec5 x4 => (bif (decide (x4.2.1 < (a0.length : Int))) then (bif (decide (0 ≤ x4.2.1 ∧ x4.2.1 < (a0.length : Int))) then ((F259 k (a0.getD x4.2.1.toNat Z0) x4.1).bind fun r6 => (bif (decide (r6 < (0 : Int))) then some (-1 : Int) else (rec5 (r6, (wrap64 (x4.2.1 + (1 : Int))), ())))) else none) else some x4.1)) k ((wrap64 (a1 - (a0.length : Int))), (0 : Int), ())))
def S192 (k : Nat) : CSpec := { params := [(.slice U0), (.int .i64)], res := [((.int .i64), false)], fresh := true, sem := fun x => F192 k x.1 x.2.1 }
theorem e192 : (fun k => evFn ((T (fun _ _ => ⟨[1, 5], [], [], false⟩) k).cx [(259, S259 k)]) 5 Tryz.f192 (S192 0).params (S192 0).res true) = fun k => (S192 k).sem := by kernel_rfl
theorem ok192 {G : World → Prop} (hG : Lasts G) (k : Nat) : (S192 k).ok Tryz.prog G 192 := fn_ok (T_ok (fun _ _ => ⟨[1, 5], [], [], false⟩) k) hG (calls := [(259, S259 k)]) ⟨ok259 hG k, trivial⟩ 5 rfl (S192 k) (congrFun e192 k)

/-- loop.example/g01402/laws.szRes -/
def F249 (k : Nat) (a0 : D1) (a1 : Int) : Option (Int) :=
  (bif (decide ((wrap64 (a1 - (a0.1.size : Int))) < (0 : Int))) then some (-1 : Int) else (bif (decide ((wrap64 ((wrap64 (a1 - (a0.1.size : Int))) - (a0.2.1.size : Int))) < (0 : Int))) then some (-1 : Int) else ((F192 k a0.2.2.2.2.2.2 (wrap64 ((wrap64 (a1 - (a0.1.size : Int))) - (a0.2.1.size : Int)))).bind fun r1 => (bif (decide (r1 < (0 : Int))) then some (-1 : Int) else some r1))))
def S249 (k : Nat) : CSpec := { params := [U1, (.int .i64)], res := [((.int .i64), false)], fresh := true, sem := fun x => F249 k x.1 x.2.1 }
theorem e249 : (fun k => evFn ((T (fun _ _ => ⟨[], [], [], false⟩) k).cx [(192, S192 k)]) 5 Tryz.f249 (S249 0).params (S249 0).res true) = fun k => (S249 k).sem := by kernel_rfl
theorem ok249 {G : World → Prop} (hG : Lasts G) (k : Nat) : (S249 k).ok Tryz.prog G 249 := fn_ok (T_ok (fun _ _ => ⟨[], [], [], false⟩) k) hG (calls := [(192, S192 k)]) ⟨ok192 hG k, trivial⟩ 5 rfl (S249 k) (congrFun e249 k)

/-- loop.example/g01402/laws.szResS -/
def F164 (k : Nat) (a0 : List D1) (a1 : Int) : Option (Int) :=
  (bif (decide ((wrap64 (a1 - (a0.length : Int))) < (0 : Int))) then some (-1 : Int) else (iter (σ := Int × Int × Unit) (fun rec5 x4 => (bif (decide (x4.2.1 < (a0.length : Int))) then (bif (decide (0 ≤ x4.2.1 ∧ x4.2.1 < (a0.length : Int))) then ((F249 k (a0.getD x4.2.1.toNat Z1) x4.1).bind fun r6 => (bif (decide (r6 < (0 : Int))) then some (-1 : Int) else (rec5 (r6, (wrap64 (x4.2.1 + (1 : Int))), ())))) else none) else some x4.1)) k ((wrap64 (a1 - (a0.length : Int))), (0 : Int), ())))
def S164 (k : Nat) : CSpec := { params := [(.slice U1), (.int .i64)], res := [((.int .i64), false)], fresh := true, sem := fun x => F164 k x.1 x.2.1 }
theorem e164 : (fun k => evFn ((T (fun _ _ => ⟨[1, 5], [], [], false⟩) k).cx [(249, S249 k)]) 5 Tryz.f164 (S164 0).params (S164 0).res true) = fun k => (S164 k).sem := by kernel_rfl
theorem ok164 {G : World → Prop} (hG : Lasts G) (k : Nat) : (S164 k).ok Tryz.prog G 164 := fn_ok (T_ok (fun _ _ => ⟨[1, 5], [], [], false⟩) k) hG (calls := [(249, S249 k)]) ⟨ok249 hG k, trivial⟩ 5 rfl (S164 k) (congrFun e164 k)

/-- loop.example/g01402/laws.szOrigin -/
def F71 (k : Nat) (a0 : D2) (a1 : Int) : Option (Int) :=
  ((F164 k a0 a1).bind fun r1 => (bif (decide (r1 < (0 : Int))) then some (-1 : Int) else some r1))
def S71 (k : Nat) : CSpec := { params := [U2, (.int .i64)], res := [((.int .i64), false)], fresh := true, sem := fun x => F71 k x.1 x.2.1 }
theorem e71 : (fun k => evFn ((T (fun _ _ => ⟨[], [], [], false⟩) k).cx [(164, S164 k)]) 5 Tryz.f71 (S71 0).params (S71 0).res true) = fun k => (S71 k).sem := by kernel_rfl
theorem ok71 {G : World → Prop} (hG : Lasts G) (k : Nat) : (S71 k).ok Tryz.prog G 71 := fn_ok (T_ok (fun _ _ => ⟨[], [], [], false⟩) k) hG (calls := [(164, S164 k)]) ⟨ok164 hG k, trivial⟩ 5 rfl (S71 k) (congrFun e71 k)

/-- loop.example/g01402/laws.szEntry -/
def F165 (k : Nat) (a0 : D3) (a1 : Int) : Option (Int) :=
  (bif (decide ((wrap64 (a1 - (a0.2.2.size : Int))) < (0 : Int))) then some (-1 : Int) else some (wrap64 (a1 - (a0.2.2.size : Int))))
def S165 (k : Nat) : CSpec := { params := [U3, (.int .i64)], res := [((.int .i64), false)], fresh := true, sem := fun x => F165 k x.1 x.2.1 }
theorem e165 : (fun k => evFn ((T (fun _ _ => ⟨[], [], [], false⟩) k).cx []) 5 Tryz.f165 (S165 0).params (S165 0).res true) = fun k => (S165 k).sem := by kernel_rfl
theorem ok165 {G : World → Prop} (hG : Lasts G) (k : Nat) : (S165 k).ok Tryz.prog G 165 := fn_ok (T_ok (fun _ _ => ⟨[], [], [], false⟩) k) hG (calls := []) trivial 5 rfl (S165 k) (congrFun e165 k)

/-- loop.example/g01402/laws.szEntryS -/
def F72 (k : Nat) (a0 : List D3) (a1 : Int) : Option (Int) :=
  (bif (decide ((wrap64 (a1 - (a0.length : Int))) < (0 : Int))) then some (-1 : Int) else (iter (σ := Int × Int × Unit) (fun rec5 x4 => (bif (decide (x4.2.1 < (a0.length : Int))) then (bif (decide (0 ≤ x4.2.1 ∧ x4.2.1 < (a0.length : Int))) then ((F165 k (a0.getD x4.2.1.toNat Z3) x4.1).bind fun r6 => (bif (decide (r6 < (0 : Int))) then some (-1 : Int) else (rec5 (r6, (wrap64 (x4.2.1 + (1 : Int))), ())))) else none) else some x4.1)) k ((wrap64 (a1 - (a0.length : Int))), (0 : Int), ())))
def S72 (k : Nat) : CSpec := { params := [(.slice U3), (.int .i64)], res := [((.int .i64), false)], fresh := true, sem := fun x => F72 k x.1 x.2.1 }
theorem e72 : (fun k => evFn ((T (fun _ _ => ⟨[1, 5], [], [], false⟩) k).cx [(165, S165 k)]) 5 Tryz.f72 (S72 0).params (S72 0).res true) = fun k => (S72 k).sem := by kernel_rfl
theorem ok72 {G : World → Prop} (hG : Lasts G) (k : Nat) : (S72 k).ok Tryz.prog G 72 := fn_ok (T_ok (fun _ _ => ⟨[1, 5], [], [], false⟩) k) hG (calls := [(165, S165 k)]) ⟨ok165 hG k, trivial⟩ 5 rfl (S72 k) (congrFun e72 k)

/-- loop.example/g01402/laws.szScript -/
def F23 (k : Nat) (a0 : D4) (a1 : Int) : Option (Int) :=
  ((F70 k a0.1 a1).bind fun r1 => (bif (decide (r1 < (0 : Int))) then some (-1 : Int) else ((F71 k a0.2.2.2.2.1 r1).bind fun r2 => (bif (decide (r2 < (0 : Int))) then some (-1 : Int) else ((F72 k a0.2.2.2.2.2 r2).bind fun r3 => (bif (decide (r3 < (0 : Int))) then some (-1 : Int) else some r3))))))
def S23 (k : Nat) : CSpec := { params := [U4, (.int .i64)], res := [((.int .i64), false)], fresh := true, sem := fun x => F23 k x.1 x.2.1 }
theorem e23 : (fun k => evFn ((T (fun _ _ => ⟨[], [], [], false⟩) k).cx [(70, S70 k), (71, S71 k), (72, S72 k)]) 5 Tryz.f23 (S23 0).params (S23 0).res true) = fun k => (S23 k).sem := by kernel_rfl
theorem ok23 {G : World → Prop} (hG : Lasts G) (k : Nat) : (S23 k).ok Tryz.prog G 23 := fn_ok (T_ok (fun _ _ => ⟨[], [], [], false⟩) k) hG (calls := [(70, S70 k), (71, S71 k), (72, S72 k)]) ⟨ok70 hG k, ok71 hG k, ok72 hG k, trivial⟩ 5 rfl (S23 k) (congrFun e23 k)

/-- loop.example/g01402/laws.toStringS -/
def F75 (k : Nat) (a0 : List ByteArray) : Option ((List ByteArray)) :=
  (bif (decide (0 ≤ (a0.length : Int) ∧ (a0.length : Int) = (a0.length : Int) ∧ (a0.length : Int) < (most : Int))) then (iter (σ := Int × List ByteArray × Unit) (fun rec4 x3 => (bif (decide (x3.1 < (a0.length : Int))) then (bif (decide (0 ≤ x3.1 ∧ x3.1 < (a0.length : Int))) then (bif (decide (0 ≤ x3.1 ∧ x3.1 < (x3.2.1.length : Int))) then (rec4 ((wrap64 (x3.1 + (1 : Int))), (x3.2.1.set x3.1.toNat (a0.getD x3.1.toNat (ByteArray.mk #[]))), ())) else none) else none) else some x3.2.1)) k ((0 : Int), (List.replicate (a0.length : Int).toNat (ByteArray.mk #[])), ())) else none)
def S75 (k : Nat) : CSpec := { params := [(.slice .str)], res := [((.slice .str), true)], fresh := true, sem := fun x => F75 k x.1 }
theorem e75 : (fun k => evFn ((T (fun _ _ => ⟨[4], [1], [], false⟩) k).cx []) 5 Tryz.f75 (S75 0).params (S75 0).res true) = fun k => (S75 k).sem := by kernel_rfl
theorem ok75 {G : World → Prop} (hG : Lasts G) (k : Nat) : (S75 k).ok Tryz.prog G 75 := fn_ok (T_ok (fun _ _ => ⟨[4], [1], [], false⟩) k) hG (calls := []) trivial 5 rfl (S75 k) (congrFun e75 k)

/-- loop.example/g01402/laws.toField -/
def F264 (k : Nat) (a0 : D0) : Option (D0) :=
  some a0
def S264 (k : Nat) : CSpec := { params := [U0], res := [(U0, false)], fresh := true, sem := fun x => F264 k x.1 }
theorem e264 : (fun k => evFn ((T (fun _ _ => ⟨[], [], [], false⟩) k).cx []) 5 Tryz.f264 (S264 0).params (S264 0).res true) = fun k => (S264 k).sem := by kernel_rfl
theorem ok264 {G : World → Prop} (hG : Lasts G) (k : Nat) : (S264 k).ok Tryz.prog G 264 := fn_ok (T_ok (fun _ _ => ⟨[], [], [], false⟩) k) hG (calls := []) trivial 5 rfl (S264 k) (congrFun e264 k)

/-- loop.example/g01402/laws.toFieldS -/
def F203 (k : Nat) (a0 : List D0) : Option ((List D0)) :=
  (bif (decide (0 ≤ (a0.length : Int) ∧ (a0.length : Int) = (a0.length : Int) ∧ (a0.length : Int) < (most : Int))) then (iter (σ := Int × List D0 × Unit) (fun rec5 x4 => (bif (decide (x4.1 < (a0.length : Int))) then (bif (decide (0 ≤ x4.1 ∧ x4.1 < (a0.length : Int))) then ((F264 k (a0.getD x4.1.toNat Z0)).bind fun r6 => (bif (decide (0 ≤ x4.1 ∧ x4.1 < (x4.2.1.length : Int))) then (rec5 ((wrap64 (x4.1 + (1 : Int))), (x4.2.1.set x4.1.toNat r6), ())) else none)) else none) else some x4.2.1)) k ((0 : Int), (List.replicate (a0.length : Int).toNat Z0), ())) else none)
def S203 (k : Nat) : CSpec := { params := [(.slice U0)], res := [((.slice U0), true)], fresh := true, sem := fun x => F203 k x.1 }
theorem e203 : (fun k => evFn ((T (fun _ _ => ⟨[4], [1], [], false⟩) k).cx [(264, S264 k)]) 5 Tryz.f203 (S203 0).params (S203 0).res true) = fun k => (S203 k).sem := by kernel_rfl
theorem ok203 {G : World → Prop} (hG : Lasts G) (k : Nat) : (S203 k).ok Tryz.prog G 203 := fn_ok (T_ok (fun _ _ => ⟨[4], [1], [], false⟩) k) hG (calls := [(264, S264 k)]) ⟨ok264 hG k, trivial⟩ 5 rfl (S203 k) (congrFun e203 k)

/-- loop.example/g01402/laws.toRes -/
def F250 (k : Nat) (a0 : D1) : Option (D1) :=
  ((F203 k a0.2.2.2.2.2.2).bind fun r1 => some (a0.1, a0.2.1, a0.2.2.1, a0.2.2.2.1, a0.2.2.2.2.1, a0.2.2.2.2.2.1, r1))
def S250 (k : Nat) : CSpec := { params := [U1], res := [(U1, true)], fresh := true, sem := fun x => F250 k x.1 }
theorem e250 : (fun k => evFn ((T (fun _ _ => ⟨[], [], [], false⟩) k).cx [(203, S203 k)]) 5 Tryz.f250 (S250 0).params (S250 0).res true) = fun k => (S250 k).sem := by kernel_rfl
theorem ok250 {G : World → Prop} (hG : Lasts G) (k : Nat) : (S250 k).ok Tryz.prog G 250 := fn_ok (T_ok (fun _ _ => ⟨[], [], [], false⟩) k) hG (calls := [(203, S203 k)]) ⟨ok203 hG k, trivial⟩ 5 rfl (S250 k) (congrFun e250 k)

/-- loop.example/g01402/laws.toResS -/
def F171 (k : Nat) (a0 : List D1) : Option ((List D1)) :=
  (bif (decide (0 ≤ (a0.length : Int) ∧ (a0.length : Int) = (a0.length : Int) ∧ (a0.length : Int) < (most : Int))) then (iter (σ := Int × List D1 × Unit) (fun rec5 x4 => (bif (decide (x4.1 < (a0.length : Int))) then (bif (decide (0 ≤ x4.1 ∧ x4.1 < (a0.length : Int))) then ((F250 k (a0.getD x4.1.toNat Z1)).bind fun r6 => (bif (decide (0 ≤ x4.1 ∧ x4.1 < (x4.2.1.length : Int))) then (rec5 ((wrap64 (x4.1 + (1 : Int))), (x4.2.1.set x4.1.toNat r6), ())) else none)) else none) else some x4.2.1)) k ((0 : Int), (List.replicate (a0.length : Int).toNat Z1), ())) else none)
def S171 (k : Nat) : CSpec := { params := [(.slice U1)], res := [((.slice U1), true)], fresh := true, sem := fun x => F171 k x.1 }
theorem e171 : (fun k => evFn ((T (fun _ _ => ⟨[4], [1], [], false⟩) k).cx [(250, S250 k)]) 5 Tryz.f171 (S171 0).params (S171 0).res true) = fun k => (S171 k).sem := by kernel_rfl
theorem ok171 {G : World → Prop} (hG : Lasts G) (k : Nat) : (S171 k).ok Tryz.prog G 171 := fn_ok (T_ok (fun _ _ => ⟨[4], [1], [], false⟩) k) hG (calls := [(250, S250 k)]) ⟨ok250 hG k, trivial⟩ 5 rfl (S171 k) (congrFun e171 k)

/-- loop.example/g01402/laws.toOrigin -/
def F76 (k : Nat) (a0 : D2) : Option (D2) :=
  ((F171 k a0).bind fun r1 => some r1)
def S76 (k : Nat) : CSpec := { params := [U2], res := [(U2, true)], fresh := true, sem := fun x => F76 k x.1 }
theorem e76 : (fun k => evFn ((T (fun _ _ => ⟨[], [], [], false⟩) k).cx [(171, S171 k)]) 5 Tryz.f76 (S76 0).params (S76 0).res true) = fun k => (S76 k).sem := by kernel_rfl
theorem ok76 {G : World → Prop} (hG : Lasts G) (k : Nat) : (S76 k).ok Tryz.prog G 76 := fn_ok (T_ok (fun _ _ => ⟨[], [], [], false⟩) k) hG (calls := [(171, S171 k)]) ⟨ok171 hG k, trivial⟩ 5 rfl (S76 k) (congrFun e76 k)

/-- loop.example/g01402/laws.toEntry -/
def F172 (k : Nat) (a0 : D3) : Option (D3) :=
  some a0
def S172 (k : Nat) : CSpec := { params := [U3], res := [(U3, false)], fresh := true, sem := fun x => F172 k x.1 }
theorem e172 : (fun k => evFn ((T (fun _ _ => ⟨[], [], [], false⟩) k).cx []) 5 Tryz.f172 (S172 0).params (S172 0).res true) = fun k => (S172 k).sem := by kernel_rfl
theorem ok172 {G : World → Prop} (hG : Lasts G) (k : Nat) : (S172 k).ok Tryz.prog G 172 := fn_ok (T_ok (fun _ _ => ⟨[], [], [], false⟩) k) hG (calls := []) trivial 5 rfl (S172 k) (congrFun e172 k)

/-- loop.example/g01402/laws.toEntryS -/
def F77 (k : Nat) (a0 : List D3) : Option ((List D3)) :=
  (bif (decide (0 ≤ (a0.length : Int) ∧ (a0.length : Int) = (a0.length : Int) ∧ (a0.length : Int) < (most : Int))) then (iter (σ := Int × List D3 × Unit) (fun rec5 x4 => (bif (decide (x4.1 < (a0.length : Int))) then (bif (decide (0 ≤ x4.1 ∧ x4.1 < (a0.length : Int))) then ((F172 k (a0.getD x4.1.toNat Z3)).bind fun r6 => (bif (decide (0 ≤ x4.1 ∧ x4.1 < (x4.2.1.length : Int))) then (rec5 ((wrap64 (x4.1 + (1 : Int))), (x4.2.1.set x4.1.toNat r6), ())) else none)) else none) else some x4.2.1)) k ((0 : Int), (List.replicate (a0.length : Int).toNat Z3), ())) else none)
def S77 (k : Nat) : CSpec := { params := [(.slice U3)], res := [((.slice U3), true)], fresh := true, sem := fun x => F77 k x.1 }
theorem e77 : (fun k => evFn ((T (fun _ _ => ⟨[4], [1], [], false⟩) k).cx [(172, S172 k)]) 5 Tryz.f77 (S77 0).params (S77 0).res true) = fun k => (S77 k).sem := by kernel_rfl
theorem ok77 {G : World → Prop} (hG : Lasts G) (k : Nat) : (S77 k).ok Tryz.prog G 77 := fn_ok (T_ok (fun _ _ => ⟨[4], [1], [], false⟩) k) hG (calls := [(172, S172 k)]) ⟨ok172 hG k, trivial⟩ 5 rfl (S77 k) (congrFun e77 k)

/-- loop.example/g01402/laws.toScript -/
def F25 (k : Nat) (a0 : D4) : Option (D4) :=
  ((F75 k a0.1).bind fun r1 => ((F76 k a0.2.2.2.2.1).bind fun r2 => ((F77 k a0.2.2.2.2.2).bind fun r3 => some (r1, a0.2.1, a0.2.2.1, a0.2.2.2.1, r2, r3))))
def S25 (k : Nat) : CSpec := { params := [U4], res := [(U4, true)], fresh := true, sem := fun x => F25 k x.1 }
theorem e25 : (fun k => evFn ((T (fun _ _ => ⟨[], [], [], false⟩) k).cx [(75, S75 k), (76, S76 k), (77, S77 k)]) 5 Tryz.f25 (S25 0).params (S25 0).res true) = fun k => (S25 k).sem := by kernel_rfl
theorem ok25 {G : World → Prop} (hG : Lasts G) (k : Nat) : (S25 k).ok Tryz.prog G 25 := fn_ok (T_ok (fun _ _ => ⟨[], [], [], false⟩) k) hG (calls := [(75, S75 k), (76, S76 k), (77, S77 k)]) ⟨ok75 hG k, ok76 hG k, ok77 hG k, trivial⟩ 5 rfl (S25 k) (congrFun e25 k)

/-- loop.example/g01402/spec.l1In -/
def F166 (k : Nat) (a0 : Int) (a1 : Int) (a2 : Int) : Option (Bool) :=
  (bif (decide (a1 ≤ a0)) then some (decide (a0 ≤ a2)) else some false)
def S166 (k : Nat) : CSpec := { params := [(.int .i64), (.int .i64), (.int .i64)], res := [(.bool, false)], fresh := true, sem := fun x => F166 k x.1 x.2.1 x.2.2.1 }
theorem e166 : (fun k => evFn ((T (fun _ _ => ⟨[], [], [], false⟩) k).cx []) 5 Tryz.f166 (S166 0).params (S166 0).res true) = fun k => (S166 k).sem := by kernel_rfl
theorem ok166 {G : World → Prop} (hG : Lasts G) (k : Nat) : (S166 k).ok Tryz.prog G 166 := fn_ok (T_ok (fun _ _ => ⟨[], [], [], false⟩) k) hG (calls := []) trivial 5 rfl (S166 k) (congrFun e166 k)

/-- loop.example/g01402/spec.ShardNew -/
def F167 (k : Nat) (a0 : Int) (a1 : Int) : Option (D8) :=
  ((F166 k a0 (1 : Int) (8 : Int)).bind fun r1 => (bif (!r1) then some (Z8.1, Z8.2.1, ([] : List D7), Z8.2.2.2) else ((F166 k a1 (0 : Int) (500 : Int)).bind fun r2 => (bif (!r2) then some (Z8.1, Z8.2.1, ([] : List D7), Z8.2.2.2) else some (a0, a1, ([] : List D7), Z8.2.2.2)))))
def S167 (k : Nat) : CSpec := { params := [(.int .i64), (.int .i64)], res := [(U8, true)], fresh := true, sem := fun x => F167 k x.1 x.2.1 }
theorem e167 : (fun k => evFn ((T (fun _ _ => ⟨[], [], [], false⟩) k).cx [(166, S166 k)]) 5 Tryz.f167 (S167 0).params (S167 0).res true) = fun k => (S167 k).sem := by kernel_rfl
theorem ok167 {G : World → Prop} (hG : Lasts G) (k : Nat) : (S167 k).ok Tryz.prog G 167 := fn_ok (T_ok (fun _ _ => ⟨[], [], [], false⟩) k) hG (calls := [(166, S166 k)]) ⟨ok166 hG k, trivial⟩ 5 rfl (S167 k) (congrFun e167 k)

/-- loop.example/g01402/spec.CacheNew -/
def F73 (k : Nat) (a0 : Int) (a1 : Int) (a2 : Int) : Option (D10) :=
  ((F166 k a0 (1 : Int) (4 : Int)).bind fun r1 => (bif (!r1) then some (([] : List D8), ([] : List D9)) else ((F167 k a1 a2).bind fun r2 => (bif (decide (r2.1 = (0 : Int))) then some (([] : List D8), ([] : List D9)) else (iter (σ := Int × List D8 × Unit) (fun rec7 x6 => (bif (decide (x6.1 < a0)) then ((F167 k a1 a2).bind fun r8 => (bif (decide (x6.2.1.length + ([r8] : List D8).length < most)) then (rec7 ((wrap64 (x6.1 + (1 : Int))), (x6.2.1 ++ ([r8] : List D8)), ())) else none)) else some (x6.2.1, ([] : List D9)))) k ((0 : Int), ([] : List D8), ()))))))
def S73 (k : Nat) : CSpec := { params := [(.int .i64), (.int .i64), (.int .i64)], res := [(U10, true)], fresh := true, sem := fun x => F73 k x.1 x.2.1 x.2.2.1 }
theorem e73 : (fun k => evFn ((T (fun _ _ => ⟨[8], [5], [6], false⟩) k).cx [(166, S166 k), (167, S167 k)]) 5 Tryz.f73 (S73 0).params (S73 0).res true) = fun k => (S73 k).sem := by kernel_rfl
theorem ok73 {G : World → Prop} (hG : Lasts G) (k : Nat) : (S73 k).ok Tryz.prog G 73 := fn_ok (T_ok (fun _ _ => ⟨[8], [5], [6], false⟩) k) hG (calls := [(166, S166 k), (167, S167 k)]) ⟨ok166 hG k, ok167 hG k, trivial⟩ 5 rfl (S73 k) (congrFun e73 k)

/-- loop.example/g01402/spec.l12Filled -/
def F200 (k : Nat) (a0 : D8) : Option (Int) :=
  (iter (σ := Int × Int × Unit) (fun rec4 x3 => (bif (decide (x3.2.1 < (a0.2.2.1.length : Int))) then (bif (decide (0 ≤ x3.2.1 ∧ x3.2.1 < (a0.2.2.1.length : Int))) then (rec4 ((wrap64 (x3.1 + ((a0.2.2.1.getD x3.2.1.toNat Z7).1.2.2.1.2.2.size : Int))), (wrap64 (x3.2.1 + (1 : Int))), ())) else none) else some x3.1)) k ((0 : Int), (0 : Int), ()))
def S200 (k : Nat) : CSpec := { params := [U8], res := [((.int .i64), false)], fresh := true, sem := fun x => F200 k x.1 }
theorem e200 : (fun k => evFn ((T (fun _ _ => ⟨[3, 4], [], [], false⟩) k).cx []) 5 Tryz.f200 (S200 0).params (S200 0).res true) = fun k => (S200 k).sem := by kernel_rfl
theorem ok200 {G : World → Prop} (hG : Lasts G) (k : Nat) : (S200 k).ok Tryz.prog G 200 := fn_ok (T_ok (fun _ _ => ⟨[3, 4], [], [], false⟩) k) hG (calls := []) trivial 5 rfl (S200 k) (congrFun e200 k)

/-- loop.example/g01402/spec.UriOk -/
def F112 (k : Nat) (a0 : ByteArray) : Option (Bool) :=
  (iter (σ := Int × Unit) (fun rec4 x3 => (bif (decide (x3.1 < (a0.size : Int))) then (bif (decide (0 ≤ x3.1 ∧ x3.1 < (a0.size : Int))) then (bif (decide ((bt a0 x3.1) ≤ (32 : Int))) then some false else (bif (decide (0 ≤ x3.1 ∧ x3.1 < (a0.size : Int))) then (bif (decide ((127 : Int) ≤ (bt a0 x3.1))) then some false else (rec4 ((wrap64 (x3.1 + (1 : Int))), ()))) else none)) else none) else ((F166 k (a0.size : Int) (1 : Int) (20 : Int)).bind fun r5 => (bif r5 then (bif (decide (0 ≤ (0 : Int) ∧ (0 : Int) < (a0.size : Int))) then some (decide ((bt a0 (0 : Int)) = (47 : Int))) else none) else some false)))) k ((0 : Int), ()))
def S112 (k : Nat) : CSpec := { params := [.str], res := [(.bool, false)], fresh := true, sem := fun x => F112 k x.1 }
theorem e112 : (fun k => evFn ((T (fun _ _ => ⟨[3], [], [], false⟩) k).cx [(166, S166 k)]) 5 Tryz.f112 (S112 0).params (S112 0).res true) = fun k => (S112 k).sem := by kernel_rfl
theorem ok112 {G : World → Prop} (hG : Lasts G) (k : Nat) : (S112 k).ok Tryz.prog G 112 := fn_ok (T_ok (fun _ _ => ⟨[3], [], [], false⟩) k) hG (calls := [(166, S166 k)]) ⟨ok166 hG k, trivial⟩ 5 rfl (S112 k) (congrFun e112 k)

/-- loop.example/g01402/spec.FieldGet -/
def F228 (k : Nat) (a0 : List D0) (a1 : ByteArray) : Option (ByteArray × Bool) :=
  (iter (σ := ByteArray × Bool × Int × Unit) (fun rec4 x3 => (bif (decide (x3.2.2.1 < (a0.length : Int))) then (bif (decide (0 ≤ x3.2.2.1 ∧ x3.2.2.1 < (a0.length : Int))) then (bif (!decide ((a0.getD x3.2.2.1.toNat Z0).1 = a1)) then (rec4 (x3.1, x3.2.1, (wrap64 (x3.2.2.1 + (1 : Int))), ())) else (bif x3.2.1 then (bif (decide (x3.1.size + (ByteArray.mk #[44, 32]).size < mostText)) then (bif (decide (0 ≤ x3.2.2.1 ∧ x3.2.2.1 < (a0.length : Int))) then (bif (decide ((x3.1 ++ (ByteArray.mk #[44, 32])).size + (a0.getD x3.2.2.1.toNat Z0).2.size < mostText)) then (rec4 (((x3.1 ++ (ByteArray.mk #[44, 32])) ++ (a0.getD x3.2.2.1.toNat Z0).2), true, (wrap64 (x3.2.2.1 + (1 : Int))), ())) else none) else none) else none) else (bif (decide (0 ≤ x3.2.2.1 ∧ x3.2.2.1 < (a0.length : Int))) then (bif (decide (x3.1.size + (a0.getD x3.2.2.1.toNat Z0).2.size < mostText)) then (rec4 ((x3.1 ++ (a0.getD x3.2.2.1.toNat Z0).2), true, (wrap64 (x3.2.2.1 + (1 : Int))), ())) else none) else none))) else none) else some (x3.1, x3.2.1))) k ((ByteArray.mk #[]), false, (0 : Int), ()))
def S228 (k : Nat) : CSpec := { params := [(.slice U0), .str], res := [(.str, false), (.bool, false)], fresh := true, sem := fun x => F228 k x.1 x.2.1 }
theorem e228 : (fun k => evFn ((T (fun _ _ => ⟨[6, 7, 8], [], [], false⟩) k).cx []) 5 Tryz.f228 (S228 0).params (S228 0).res true) = fun k => (S228 k).sem := by kernel_rfl
theorem ok228 {G : World → Prop} (hG : Lasts G) (k : Nat) : (S228 k).ok Tryz.prog G 228 := fn_ok (T_ok (fun _ _ => ⟨[6, 7, 8], [], [], false⟩) k) hG (calls := []) trivial 5 rfl (S228 k) (congrFun e228 k)

/-- loop.example/g01402/spec.l2Token -/
def F307 := Tok.G307
abbrev S307 := Tok.S307
theorem ok307 {G : World → Prop} (hG : Lasts G) (k : Nat) : (S307 k).ok Tryz.prog G 307 := Tok.ok307 hG k

/-- loop.example/g01402/spec.IsTokenText -/
def F275 (k : Nat) (a0 : ByteArray) : Option (Bool) :=
  (iter (σ := Int × Unit) (fun rec5 x4 => (bif (decide (x4.1 < (a0.size : Int))) then (bif (decide (0 ≤ x4.1 ∧ x4.1 < (a0.size : Int))) then ((Tok.G307 k (bt a0 x4.1)).bind fun r6 => (bif (!r6) then some false else (rec5 ((wrap64 (x4.1 + (1 : Int))), ())))) else none) else some (decide ((0 : Int) < (a0.size : Int))))) k ((0 : Int), ()))
def S275 (k : Nat) : CSpec := { params := [.str], res := [(.bool, false)], fresh := true, sem := fun x => F275 k x.1 }
theorem e275 : (fun k => evFn ((T (fun _ _ => ⟨[3], [], [], false⟩) k).cx [(307, S307 k)]) 5 Tryz.f275 (S275 0).params (S275 0).res true) = fun k => (S275 k).sem := by kernel_rfl
theorem ok275 {G : World → Prop} (hG : Lasts G) (k : Nat) : (S275 k).ok Tryz.prog G 275 := fn_ok (T_ok (fun _ _ => ⟨[3], [], [], false⟩) k) hG (calls := [(307, S307 k)]) ⟨ok307 hG k, trivial⟩ 5 rfl (S275 k) (congrFun e275 k)

/-- loop.example/g01402/spec.Lower -/
def F224 (k : Nat) (a0 : ByteArray) : Option (ByteArray) :=
  (iter (σ := Int × List Int × Unit) (fun rec4 x3 => (bif (decide (x3.1 < (x3.2.1.length : Int))) then (bif (decide (0 ≤ x3.1 ∧ x3.1 < (x3.2.1.length : Int))) then (bif (decide ((65 : Int) ≤ (x3.2.1.getD x3.1.toNat (0 : Int)))) then (bif (decide (0 ≤ x3.1 ∧ x3.1 < (x3.2.1.length : Int))) then (bif (decide ((x3.2.1.getD x3.1.toNat (0 : Int)) ≤ (90 : Int))) then (bif (decide (0 ≤ x3.1 ∧ x3.1 < (x3.2.1.length : Int))) then (bif (decide (0 ≤ x3.1 ∧ x3.1 < (x3.2.1.length : Int))) then (rec4 ((wrap64 (x3.1 + (1 : Int))), (x3.2.1.set x3.1.toNat (wr .u8 ((x3.2.1.getD x3.1.toNat (0 : Int)) + (32 : Int)))), ())) else none) else none) else (rec4 ((wrap64 (x3.1 + (1 : Int))), x3.2.1, ()))) else none) else (rec4 ((wrap64 (x3.1 + (1 : Int))), x3.2.1, ()))) else none) else some (strOf x3.2.1))) k ((0 : Int), (bytesOf a0), ()))
def S224 (k : Nat) : CSpec := { params := [.str], res := [(.str, false)], fresh := true, sem := fun x => F224 k x.1 }
theorem e224 : (fun k => evFn ((T (fun _ _ => ⟨[4], [0], [], false⟩) k).cx []) 5 Tryz.f224 (S224 0).params (S224 0).res true) = fun k => (S224 k).sem := by kernel_rfl
theorem ok224 {G : World → Prop} (hG : Lasts G) (k : Nat) : (S224 k).ok Tryz.prog G 224 := fn_ok (T_ok (fun _ _ => ⟨[4], [0], [], false⟩) k) hG (calls := []) trivial 5 rfl (S224 k) (congrFun e224 k)

/-- loop.example/g01402/spec.l2Blank -/
def F274 (k : Nat) (a0 : Int) : Option (Bool) :=
  (bif (decide (a0 = (32 : Int))) then some true else some (decide (a0 = (9 : Int))))
def S274 (k : Nat) : CSpec := { params := [(.int .u8)], res := [(.bool, false)], fresh := true, sem := fun x => F274 k x.1 }
theorem e274 : (fun k => evFn ((T (fun _ _ => ⟨[], [], [], false⟩) k).cx []) 5 Tryz.f274 (S274 0).params (S274 0).res true) = fun k => (S274 k).sem := by kernel_rfl
theorem ok274 {G : World → Prop} (hG : Lasts G) (k : Nat) : (S274 k).ok Tryz.prog G 274 := fn_ok (T_ok (fun _ _ => ⟨[], [], [], false⟩) k) hG (calls := []) trivial 5 rfl (S274 k) (congrFun e274 k)

/-- loop.example/g01402/spec.Trim -/
def F225 (k : Nat) (a0 : ByteArray) : Option (ByteArray) :=
  (iter (σ := ByteArray × Unit) (fun rec5 x4 => (bif (decide ((0 : Int) < (x4.1.size : Int))) then (bif (decide (0 ≤ (0 : Int) ∧ (0 : Int) < (x4.1.size : Int))) then ((F274 k (bt x4.1 (0 : Int))).bind fun r6 => (bif r6 then (bif (decide (0 ≤ (1 : Int) ∧ (1 : Int) ≤ (x4.1.size : Int) ∧ (x4.1.size : Int) ≤ (x4.1.size : Int))) then (rec5 ((x4.1.extract (1 : Int).toNat (x4.1.size : Int).toNat), ())) else none) else (iter (σ := ByteArray × Unit) (fun rec11 x10 => (bif (decide ((0 : Int) < (x10.1.size : Int))) then (bif (decide (0 ≤ (wrap64 ((x10.1.size : Int) - (1 : Int))) ∧ (wrap64 ((x10.1.size : Int) - (1 : Int))) < (x10.1.size : Int))) then ((F274 k (bt x10.1 (wrap64 ((x10.1.size : Int) - (1 : Int))))).bind fun r12 => (bif r12 then (bif (decide (0 ≤ (0 : Int) ∧ (0 : Int) ≤ (wrap64 ((x10.1.size : Int) - (1 : Int))) ∧ (wrap64 ((x10.1.size : Int) - (1 : Int))) ≤ (x10.1.size : Int))) then (rec11 ((x10.1.extract (0 : Int).toNat (wrap64 ((x10.1.size : Int) - (1 : Int))).toNat), ())) else none) else some x10.1)) else none) else some x10.1)) k (x4.1, ())))) else none) else (iter (σ := ByteArray × Unit) (fun rec17 x16 => (bif (decide ((0 : Int) < (x16.1.size : Int))) then (bif (decide (0 ≤ (wrap64 ((x16.1.size : Int) - (1 : Int))) ∧ (wrap64 ((x16.1.size : Int) - (1 : Int))) < (x16.1.size : Int))) then ((F274 k (bt x16.1 (wrap64 ((x16.1.size : Int) - (1 : Int))))).bind fun r18 => (bif r18 then (bif (decide (0 ≤ (0 : Int) ∧ (0 : Int) ≤ (wrap64 ((x16.1.size : Int) - (1 : Int))) ∧ (wrap64 ((x16.1.size : Int) - (1 : Int))) ≤ (x16.1.size : Int))) then (rec17 ((x16.1.extract (0 : Int).toNat (wrap64 ((x16.1.size : Int) - (1 : Int))).toNat), ())) else none) else some x16.1)) else none) else some x16.1)) k (x4.1, ())))) k (a0, ()))
def S225 (k : Nat) : CSpec := { params := [.str], res := [(.str, false)], fresh := true, sem := fun x => F225 k x.1 }
theorem e225 : (fun k => evFn ((T (fun _ _ => ⟨[0], [], [], false⟩) k).cx [(274, S274 k)]) 5 Tryz.f225 (S225 0).params (S225 0).res true) = fun k => (S225 k).sem := by kernel_rfl
theorem ok225 {G : World → Prop} (hG : Lasts G) (k : Nat) : (S225 k).ok Tryz.prog G 225 := fn_ok (T_ok (fun _ _ => ⟨[0], [], [], false⟩) k) hG (calls := [(274, S274 k)]) ⟨ok274 hG k, trivial⟩ 5 rfl (S225 k) (congrFun e225 k)

/-- loop.example/g01402/spec.IsValueText -/
def F276 (k : Nat) (a0 : ByteArray) : Option (Bool) :=
  (iter (σ := Int × Unit) (fun rec4 x3 => (bif (decide (x3.1 < (a0.size : Int))) then (bif (decide (0 ≤ x3.1 ∧ x3.1 < (a0.size : Int))) then (bif (!decide ((bt a0 x3.1) = (9 : Int))) then (bif (decide (0 ≤ x3.1 ∧ x3.1 < (a0.size : Int))) then (bif (decide ((bt a0 x3.1) < (32 : Int))) then some false else (bif (decide (0 ≤ x3.1 ∧ x3.1 < (a0.size : Int))) then (bif (decide ((bt a0 x3.1) = (127 : Int))) then some false else (rec4 ((wrap64 (x3.1 + (1 : Int))), ()))) else none)) else none) else (rec4 ((wrap64 (x3.1 + (1 : Int))), ()))) else none) else ((F225 k a0).bind fun r5 => some (decide (r5 = a0))))) k ((0 : Int), ()))
def S276 (k : Nat) : CSpec := { params := [.str], res := [(.bool, false)], fresh := true, sem := fun x => F276 k x.1 }
theorem e276 : (fun k => evFn ((T (fun _ _ => ⟨[3], [], [], false⟩) k).cx [(225, S225 k)]) 5 Tryz.f276 (S276 0).params (S276 0).res true) = fun k => (S276 k).sem := by kernel_rfl
theorem ok276 {G : World → Prop} (hG : Lasts G) (k : Nat) : (S276 k).ok Tryz.prog G 276 := fn_ok (T_ok (fun _ _ => ⟨[3], [], [], false⟩) k) hG (calls := [(225, S225 k)]) ⟨ok225 hG k, trivial⟩ 5 rfl (S276 k) (congrFun e276 k)

/-- loop.example/g01402/spec.l3FieldOk -/
def F226 (k : Nat) (a0 : D0) : Option (Bool) :=
  ((F275 k a0.1).bind fun r1 => (bif r1 then ((F224 k a0.1).bind fun r2 => (bif (decide (a0.1 = r2)) then (bif (decide ((a0.1.size : Int) ≤ (24 : Int))) then ((F276 k a0.2).bind fun r3 => (bif r3 then some (decide ((a0.2.size : Int) ≤ (60 : Int))) else some false)) else some false) else some false)) else some false))
def S226 (k : Nat) : CSpec := { params := [U0], res := [(.bool, false)], fresh := true, sem := fun x => F226 k x.1 }
theorem e226 : (fun k => evFn ((T (fun _ _ => ⟨[], [], [], false⟩) k).cx [(224, S224 k), (275, S275 k), (276, S276 k)]) 5 Tryz.f226 (S226 0).params (S226 0).res true) = fun k => (S226 k).sem := by kernel_rfl
theorem ok226 {G : World → Prop} (hG : Lasts G) (k : Nat) : (S226 k).ok Tryz.prog G 226 := fn_ok (T_ok (fun _ _ => ⟨[], [], [], false⟩) k) hG (calls := [(224, S224 k), (275, S275 k), (276, S276 k)]) ⟨ok224 hG k, ok275 hG k, ok276 hG k, trivial⟩ 5 rfl (S226 k) (congrFun e226 k)

/-- loop.example/g01402/spec.FieldsOk -/
def F222 (k : Nat) (a0 : List D0) : Option (Bool) :=
  (iter (σ := Int × Unit) (fun rec5 x4 => (bif (decide (x4.1 < (a0.length : Int))) then (bif (decide (0 ≤ x4.1 ∧ x4.1 < (a0.length : Int))) then ((F226 k (a0.getD x4.1.toNat Z0)).bind fun r6 => (bif (!r6) then some false else (rec5 ((wrap64 (x4.1 + (1 : Int))), ())))) else none) else some (decide ((a0.length : Int) ≤ (12 : Int))))) k ((0 : Int), ()))
def S222 (k : Nat) : CSpec := { params := [(.slice U0)], res := [(.bool, false)], fresh := true, sem := fun x => F222 k x.1 }
theorem e222 : (fun k => evFn ((T (fun _ _ => ⟨[3], [], [], false⟩) k).cx [(226, S226 k)]) 5 Tryz.f222 (S222 0).params (S222 0).res true) = fun k => (S222 k).sem := by kernel_rfl
theorem ok222 {G : World → Prop} (hG : Lasts G) (k : Nat) : (S222 k).ok Tryz.prog G 222 := fn_ok (T_ok (fun _ _ => ⟨[3], [], [], false⟩) k) hG (calls := [(226, S226 k)]) ⟨ok226 hG k, trivial⟩ 5 rfl (S222 k) (congrFun e222 k)

/-- loop.example/g01402/spec.l6Plain -/
def F227 (k : Nat) (a0 : List D0) : Option (Bool) :=
  ((F228 k a0 (ByteArray.mk #[116, 114, 97, 110, 115, 102, 101, 114, 45, 101, 110, 99, 111, 100, 105, 110, 103])).bind fun r1 => ((F228 k a0 (ByteArray.mk #[99, 111, 110, 116, 101, 110, 116, 45, 108, 101, 110, 103, 116, 104])).bind fun r2 => (bif (!r1.2) then (bif (!r2.2) then (bif (decide ((a0.length : Int) < (12 : Int))) then ((F222 k a0).bind fun r3 => some r3) else some false) else some false) else some false)))
def S227 (k : Nat) : CSpec := { params := [(.slice U0)], res := [(.bool, false)], fresh := true, sem := fun x => F227 k x.1 }
theorem e227 : (fun k => evFn ((T (fun _ _ => ⟨[], [], [], false⟩) k).cx [(222, S222 k), (228, S228 k)]) 5 Tryz.f227 (S227 0).params (S227 0).res true) = fun k => (S227 k).sem := by kernel_rfl
theorem ok227 {G : World → Prop} (hG : Lasts G) (k : Nat) : (S227 k).ok Tryz.prog G 227 := fn_ok (T_ok (fun _ _ => ⟨[], [], [], false⟩) k) hG (calls := [(222, S222 k), (228, S228 k)]) ⟨ok222 hG k, ok228 hG k, trivial⟩ 5 rfl (S227 k) (congrFun e227 k)

/-- loop.example/g01402/spec.ResponseOk -/
def F146 (k : Nat) (a0 : D5) : Option (Bool) :=
  ((F166 k a0.1 (200 : Int) (599 : Int)).bind fun r1 => (bif r1 then ((F227 k a0.2.1).bind fun r2 => (bif r2 then (bif (decide ((a0.2.2.size : Int) ≤ (60 : Int))) then (bif (!decide (a0.1 = (204 : Int))) then (bif (!decide (a0.1 = (304 : Int))) then some true else some (decide (a0.2.2 = (ByteArray.mk #[])))) else some (decide (a0.2.2 = (ByteArray.mk #[])))) else some false) else some false)) else some false))
def S146 (k : Nat) : CSpec := { params := [U5], res := [(.bool, false)], fresh := true, sem := fun x => F146 k x.1 }
theorem e146 : (fun k => evFn ((T (fun _ _ => ⟨[], [], [], false⟩) k).cx [(166, S166 k), (227, S227 k)]) 5 Tryz.f146 (S146 0).params (S146 0).res true) = fun k => (S146 k).sem := by kernel_rfl
theorem ok146 {G : World → Prop} (hG : Lasts G) (k : Nat) : (S146 k).ok Tryz.prog G 146 := fn_ok (T_ok (fun _ _ => ⟨[], [], [], false⟩) k) hG (calls := [(166, S166 k), (227, S227 k)]) ⟨ok166 hG k, ok227 hG k, trivial⟩ 5 rfl (S146 k) (congrFun e146 k)

/-- loop.example/g01402/spec.StoredOk -/
def F109 (k : Nat) (a0 : D6) : Option (Bool) :=
  ((F112 k a0.1).bind fun r1 => (bif r1 then ((F146 k a0.2.2.1).bind fun r2 => (bif r2 then ((F166 k a0.2.2.2.1 (0 : Int) (2000000000 : Int)).bind fun r3 => (bif r3 then ((F166 k a0.2.2.2.2 a0.2.2.2.1 (2000000000 : Int)).bind fun r4 => (bif r4 then some (decide ((a0.2.1.length : Int) ≤ (12 : Int))) else some false)) else some false)) else some false)) else some false))
def S109 (k : Nat) : CSpec := { params := [U6], res := [(.bool, false)], fresh := true, sem := fun x => F109 k x.1 }
theorem e109 : (fun k => evFn ((T (fun _ _ => ⟨[], [], [], false⟩) k).cx [(112, S112 k), (146, S146 k), (166, S166 k)]) 5 Tryz.f109 (S109 0).params (S109 0).res true) = fun k => (S109 k).sem := by kernel_rfl
theorem ok109 {G : World → Prop} (hG : Lasts G) (k : Nat) : (S109 k).ok Tryz.prog G 109 := fn_ok (T_ok (fun _ _ => ⟨[], [], [], false⟩) k) hG (calls := [(112, S112 k), (146, S146 k), (166, S166 k)]) ⟨ok112 hG k, ok146 hG k, ok166 hG k, trivial⟩ 5 rfl (S109 k) (congrFun e109 k)

/-- loop.example/g01402/spec.SameFields -/
def F261 (k : Nat) (a0 : List D0) (a1 : List D0) : Option (Bool) :=
  (bif (!decide ((a0.length : Int) = (a1.length : Int))) then some false else (iter (σ := Int × Unit) (fun rec4 x3 => (bif (decide (x3.1 < (a0.length : Int))) then (bif (decide (0 ≤ x3.1 ∧ x3.1 < (a0.length : Int))) then (bif (decide (0 ≤ x3.1 ∧ x3.1 < (a1.length : Int))) then (bif (!((decide ((a0.getD x3.1.toNat Z0).1 = (a1.getD x3.1.toNat Z0).1)) && (decide ((a0.getD x3.1.toNat Z0).2 = (a1.getD x3.1.toNat Z0).2)))) then some false else (rec4 ((wrap64 (x3.1 + (1 : Int))), ()))) else none) else none) else some true)) k ((0 : Int), ())))
def S261 (k : Nat) : CSpec := { params := [(.slice U0), (.slice U0)], res := [(.bool, false)], fresh := true, sem := fun x => F261 k x.1 x.2.1 }
theorem e261 : (fun k => evFn ((T (fun _ _ => ⟨[5], [], [], false⟩) k).cx []) 5 Tryz.f261 (S261 0).params (S261 0).res true) = fun k => (S261 k).sem := by kernel_rfl
theorem ok261 {G : World → Prop} (hG : Lasts G) (k : Nat) : (S261 k).ok Tryz.prog G 261 := fn_ok (T_ok (fun _ _ => ⟨[5], [], [], false⟩) k) hG (calls := []) trivial 5 rfl (S261 k) (congrFun e261 k)

/-- loop.example/g01402/spec.l12Same -/
def F198 (k : Nat) (a0 : D6) (a1 : D6) : Option (Bool) :=
  (bif (decide (a0.1 = a1.1)) then ((F261 k a0.2.1 a1.2.1).bind fun r1 => some r1) else some false)
def S198 (k : Nat) : CSpec := { params := [U6, U6], res := [(.bool, false)], fresh := true, sem := fun x => F198 k x.1 x.2.1 }
theorem e198 : (fun k => evFn ((T (fun _ _ => ⟨[], [], [], false⟩) k).cx [(261, S261 k)]) 5 Tryz.f198 (S198 0).params (S198 0).res true) = fun k => (S198 k).sem := by kernel_rfl
theorem ok198 {G : World → Prop} (hG : Lasts G) (k : Nat) : (S198 k).ok Tryz.prog G 198 := fn_ok (T_ok (fun _ _ => ⟨[], [], [], false⟩) k) hG (calls := [(261, S261 k)]) ⟨ok261 hG k, trivial⟩ 5 rfl (S198 k) (congrFun e198 k)

/-- loop.example/g01402/spec.ShardOk -/
def F195 (k : Nat) (a0 : D8) : Option (Bool) :=
  ((F166 k a0.1 (1 : Int) (8 : Int)).bind fun r1 => (bif (!r1) then some false else ((F166 k a0.2.1 (0 : Int) (500 : Int)).bind fun r2 => (bif (!r2) then some false else (bif (decide (a0.1 < (a0.2.2.1.length : Int))) then some false else ((F200 k a0).bind fun r3 => (bif (decide (a0.2.1 < r3)) then some false else (bif (!decide (a0.2.2.2 = (0 : Int))) then ((F166 k a0.2.2.2 (0 : Int) (wrap64 ((a0.2.2.1.length : Int) - (1 : Int)))).bind fun r4 => (bif (!r4) then some false else (iter (σ := Int × Unit) (fun rec15 x14 => (bif (decide (x14.1 < (a0.2.2.1.length : Int))) then (bif (decide (0 ≤ x14.1 ∧ x14.1 < (a0.2.2.1.length : Int))) then ((F109 k (a0.2.2.1.getD x14.1.toNat Z7).1).bind fun r16 => (bif (!r16) then some false else (iter (σ := Int × Unit) (fun rec21 x20 => (bif (decide (x20.1 < x14.1)) then (bif (decide (0 ≤ x20.1 ∧ x20.1 < (a0.2.2.1.length : Int))) then (bif (decide (0 ≤ x14.1 ∧ x14.1 < (a0.2.2.1.length : Int))) then ((F198 k (a0.2.2.1.getD x20.1.toNat Z7).1 (a0.2.2.1.getD x14.1.toNat Z7).1).bind fun r22 => (bif r22 then some false else (rec21 ((wrap64 (x20.1 + (1 : Int))), ())))) else none) else none) else (rec15 ((wrap64 (x14.1 + (1 : Int))), ())))) k ((0 : Int), ())))) else none) else some true)) k ((0 : Int), ())))) else (iter (σ := Int × Unit) (fun rec33 x32 => (bif (decide (x32.1 < (a0.2.2.1.length : Int))) then (bif (decide (0 ≤ x32.1 ∧ x32.1 < (a0.2.2.1.length : Int))) then ((F109 k (a0.2.2.1.getD x32.1.toNat Z7).1).bind fun r34 => (bif (!r34) then some false else (iter (σ := Int × Unit) (fun rec39 x38 => (bif (decide (x38.1 < x32.1)) then (bif (decide (0 ≤ x38.1 ∧ x38.1 < (a0.2.2.1.length : Int))) then (bif (decide (0 ≤ x32.1 ∧ x32.1 < (a0.2.2.1.length : Int))) then ((F198 k (a0.2.2.1.getD x38.1.toNat Z7).1 (a0.2.2.1.getD x32.1.toNat Z7).1).bind fun r40 => (bif r40 then some false else (rec39 ((wrap64 (x38.1 + (1 : Int))), ())))) else none) else none) else (rec33 ((wrap64 (x32.1 + (1 : Int))), ())))) k ((0 : Int), ())))) else none) else some true)) k ((0 : Int), ()))))))))))
def S195 (k : Nat) : CSpec := { params := [U8], res := [(.bool, false)], fresh := true, sem := fun x => F195 k x.1 }
theorem e195 : (fun k => evFn ((T (kp [(([], 6), ⟨[3], [], [], false⟩), (([], 11), ⟨[4], [], [], false⟩)]) k).cx [(109, S109 k), (166, S166 k), (198, S198 k), (200, S200 k)]) 5 Tryz.f195 (S195 0).params (S195 0).res true) = fun k => (S195 k).sem := by kernel_rfl
theorem ok195 {G : World → Prop} (hG : Lasts G) (k : Nat) : (S195 k).ok Tryz.prog G 195 := fn_ok (T_ok (kp [(([], 6), ⟨[3], [], [], false⟩), (([], 11), ⟨[4], [], [], false⟩)]) k) hG (calls := [(109, S109 k), (166, S166 k), (198, S198 k), (200, S200 k)]) ⟨ok109 hG k, ok166 hG k, ok198 hG k, ok200 hG k, trivial⟩ 5 rfl (S195 k) (congrFun e195 k)

/-- loop.example/g01402/spec.Fnv -/
def F196 (k : Nat) (a0 : ByteArray) : Option (Int) :=
  (iter (σ := Int × Int × Unit) (fun rec4 x3 => (bif (decide (x3.2.1 < (a0.size : Int))) then (bif (decide (0 ≤ x3.2.1 ∧ x3.2.1 < (a0.size : Int))) then (bif (decide ((4294967296 : Int) = 0)) then none else (rec4 (((wrap64 ((bitsXor .i64 x3.1 (wrap64 ((bt a0 x3.2.1)))) * (16777619 : Int))).tmod (4294967296 : Int)), (wrap64 (x3.2.1 + (1 : Int))), ()))) else none) else some x3.1)) k ((2166136261 : Int), (0 : Int), ()))
def S196 (k : Nat) : CSpec := { params := [.str], res := [((.int .i64), false)], fresh := true, sem := fun x => F196 k x.1 }
theorem e196 : (fun k => evFn ((T (fun _ _ => ⟨[3, 4], [], [], false⟩) k).cx []) 5 Tryz.f196 (S196 0).params (S196 0).res true) = fun k => (S196 k).sem := by kernel_rfl
theorem ok196 {G : World → Prop} (hG : Lasts G) (k : Nat) : (S196 k).ok Tryz.prog G 196 := fn_ok (T_ok (fun _ _ => ⟨[3, 4], [], [], false⟩) k) hG (calls := []) trivial 5 rfl (S196 k) (congrFun e196 k)

/-- loop.example/g01402/spec.ShardOf -/
def F106 (k : Nat) (a0 : D10) (a1 : ByteArray) : Option (Int) :=
  (bif (decide ((a0.1.length : Int) = (0 : Int))) then some (-1 : Int) else ((F196 k a1).bind fun r1 => (bif (decide ((a0.1.length : Int) = 0)) then none else some (r1.tmod (a0.1.length : Int)))))
def S106 (k : Nat) : CSpec := { params := [U10, .str], res := [((.int .i64), false)], fresh := true, sem := fun x => F106 k x.1 x.2.1 }
theorem e106 : (fun k => evFn ((T (fun _ _ => ⟨[], [], [], false⟩) k).cx [(196, S196 k)]) 5 Tryz.f106 (S106 0).params (S106 0).res true) = fun k => (S106 k).sem := by kernel_rfl
theorem ok106 {G : World → Prop} (hG : Lasts G) (k : Nat) : (S106 k).ok Tryz.prog G 106 := fn_ok (T_ok (fun _ _ => ⟨[], [], [], false⟩) k) hG (calls := [(196, S196 k)]) ⟨ok196 hG k, trivial⟩ 5 rfl (S106 k) (congrFun e106 k)

/-- loop.example/g01402/spec.CacheOk -/
def F105 (k : Nat) (a0 : D10) : Option (Bool) :=
  ((F166 k (a0.1.length : Int) (1 : Int) (4 : Int)).bind fun r1 => (bif (!r1) then some false else (iter (σ := Int × Unit) (fun rec12 x11 => (bif (decide (x11.1 < (a0.1.length : Int))) then (bif (decide (0 ≤ x11.1 ∧ x11.1 < (a0.1.length : Int))) then ((F195 k (a0.1.getD x11.1.toNat Z8)).bind fun r13 => (bif (!r13) then some false else (iter (σ := Int × Unit) (fun rec18 x17 => (bif (decide (0 ≤ x11.1 ∧ x11.1 < (a0.1.length : Int))) then (bif (decide (x17.1 < ((a0.1.getD x11.1.toNat Z8).2.2.1.length : Int))) then (bif (decide (0 ≤ x11.1 ∧ x11.1 < (a0.1.length : Int))) then (bif (decide (0 ≤ x17.1 ∧ x17.1 < ((a0.1.getD x11.1.toNat Z8).2.2.1.length : Int))) then ((F106 k a0 ((a0.1.getD x11.1.toNat Z8).2.2.1.getD x17.1.toNat Z7).1.1).bind fun r19 => (bif (!decide (r19 = x11.1)) then some false else (rec18 ((wrap64 (x17.1 + (1 : Int))), ())))) else none) else none) else (rec12 ((wrap64 (x11.1 + (1 : Int))), ()))) else none)) k ((0 : Int), ())))) else none) else (iter (σ := Int × Unit) (fun rec25 x24 => (bif (decide (x24.1 < (a0.2.length : Int))) then (bif (decide (0 ≤ x24.1 ∧ x24.1 < (a0.2.length : Int))) then ((F112 k (a0.2.getD x24.1.toNat Z9).1).bind fun r26 => (bif (!r26) then some false else (bif (decide (0 ≤ x24.1 ∧ x24.1 < (a0.2.length : Int))) then ((F166 k (a0.2.getD x24.1.toNat Z9).2 (1 : Int) (1000000 : Int)).bind fun r27 => (bif (!r27) then some false else (bif (decide ((0 : Int) < x24.1)) then (bif (decide (0 ≤ x24.1 ∧ x24.1 < (a0.2.length : Int))) then (bif (decide (0 ≤ (wrap64 (x24.1 - (1 : Int))) ∧ (wrap64 (x24.1 - (1 : Int))) < (a0.2.length : Int))) then (bif (lessText (a0.2.getD x24.1.toNat Z9).1 (a0.2.getD (wrap64 (x24.1 - (1 : Int))).toNat Z9).1 || decide ((a0.2.getD x24.1.toNat Z9).1 = (a0.2.getD (wrap64 (x24.1 - (1 : Int))).toNat Z9).1)) then some false else (rec25 ((wrap64 (x24.1 + (1 : Int))), ()))) else none) else none) else (rec25 ((wrap64 (x24.1 + (1 : Int))), ()))))) else none))) else none) else some true)) k ((0 : Int), ())))) k ((0 : Int), ()))))
def S105 (k : Nat) : CSpec := { params := [U10], res := [(.bool, false)], fresh := true, sem := fun x => F105 k x.1 }
theorem e105 : (fun k => evFn ((T (kp [(([], 4), ⟨[3], [], [], false⟩), (([], 9), ⟨[4], [], [], false⟩), (([], 14), ⟨[5], [], [], false⟩)]) k).cx [(106, S106 k), (112, S112 k), (166, S166 k), (195, S195 k)]) 5 Tryz.f105 (S105 0).params (S105 0).res true) = fun k => (S105 k).sem := by kernel_rfl
theorem ok105 {G : World → Prop} (hG : Lasts G) (k : Nat) : (S105 k).ok Tryz.prog G 105 := fn_ok (T_ok (kp [(([], 4), ⟨[3], [], [], false⟩), (([], 9), ⟨[4], [], [], false⟩), (([], 14), ⟨[5], [], [], false⟩)]) k) hG (calls := [(106, S106 k), (112, S112 k), (166, S166 k), (195, S195 k)]) ⟨ok106 hG k, ok112 hG k, ok166 hG k, ok195 hG k, trivial⟩ 5 rfl (S105 k) (congrFun e105 k)

/-- loop.example/g01402/spec.OriginOk -/
def F168 (k : Nat) (a0 : D2) : Option (Bool) :=
  (iter (σ := Int × Unit) (fun rec8 x7 => (bif (decide (x7.1 < (a0.length : Int))) then (bif (decide (0 ≤ x7.1 ∧ x7.1 < (a0.length : Int))) then ((F112 k (a0.getD x7.1.toNat Z1).1).bind fun r9 => (bif (!r9) then some false else (bif (decide ((60 : Int) < ((a0.getD x7.1.toNat Z1).2.1.size : Int))) then some false else ((F166 k (a0.getD x7.1.toNat Z1).2.2.1 (1 : Int) (100000 : Int)).bind fun r10 => (bif (!r10) then some false else ((F166 k (a0.getD x7.1.toNat Z1).2.2.2.1 (0 : Int) (2000000000 : Int)).bind fun r11 => (bif (!r11) then some false else ((F227 k (a0.getD x7.1.toNat Z1).2.2.2.2.2.2).bind fun r12 => (bif (!r12) then some false else (bif (decide ((6 : Int) < ((a0.getD x7.1.toNat Z1).2.2.2.2.2.2.length : Int))) then some false else (bif (decide ((0 : Int) < x7.1)) then (bif (decide (0 ≤ (wrap64 (x7.1 - (1 : Int))) ∧ (wrap64 (x7.1 - (1 : Int))) < (a0.length : Int))) then (bif (lessText (a0.getD x7.1.toNat Z1).1 (a0.getD (wrap64 (x7.1 - (1 : Int))).toNat Z1).1 || decide ((a0.getD x7.1.toNat Z1).1 = (a0.getD (wrap64 (x7.1 - (1 : Int))).toNat Z1).1)) then some false else (rec8 ((wrap64 (x7.1 + (1 : Int))), ()))) else none) else (rec8 ((wrap64 (x7.1 + (1 : Int))), ()))))))))))))) else none) else some (decide ((a0.length : Int) ≤ (8 : Int))))) k ((0 : Int), ()))
def S168 (k : Nat) : CSpec := { params := [U2], res := [(.bool, false)], fresh := true, sem := fun x => F168 k x.1 }
theorem e168 : (fun k => evFn ((T (fun _ _ => ⟨[3], [], [], false⟩) k).cx [(112, S112 k), (166, S166 k), (227, S227 k)]) 5 Tryz.f168 (S168 0).params (S168 0).res true) = fun k => (S168 k).sem := by kernel_rfl
theorem ok168 {G : World → Prop} (hG : Lasts G) (k : Nat) : (S168 k).ok Tryz.prog G 168 := fn_ok (T_ok (fun _ _ => ⟨[3], [], [], false⟩) k) hG (calls := [(112, S112 k), (166, S166 k), (227, S227 k)]) ⟨ok112 hG k, ok166 hG k, ok227 hG k, trivial⟩ 5 rfl (S168 k) (congrFun e168 k)

/-- loop.example/g01402/spec.l12Resp -/
def F260 (k : Nat) (a0 : D5) : Option (D5) :=
  (bif (decide (([] : List D0).length + a0.2.1.length < most)) then some (a0.1, (([] : List D0) ++ a0.2.1), a0.2.2) else none)
def S260 (k : Nat) : CSpec := { params := [U5], res := [(U5, true)], fresh := true, sem := fun x => F260 k x.1 }
theorem e260 : (fun k => evFn ((T (fun _ _ => ⟨[], [], [], false⟩) k).cx []) 5 Tryz.f260 (S260 0).params (S260 0).res true) = fun k => (S260 k).sem := by kernel_rfl
theorem ok260 {G : World → Prop} (hG : Lasts G) (k : Nat) : (S260 k).ok Tryz.prog G 260 := fn_ok (T_ok (fun _ _ => ⟨[], [], [], false⟩) k) hG (calls := []) trivial 5 rfl (S260 k) (congrFun e260 k)

/-- loop.example/g01402/spec.l12One -/
def F194 (k : Nat) (a0 : D6) : Option (D6) :=
  (bif (decide (([] : List D0).length + a0.2.1.length < most)) then ((F260 k a0.2.2.1).bind fun r1 => some (a0.1, (([] : List D0) ++ a0.2.1), r1, a0.2.2.2.1, a0.2.2.2.2)) else none)
def S194 (k : Nat) : CSpec := { params := [U6], res := [(U6, true)], fresh := true, sem := fun x => F194 k x.1 }
theorem e194 : (fun k => evFn ((T (fun _ _ => ⟨[], [], [], false⟩) k).cx [(260, S260 k)]) 5 Tryz.f194 (S194 0).params (S194 0).res true) = fun k => (S194 k).sem := by kernel_rfl
theorem ok194 {G : World → Prop} (hG : Lasts G) (k : Nat) : (S194 k).ok Tryz.prog G 194 := fn_ok (T_ok (fun _ _ => ⟨[], [], [], false⟩) k) hG (calls := [(260, S260 k)]) ⟨ok260 hG k, trivial⟩ 5 rfl (S194 k) (congrFun e194 k)

/-- loop.example/g01402/spec.l12Copy -/
def F104 (k : Nat) (a0 : D8) : Option (D8) :=
  (iter (σ := Int × List D7 × Unit) (fun rec5 x4 => (bif (decide (x4.1 < (a0.2.2.1.length : Int))) then (bif (decide (0 ≤ x4.1 ∧ x4.1 < (a0.2.2.1.length : Int))) then (bif (decide (0 ≤ x4.1 ∧ x4.1 < (a0.2.2.1.length : Int))) then ((F194 k (a0.2.2.1.getD x4.1.toNat Z7).1).bind fun r6 => (bif (decide (x4.2.1.length + ([(r6, (a0.2.2.1.getD x4.1.toNat Z7).2)] : List D7).length < most)) then (rec5 ((wrap64 (x4.1 + (1 : Int))), (x4.2.1 ++ ([(r6, (a0.2.2.1.getD x4.1.toNat Z7).2)] : List D7)), ())) else none)) else none) else none) else some (a0.1, a0.2.1, x4.2.1, a0.2.2.2))) k ((0 : Int), ([] : List D7), ()))
def S104 (k : Nat) : CSpec := { params := [U8], res := [(U8, true)], fresh := true, sem := fun x => F104 k x.1 }
theorem e104 : (fun k => evFn ((T (fun _ _ => ⟨[3, 4], [], [3], false⟩) k).cx [(194, S194 k)]) 5 Tryz.f104 (S104 0).params (S104 0).res true) = fun k => (S104 k).sem := by kernel_rfl
theorem ok104 {G : World → Prop} (hG : Lasts G) (k : Nat) : (S104 k).ok Tryz.prog G 104 := fn_ok (T_ok (fun _ _ => ⟨[3, 4], [], [3], false⟩) k) hG (calls := [(194, S194 k)]) ⟨ok194 hG k, trivial⟩ 5 rfl (S104 k) (congrFun e104 k)

/-- loop.example/g01402/spec.l13Copy -/
def F37 (k : Nat) (a0 : D10) : Option (D10) :=
  (bif (decide (([] : List D9).length + a0.2.length < most)) then (iter (σ := Int × List D8 × Unit) (fun rec5 x4 => (bif (decide (x4.1 < (a0.1.length : Int))) then (bif (decide (0 ≤ x4.1 ∧ x4.1 < (a0.1.length : Int))) then ((F104 k (a0.1.getD x4.1.toNat Z8)).bind fun r6 => (bif (decide (x4.2.1.length + ([r6] : List D8).length < most)) then (rec5 ((wrap64 (x4.1 + (1 : Int))), (x4.2.1 ++ ([r6] : List D8)), ())) else none)) else none) else some (x4.2.1, (([] : List D9) ++ a0.2)))) k ((0 : Int), ([] : List D8), ())) else none)
def S37 (k : Nat) : CSpec := { params := [U10], res := [(U10, true)], fresh := true, sem := fun x => F37 k x.1 }
theorem e37 : (fun k => evFn ((T (fun _ _ => ⟨[4], [7], [8], false⟩) k).cx [(104, S104 k)]) 5 Tryz.f37 (S37 0).params (S37 0).res true) = fun k => (S37 k).sem := by kernel_rfl
theorem ok37 {G : World → Prop} (hG : Lasts G) (k : Nat) : (S37 k).ok Tryz.prog G 37 := fn_ok (T_ok (fun _ _ => ⟨[4], [7], [8], false⟩) k) hG (calls := [(104, S104 k)]) ⟨ok104 hG k, trivial⟩ 5 rfl (S37 k) (congrFun e37 k)

/-- loop.example/g01402/spec.l14Copy -/
def F169 (k : Nat) (a0 : D2) : Option (D2) :=
  (iter (σ := Int × List D1 × Unit) (fun rec4 x3 => (bif (decide (x3.1 < (a0.length : Int))) then (bif (decide (0 ≤ x3.1 ∧ x3.1 < (a0.length : Int))) then (bif (decide (([] : List D0).length + (a0.getD x3.1.toNat Z1).2.2.2.2.2.2.length < most)) then (bif (decide (x3.2.1.length + ([((a0.getD x3.1.toNat Z1).1, (a0.getD x3.1.toNat Z1).2.1, (a0.getD x3.1.toNat Z1).2.2.1, (a0.getD x3.1.toNat Z1).2.2.2.1, (a0.getD x3.1.toNat Z1).2.2.2.2.1, (a0.getD x3.1.toNat Z1).2.2.2.2.2.1, (([] : List D0) ++ (a0.getD x3.1.toNat Z1).2.2.2.2.2.2))] : List D1).length < most)) then (rec4 ((wrap64 (x3.1 + (1 : Int))), (x3.2.1 ++ ([((a0.getD x3.1.toNat Z1).1, (a0.getD x3.1.toNat Z1).2.1, (a0.getD x3.1.toNat Z1).2.2.1, (a0.getD x3.1.toNat Z1).2.2.2.1, (a0.getD x3.1.toNat Z1).2.2.2.2.1, (a0.getD x3.1.toNat Z1).2.2.2.2.2.1, (([] : List D0) ++ (a0.getD x3.1.toNat Z1).2.2.2.2.2.2))] : List D1)), ())) else none) else none) else none) else some x3.2.1)) k ((0 : Int), ([] : List D1), ()))
def S169 (k : Nat) : CSpec := { params := [U2], res := [(U2, true)], fresh := true, sem := fun x => F169 k x.1 }
theorem e169 : (fun k => evFn ((T (fun _ _ => ⟨[4], [4], [5], false⟩) k).cx []) 5 Tryz.f169 (S169 0).params (S169 0).res true) = fun k => (S169 k).sem := by kernel_rfl
theorem ok169 {G : World → Prop} (hG : Lasts G) (k : Nat) : (S169 k).ok Tryz.prog G 169 := fn_ok (T_ok (fun _ _ => ⟨[4], [4], [5], false⟩) k) hG (calls := []) trivial 5 rfl (S169 k) (congrFun e169 k)

/-- loop.example/g01402/spec.ConnNew -/
def F170 (k : Nat) (a0 : ByteArray) : Option (D13) :=
  (bif (decide ((1500 : Int) < (a0.size : Int))) then some (Z13.1, (ByteArray.mk #[]), Z13.2.2.1, (Z13.2.2.2.1.1, Z13.2.2.2.1.2.1, ([] : List D0), Z13.2.2.2.1.2.2.2), (Z13.2.2.2.2.1.1, Z13.2.2.2.2.1.2.1, ([] : List D0), Z13.2.2.2.2.1.2.2.2), (Z13.2.2.2.2.2.1.1, ([] : List D0), (Z13.2.2.2.2.2.1.2.2.1.1, ([] : List D0), Z13.2.2.2.2.2.1.2.2.1.2.2), Z13.2.2.2.2.2.1.2.2.2.1, Z13.2.2.2.2.2.1.2.2.2.2), Z13.2.2.2.2.2.2.1, (-1 : Int), Z13.2.2.2.2.2.2.2.2.1, Z13.2.2.2.2.2.2.2.2.2.1, Z13.2.2.2.2.2.2.2.2.2.2.1, Z13.2.2.2.2.2.2.2.2.2.2.2.1, (Z13.2.2.2.2.2.2.2.2.2.2.2.2.1.1, ([] : List D0), Z13.2.2.2.2.2.2.2.2.2.2.2.2.1.2.2), ([] : List D12)) else some (Z13.1, a0, Z13.2.2.1, (Z13.2.2.2.1.1, Z13.2.2.2.1.2.1, ([] : List D0), Z13.2.2.2.1.2.2.2), (Z13.2.2.2.2.1.1, Z13.2.2.2.2.1.2.1, ([] : List D0), Z13.2.2.2.2.1.2.2.2), (Z13.2.2.2.2.2.1.1, ([] : List D0), (Z13.2.2.2.2.2.1.2.2.1.1, ([] : List D0), Z13.2.2.2.2.2.1.2.2.1.2.2), Z13.2.2.2.2.2.1.2.2.2.1, Z13.2.2.2.2.2.1.2.2.2.2), Z13.2.2.2.2.2.2.1, (-1 : Int), Z13.2.2.2.2.2.2.2.2.1, Z13.2.2.2.2.2.2.2.2.2.1, Z13.2.2.2.2.2.2.2.2.2.2.1, Z13.2.2.2.2.2.2.2.2.2.2.2.1, (Z13.2.2.2.2.2.2.2.2.2.2.2.2.1.1, ([] : List D0), Z13.2.2.2.2.2.2.2.2.2.2.2.2.1.2.2), ([] : List D12)))
def S170 (k : Nat) : CSpec := { params := [.str], res := [(U13, true)], fresh := true, sem := fun x => F170 k x.1 }
theorem e170 : (fun k => evFn ((T (fun _ _ => ⟨[], [], [], false⟩) k).cx []) 5 Tryz.f170 (S170 0).params (S170 0).res true) = fun k => (S170 k).sem := by kernel_rfl
theorem ok170 {G : World → Prop} (hG : Lasts G) (k : Nat) : (S170 k).ok Tryz.prog G 170 := fn_ok (T_ok (fun _ _ => ⟨[], [], [], false⟩) k) hG (calls := []) trivial 5 rfl (S170 k) (congrFun e170 k)

/-- loop.example/g01402/spec.WorldNew -/
def F74 (k : Nat) (a0 : List ByteArray) (a1 : D10) (a2 : D2) : Option (D16) :=
  (bif (decide ((4 : Int) < (a0.length : Int))) then some (Z16.1, Z16.2.1, ([] : List D13), (([] : List D8), ([] : List D9)), ([] : List D14), ([] : List D1), ([] : List D15)) else ((F105 k a1).bind fun r1 => (bif (!r1) then some (Z16.1, Z16.2.1, ([] : List D13), (([] : List D8), ([] : List D9)), ([] : List D14), ([] : List D1), ([] : List D15)) else ((F168 k a2).bind fun r2 => (bif (!r2) then some (Z16.1, Z16.2.1, ([] : List D13), (([] : List D8), ([] : List D9)), ([] : List D14), ([] : List D1), ([] : List D15)) else ((F37 k a1).bind fun r3 => ((F169 k a2).bind fun r4 => (iter (σ := Int × Int × Int × List D13 × Unit) (fun rec9 x8 => (bif (decide (x8.1 < (a0.length : Int))) then (bif (decide (0 ≤ x8.1 ∧ x8.1 < (a0.length : Int))) then ((F170 k (a0.getD x8.1.toNat (ByteArray.mk #[]))).bind fun r10 => (bif (decide (x8.2.2.2.1.length + ([r10] : List D13).length < most)) then (rec9 ((wrap64 (x8.1 + (1 : Int))), x8.2.1, x8.2.2.1, (x8.2.2.2.1 ++ ([r10] : List D13)), ())) else none)) else none) else some (x8.2.1, x8.2.2.1, x8.2.2.2.1, r3, ([] : List D14), r4, ([] : List D15)))) k ((0 : Int), Z16.1, Z16.2.1, ([] : List D13), ())))))))))
def S74 (k : Nat) : CSpec := { params := [(.slice .str), U10, U2], res := [(U16, true)], fresh := true, sem := fun x => F74 k x.1 x.2.1 x.2.2.1 }
theorem e74 : (fun k => evFn ((T (fun _ _ => ⟨[8], [15], [16], false⟩) k).cx [(37, S37 k), (105, S105 k), (168, S168 k), (169, S169 k), (170, S170 k)]) 5 Tryz.f74 (S74 0).params (S74 0).res true) = fun k => (S74 k).sem := by kernel_rfl
theorem ok74 {G : World → Prop} (hG : Lasts G) (k : Nat) : (S74 k).ok Tryz.prog G 74 := fn_ok (T_ok (fun _ _ => ⟨[8], [15], [16], false⟩) k) hG (calls := [(37, S37 k), (105, S105 k), (168, S168 k), (169, S169 k), (170, S170 k)]) ⟨ok37 hG k, ok105 hG k, ok168 hG k, ok169 hG k, ok170 hG k, trivial⟩ 5 rfl (S74 k) (congrFun e74 k)

/-- loop.example/g01402/spec.Start -/
def F24 (k : Nat) (a0 : D4) : Option (D16) :=
  ((F73 k a0.2.1 a0.2.2.1 a0.2.2.2.1).bind fun r1 => ((F74 k a0.1 r1 a0.2.2.2.2.1).bind fun r2 => some r2))
def S24 (k : Nat) : CSpec := { params := [U4], res := [(U16, true)], fresh := true, sem := fun x => F24 k x.1 }
theorem e24 : (fun k => evFn ((T (fun _ _ => ⟨[], [], [], false⟩) k).cx [(73, S73 k), (74, S74 k)]) 5 Tryz.f24 (S24 0).params (S24 0).res true) = fun k => (S24 k).sem := by kernel_rfl
theorem ok24 {G : World → Prop} (hG : Lasts G) (k : Nat) : (S24 k).ok Tryz.prog G 24 := fn_ok (T_ok (fun _ _ => ⟨[], [], [], false⟩) k) hG (calls := [(73, S73 k), (74, S74 k)]) ⟨ok73 hG k, ok74 hG k, trivial⟩ 5 rfl (S24 k) (congrFun e24 k)

/-- loop.example/g01402/impl.in -/
def F176 (k : Nat) (a0 : Int) (a1 : Int) (a2 : Int) : Option (Bool) :=
  (bif (decide (a1 ≤ a0)) then some (decide (a0 ≤ a2)) else some false)
def S176 (k : Nat) : CSpec := { params := [(.int .i64), (.int .i64), (.int .i64)], res := [(.bool, false)], fresh := true, sem := fun x => F176 k x.1 x.2.1 x.2.2.1 }
theorem e176 : (fun k => evFn ((T (fun _ _ => ⟨[], [], [], false⟩) k).cx []) 5 Tryz.f176 (S176 0).params (S176 0).res true) = fun k => (S176 k).sem := by kernel_rfl
theorem ok176 {G : World → Prop} (hG : Lasts G) (k : Nat) : (S176 k).ok Tryz.prog G 176 := fn_ok (T_ok (fun _ _ => ⟨[], [], [], false⟩) k) hG (calls := []) trivial 5 rfl (S176 k) (congrFun e176 k)

/-- loop.example/g01402/impl.shardSizes -/
def F177 (k : Nat) (a0 : Int) (a1 : Int) : Option (Bool) :=
  ((F176 k a0 (1 : Int) (8 : Int)).bind fun r1 => (bif r1 then ((F176 k a1 (0 : Int) (500 : Int)).bind fun r2 => some r2) else some false))
def S177 (k : Nat) : CSpec := { params := [(.int .i64), (.int .i64)], res := [(.bool, false)], fresh := true, sem := fun x => F177 k x.1 x.2.1 }
theorem e177 : (fun k => evFn ((T (fun _ _ => ⟨[], [], [], false⟩) k).cx [(176, S176 k)]) 5 Tryz.f177 (S177 0).params (S177 0).res true) = fun k => (S177 k).sem := by kernel_rfl
theorem ok177 {G : World → Prop} (hG : Lasts G) (k : Nat) : (S177 k).ok Tryz.prog G 177 := fn_ok (T_ok (fun _ _ => ⟨[], [], [], false⟩) k) hG (calls := [(176, S176 k)]) ⟨ok176 hG k, trivial⟩ 5 rfl (S177 k) (congrFun e177 k)

/-- loop.example/g01402/impl.ShardNew -/
def F179 (k : Nat) (a0 : Int) (a1 : Int) : Option (D8) :=
  ((F177 k a0 a1).bind fun r1 => (bif (!r1) then some (Z8.1, Z8.2.1, ([] : List D7), Z8.2.2.2) else some (a0, a1, ([] : List D7), Z8.2.2.2)))
def S179 (k : Nat) : CSpec := { params := [(.int .i64), (.int .i64)], res := [(U8, true)], fresh := true, sem := fun x => F179 k x.1 x.2.1 }
theorem e179 : (fun k => evFn ((T (fun _ _ => ⟨[], [], [], false⟩) k).cx [(177, S177 k)]) 5 Tryz.f179 (S179 0).params (S179 0).res true) = fun k => (S179 k).sem := by kernel_rfl
theorem ok179 {G : World → Prop} (hG : Lasts G) (k : Nat) : (S179 k).ok Tryz.prog G 179 := fn_ok (T_ok (fun _ _ => ⟨[], [], [], false⟩) k) hG (calls := [(177, S177 k)]) ⟨ok177 hG k, trivial⟩ 5 rfl (S179 k) (congrFun e179 k)

/-- math/bits.Mul -/
def S252 (k : Nat) : CSpec := { params := [(.int .u64), (.int .u64)], res := [((.int .u64), false), ((.int .u64), false)], fresh := true, sem := fun x => semMul x.1 x.2.1 }
theorem ok252 {G : World → Prop} (hG : Lasts G) (k : Nat) : (S252 k).ok Tryz.prog G 252 := ok_Mul Tryz.func252 (by kernel_rfl) (by kernel_rfl) Tryz.bits_Mul

/-- slices.Repeat[[]loop.example/g01402/impl.Shard,loop.example/g01402/impl.Shard] -/
def P178 (k : Nat) (a0 : List D8) (a1 : Int) : Option (V × V × List Blk) :=
  (bif (decide (a1 < (0 : Int))) then none else ((semMul (wr .u64 ((a0.length : Int))) (wr .u64 (a1))).bind fun r1 => (bif (decide ((0 : Int) < r1.1)) then none else (bif (decide ((9223372036854775807 : Int) < r1.2)) then none else (bif (decide (0 ≤ (wrap64 (r1.2)) ∧ (wrap64 (r1.2)) = (wrap64 (r1.2)) ∧ (wrap64 (r1.2)) < (most : Int))) then some (V.at (A.os 1 0), V.at (A.sl false U8 a0), [Blk.arr 0 true true U8 [], Blk.arr 0 true true U8 (List.replicate (wrap64 (r1.2)).toNat Z8)]) else none)))))
def S178 (k : Nat) : CSpec := repSpec U8
noncomputable def R178 : RepCode := repCode (Tryz.f178.body.getD .skip)
theorem p178 : (fun k (x : D8) a1 => evRep ((T (fun _ _ => ⟨[], [], [], false⟩) k).cx [(252, S252 k)]) (evInl ((T (fun _ _ => ⟨[], [], [], false⟩) k).cx [(252, S252 k)]) 5) R178.c0 R178.c1 R178.c2 R178.c3 R178.c4 { tmps := enter 48 (giveArgs [.slice U8, .int .i64] ([x], a1, ())), bl := [], lock := [] }) = fun k x a1 => P178 k [x] a1 := by kernel_rfl
theorem q178 (k : Nat) (l : List D8) (n : Int) (h0 : l.length = 1) (h1 : 1 ≤ n) (h2 : n ≤ 1000) : P178 k l n = some (V.at (A.os 1 0), V.at (A.sl false U8 l), [Blk.arr 0 true true U8 [], Blk.arr 0 true true U8 (List.replicate n.toNat (Ty.zero U8))]) := by
  unfold P178
  exact rep_pre (e := U8) h0 h1 h2
theorem ok178 {G : World → Prop} (hG : Lasts G) (k : Nat) : (S178 k).ok Tryz.prog G 178 := rep_ok (Tabs.good (T_ok (fun _ _ => ⟨[], [], [], false⟩) k) hG (calls := [(252, S252 k)]) ⟨ok252 hG k, trivial⟩) 5 (f := 178) (fn := Tryz.f178) rfl (e := U8) (tS := 29) (tI := 3) rfl (c := R178) (by kernel_rfl) (by kernel_rfl) (by kernel_rfl) (by kernel_rfl) (by kernel_rfl) (by kernel_rfl) (by kernel_rfl) (by kernel_rfl) (fun l n h0 h1 h2 => by
  match l, h0 with
  | [x], h0 => exact (congrFun (congrFun (congrFun p178 k) x) n).trans (q178 k [x] n h0 h1 h2))

/-- loop.example/g01402/impl.CacheNew -/
def F79 (k : Nat) (a0 : Int) (a1 : Int) (a2 : Int) : Option (D10) :=
  ((F176 k a0 (1 : Int) (4 : Int)).bind fun r1 => (bif (!r1) then some (([] : List D8), ([] : List D9)) else ((F177 k a1 a2).bind fun r2 => (bif (!r2) then some (([] : List D8), ([] : List D9)) else ((F179 k a1 a2).bind fun r3 => ((semRepeat U8 ([r3] : List D8) a0).bind fun r4 => some (r4, ([] : List D9))))))))
def S79 (k : Nat) : CSpec := { params := [(.int .i64), (.int .i64), (.int .i64)], res := [(U10, false)], fresh := false, sem := fun x => F79 k x.1 x.2.1 x.2.2.1 }
theorem e79 : (fun k => evFn ((T (fun _ _ => ⟨[], [], [], false⟩) k).cx [(176, S176 k), (177, S177 k), (178, S178 k), (179, S179 k)]) 5 Tryz.f79 (S79 0).params (S79 0).res false) = fun k => (S79 k).sem := by kernel_rfl
theorem ok79 {G : World → Prop} (hG : Lasts G) (k : Nat) : (S79 k).ok Tryz.prog G 79 := fn_ok (T_ok (fun _ _ => ⟨[], [], [], false⟩) k) hG (calls := [(176, S176 k), (177, S177 k), (178, S178 k), (179, S179 k)]) ⟨ok176 hG k, ok177 hG k, ok178 hG k, ok179 hG k, trivial⟩ 5 rfl (S79 k) (congrFun e79 k)

/-- loop.example/g01402/impl.UriOk -/
def F128 (k : Nat) (a0 : ByteArray) : Option (Bool) :=
  (iter (σ := Int × Unit) (fun rec4 x3 => (bif (decide (x3.1 < (a0.size : Int))) then (bif (decide (0 ≤ x3.1 ∧ x3.1 < (a0.size : Int))) then (bif (decide ((bt a0 x3.1) < (33 : Int))) then some false else (bif (decide (0 ≤ x3.1 ∧ x3.1 < (a0.size : Int))) then (bif (decide ((126 : Int) < (bt a0 x3.1))) then some false else (rec4 ((wrap64 (x3.1 + (1 : Int))), ()))) else none)) else none) else ((F176 k (a0.size : Int) (1 : Int) (20 : Int)).bind fun r5 => (bif r5 then (bif (decide (0 ≤ (0 : Int) ∧ (0 : Int) < (a0.size : Int))) then some (decide ((bt a0 (0 : Int)) = (47 : Int))) else none) else some false)))) k ((0 : Int), ()))
def S128 (k : Nat) : CSpec := { params := [.str], res := [(.bool, false)], fresh := true, sem := fun x => F128 k x.1 }
theorem e128 : (fun k => evFn ((T (fun _ _ => ⟨[6], [], [], false⟩) k).cx [(176, S176 k)]) 5 Tryz.f128 (S128 0).params (S128 0).res true) = fun k => (S128 k).sem := by kernel_rfl
theorem ok128 {G : World → Prop} (hG : Lasts G) (k : Nat) : (S128 k).ok Tryz.prog G 128 := fn_ok (T_ok (fun _ _ => ⟨[6], [], [], false⟩) k) hG (calls := [(176, S176 k)]) ⟨ok176 hG k, trivial⟩ 5 rfl (S128 k) (congrFun e128 k)

/-- loop.example/g01402/impl.isLetterOrDigit -/
def F340 (k : Nat) (a0 : Int) : Option (Bool) :=
  (bif (decide ((97 : Int) ≤ a0)) then (bif (decide (a0 ≤ (122 : Int))) then some true else (bif (decide ((65 : Int) ≤ a0)) then (bif (decide (a0 ≤ (90 : Int))) then some true else (bif (decide ((48 : Int) ≤ a0)) then some (decide (a0 ≤ (57 : Int))) else some false)) else (bif (decide ((48 : Int) ≤ a0)) then some (decide (a0 ≤ (57 : Int))) else some false))) else (bif (decide ((65 : Int) ≤ a0)) then (bif (decide (a0 ≤ (90 : Int))) then some true else (bif (decide ((48 : Int) ≤ a0)) then some (decide (a0 ≤ (57 : Int))) else some false)) else (bif (decide ((48 : Int) ≤ a0)) then some (decide (a0 ≤ (57 : Int))) else some false)))
def S340 (k : Nat) : CSpec := { params := [(.int .u8)], res := [(.bool, false)], fresh := true, sem := fun x => F340 k x.1 }
theorem e340 : (fun k => evFn ((T (fun _ _ => ⟨[], [], [], false⟩) k).cx []) 5 Tryz.f340 (S340 0).params (S340 0).res true) = fun k => (S340 k).sem := by kernel_rfl
theorem ok340 {G : World → Prop} (hG : Lasts G) (k : Nat) : (S340 k).ok Tryz.prog G 340 := fn_ok (T_ok (fun _ _ => ⟨[], [], [], false⟩) k) hG (calls := []) trivial 5 rfl (S340 k) (congrFun e340 k)

/-- strings.IndexByte -/
def S309 (k : Nat) : CSpec := { params := [.str, (.int .u8)], res := [((.int .i64), false)], fresh := true, sem := fun x => semIndexByte x.1 x.2.1 }
theorem ok309 {G : World → Prop} (hG : Lasts G) (k : Nat) : (S309 k).ok Tryz.prog G 309 := ok_IndexByte Tryz.func309 (by kernel_rfl) (by kernel_rfl) Tryz.strings_IndexByte

/-- loop.example/g01402/impl.IsTokenText -/
def F314 (k : Nat) (a0 : ByteArray) : Option (Bool) :=
  (iter (σ := Int × Unit) (fun rec6 x5 => (bif (decide (x5.1 < (a0.size : Int))) then (bif (decide (0 ≤ x5.1 ∧ x5.1 < (a0.size : Int))) then ((F340 k (bt a0 x5.1)).bind fun r7 => (bif (!r7) then (bif (decide (0 ≤ x5.1 ∧ x5.1 < (a0.size : Int))) then ((semIndexByte (ByteArray.mk #[33, 35, 36, 37, 38, 39, 42, 43, 45, 46, 94, 95, 124, 126, 96]) (bt a0 x5.1)).bind fun r8 => (bif (decide (r8 < (0 : Int))) then some false else (rec6 ((wrap64 (x5.1 + (1 : Int))), ())))) else none) else (rec6 ((wrap64 (x5.1 + (1 : Int))), ())))) else none) else some (!decide (a0 = (ByteArray.mk #[]))))) k ((0 : Int), ()))
def S314 (k : Nat) : CSpec := { params := [.str], res := [(.bool, false)], fresh := true, sem := fun x => F314 k x.1 }
theorem e314 : (fun k => evFn ((T (fun _ _ => ⟨[6], [], [], false⟩) k).cx [(309, S309 k), (340, S340 k)]) 5 Tryz.f314 (S314 0).params (S314 0).res true) = fun k => (S314 k).sem := by kernel_rfl
theorem ok314 {G : World → Prop} (hG : Lasts G) (k : Nat) : (S314 k).ok Tryz.prog G 314 := fn_ok (T_ok (fun _ _ => ⟨[6], [], [], false⟩) k) hG (calls := [(309, S309 k), (340, S340 k)]) ⟨ok309 hG k, ok340 hG k, trivial⟩ 5 rfl (S314 k) (congrFun e314 k)

/-- loop.example/g01402/impl.Lower -/
def F243 (k : Nat) (a0 : ByteArray) : Option (ByteArray) :=
  (iter (σ := Int × List Int × Unit) (fun rec4 x3 => (bif (decide (x3.1 < ((bytesOf a0).length : Int))) then (bif (decide (0 ≤ x3.1 ∧ x3.1 < (x3.2.1.length : Int))) then (bif (decide ((65 : Int) ≤ (x3.2.1.getD x3.1.toNat (0 : Int)))) then (bif (decide ((x3.2.1.getD x3.1.toNat (0 : Int)) ≤ (90 : Int))) then (bif (decide (0 ≤ x3.1 ∧ x3.1 < (x3.2.1.length : Int))) then (rec4 ((wrap64 (x3.1 + (1 : Int))), (x3.2.1.set x3.1.toNat (wr .u8 ((wr .u8 ((x3.2.1.getD x3.1.toNat (0 : Int)) + (97 : Int))) - (65 : Int)))), ())) else none) else (rec4 ((wrap64 (x3.1 + (1 : Int))), x3.2.1, ()))) else (rec4 ((wrap64 (x3.1 + (1 : Int))), x3.2.1, ()))) else none) else some (strOf x3.2.1))) k ((0 : Int), (bytesOf a0), ()))
def S243 (k : Nat) : CSpec := { params := [.str], res := [(.str, false)], fresh := true, sem := fun x => F243 k x.1 }
theorem e243 : (fun k => evFn ((T (fun _ _ => ⟨[10], [0], [], false⟩) k).cx []) 5 Tryz.f243 (S243 0).params (S243 0).res true) = fun k => (S243 k).sem := by kernel_rfl
theorem ok243 {G : World → Prop} (hG : Lasts G) (k : Nat) : (S243 k).ok Tryz.prog G 243 := fn_ok (T_ok (fun _ _ => ⟨[10], [0], [], false⟩) k) hG (calls := []) trivial 5 rfl (S243 k) (congrFun e243 k)

/-- strings.Trim -/
def S313 (k : Nat) : CSpec := { params := [.str, .str], res := [(.str, false)], fresh := true, sem := fun x => semTrim x.1 x.2.1 }
theorem ok313 {G : World → Prop} (hG : Lasts G) (k : Nat) : (S313 k).ok Tryz.prog G 313 := ok_Trim Tryz.func313 (by kernel_rfl) (by kernel_rfl) (fun s cs w h1 h2 h3 => Any.strings_Trim_laid Tryz.laysT160 (by kernel_rfl) s cs w h1 h2 h3)

/-- loop.example/g01402/impl.Trim -/
def F284 (k : Nat) (a0 : ByteArray) : Option (ByteArray) :=
  ((semTrim a0 (ByteArray.mk #[32, 9])).bind fun r1 => some r1)
def S284 (k : Nat) : CSpec := { params := [.str], res := [(.str, false)], fresh := true, sem := fun x => F284 k x.1 }
theorem e284 : (fun k => evFn ((T (fun _ _ => ⟨[], [], [], false⟩) k).cx [(313, S313 k)]) 5 Tryz.f284 (S284 0).params (S284 0).res true) = fun k => (S284 k).sem := by kernel_rfl
theorem ok284 {G : World → Prop} (hG : Lasts G) (k : Nat) : (S284 k).ok Tryz.prog G 284 := fn_ok (T_ok (fun _ _ => ⟨[], [], [], false⟩) k) hG (calls := [(313, S313 k)]) ⟨ok313 hG k, trivial⟩ 5 rfl (S284 k) (congrFun e284 k)

/-- loop.example/g01402/impl.IsValueText -/
def F315 (k : Nat) (a0 : ByteArray) : Option (Bool) :=
  (iter (σ := Int × Unit) (fun rec4 x3 => (bif (decide (x3.1 < (a0.size : Int))) then (bif (decide (0 ≤ x3.1 ∧ x3.1 < (a0.size : Int))) then (bif (decide ((bt a0 x3.1) < (32 : Int))) then (bif (decide (0 ≤ x3.1 ∧ x3.1 < (a0.size : Int))) then (bif (!decide ((bt a0 x3.1) = (9 : Int))) then some false else (bif (decide (0 ≤ x3.1 ∧ x3.1 < (a0.size : Int))) then (bif (decide ((bt a0 x3.1) = (127 : Int))) then some false else (rec4 ((wrap64 (x3.1 + (1 : Int))), ()))) else none)) else none) else (bif (decide (0 ≤ x3.1 ∧ x3.1 < (a0.size : Int))) then (bif (decide ((bt a0 x3.1) = (127 : Int))) then some false else (rec4 ((wrap64 (x3.1 + (1 : Int))), ()))) else none)) else none) else ((F284 k a0).bind fun r5 => some (decide (r5 = a0))))) k ((0 : Int), ()))
def S315 (k : Nat) : CSpec := { params := [.str], res := [(.bool, false)], fresh := true, sem := fun x => F315 k x.1 }
theorem e315 : (fun k => evFn ((T (fun _ _ => ⟨[6], [], [], false⟩) k).cx [(284, S284 k)]) 5 Tryz.f315 (S315 0).params (S315 0).res true) = fun k => (S315 k).sem := by kernel_rfl
theorem ok315 {G : World → Prop} (hG : Lasts G) (k : Nat) : (S315 k).ok Tryz.prog G 315 := fn_ok (T_ok (fun _ _ => ⟨[6], [], [], false⟩) k) hG (calls := [(284, S284 k)]) ⟨ok284 hG k, trivial⟩ 5 rfl (S315 k) (congrFun e315 k)

/-- loop.example/g01402/impl.fieldOk -/
def F285 (k : Nat) (a0 : D0) : Option (Bool) :=
  ((F314 k a0.1).bind fun r1 => (bif r1 then (bif (decide ((a0.1.size : Int) ≤ (24 : Int))) then ((F243 k a0.1).bind fun r2 => (bif (decide (r2 = a0.1)) then ((F315 k a0.2).bind fun r3 => (bif r3 then some (decide ((a0.2.size : Int) ≤ (60 : Int))) else some false)) else some false)) else some false) else some false))
def S285 (k : Nat) : CSpec := { params := [U0], res := [(.bool, false)], fresh := true, sem := fun x => F285 k x.1 }
theorem e285 : (fun k => evFn ((T (fun _ _ => ⟨[], [], [], false⟩) k).cx [(243, S243 k), (314, S314 k), (315, S315 k)]) 5 Tryz.f285 (S285 0).params (S285 0).res true) = fun k => (S285 k).sem := by kernel_rfl
theorem ok285 {G : World → Prop} (hG : Lasts G) (k : Nat) : (S285 k).ok Tryz.prog G 285 := fn_ok (T_ok (fun _ _ => ⟨[], [], [], false⟩) k) hG (calls := [(243, S243 k), (314, S314 k), (315, S315 k)]) ⟨ok243 hG k, ok314 hG k, ok315 hG k, trivial⟩ 5 rfl (S285 k) (congrFun e285 k)

/-- loop.example/g01402/impl.FieldsOk$1 -/
def F324 (k : Nat) (a0 : D0) : Option (Bool) :=
  ((F285 k a0).bind fun r1 => some (!r1))
def S324 (k : Nat) : CSpec := { params := [U0], res := [(.bool, false)], fresh := true, sem := fun x => F324 k x.1 }
theorem e324 : (fun k => evFn ((T (fun _ _ => ⟨[], [], [], false⟩) k).cx [(285, S285 k)]) 5 Tryz.f324 (S324 0).params (S324 0).res true) = fun k => (S324 k).sem := by kernel_rfl
theorem ok324 {G : World → Prop} (hG : Lasts G) (k : Nat) : (S324 k).ok Tryz.prog G 324 := fn_ok (T_ok (fun _ _ => ⟨[], [], [], false⟩) k) hG (calls := [(285, S285 k)]) ⟨ok285 hG k, trivial⟩ 5 rfl (S324 k) (congrFun e324 k)

/-- loop.example/g01402/impl.FieldsOk -/
def F291 (k : Nat) (a0 : List D0) : Option (Bool) :=
  (bif (decide ((a0.length : Int) ≤ (12 : Int))) then (iter (σ := Int × Unit) (fun rec5 x4 => (bif (decide (x4.1 < (a0.length : Int))) then (bif (decide (0 ≤ x4.1 ∧ x4.1 < (a0.length : Int))) then ((F324 k (a0.getD x4.1.toNat Z0)).bind fun r6 => (bif r6 then some (!(decide ((0 : Int) ≤ x4.1))) else (rec5 ((wrap64 (x4.1 + (1 : Int))), ())))) else none) else some (!(decide ((0 : Int) ≤ (-1 : Int)))))) k ((0 : Int), ())) else some false)
def S291 (k : Nat) : CSpec := { params := [(.slice U0)], res := [(.bool, false)], fresh := true, sem := fun x => F291 k x.1 }
theorem e291 : (fun k => evFn ((T (fun _ _ => ⟨[8], [], [], false⟩) k).cx [(324, S324 k)]) 5 Tryz.f291 (S291 0).params (S291 0).res true) = fun k => (S291 k).sem := by kernel_rfl
theorem ok291 {G : World → Prop} (hG : Lasts G) (k : Nat) : (S291 k).ok Tryz.prog G 291 := fn_ok (T_ok (fun _ _ => ⟨[8], [], [], false⟩) k) hG (calls := [(324, S324 k)]) ⟨ok324 hG k, trivial⟩ 5 rfl (S291 k) (congrFun e291 k)

/-- strings.Join -/
def S190 (k : Nat) : CSpec := { params := [(.slice .str), .str], res := [(.str, false)], fresh := true, sem := fun x => semJoin x.1 x.2.1 }
theorem ok190 {G : World → Prop} (hG : Lasts G) (k : Nat) : (S190 k).ok Tryz.prog G 190 := ok_Join Tryz.func190 (by kernel_rfl) (by kernel_rfl) Tryz.strings_Join_none Tryz.strings_Join

/-- loop.example/g01402/impl.FieldGet -/
def F242 (k : Nat) (a0 : List D0) (a1 : ByteArray) : Option (ByteArray × Bool) :=
  (iter (σ := Int × List ByteArray × Unit) (fun rec4 x3 => (bif (decide (x3.1 < (a0.length : Int))) then (bif (decide (0 ≤ x3.1 ∧ x3.1 < (a0.length : Int))) then (bif (decide ((a0.getD x3.1.toNat Z0).1 = a1)) then (bif (decide (x3.2.1.length + ([(a0.getD x3.1.toNat Z0).2] : List ByteArray).length < most)) then (rec4 ((wrap64 (x3.1 + (1 : Int))), (x3.2.1 ++ ([(a0.getD x3.1.toNat Z0).2] : List ByteArray)), ())) else none) else (rec4 ((wrap64 (x3.1 + (1 : Int))), x3.2.1, ()))) else none) else ((semJoin x3.2.1 (ByteArray.mk #[44, 32])).bind fun r5 => some (r5, (decide ((0 : Int) < (x3.2.1.length : Int))))))) k ((0 : Int), ([] : List ByteArray), ()))
def S242 (k : Nat) : CSpec := { params := [(.slice U0), .str], res := [(.str, false), (.bool, false)], fresh := true, sem := fun x => F242 k x.1 x.2.1 }
theorem e242 : (fun k => evFn ((T (fun _ _ => ⟨[6, 12], [], [0], false⟩) k).cx [(190, S190 k)]) 5 Tryz.f242 (S242 0).params (S242 0).res true) = fun k => (S242 k).sem := by kernel_rfl
theorem ok242 {G : World → Prop} (hG : Lasts G) (k : Nat) : (S242 k).ok Tryz.prog G 242 := fn_ok (T_ok (fun _ _ => ⟨[6, 12], [], [0], false⟩) k) hG (calls := [(190, S190 k)]) ⟨ok190 hG k, trivial⟩ 5 rfl (S242 k) (congrFun e242 k)

/-- loop.example/g01402/impl.hasField -/
def F325 (k : Nat) (a0 : List D0) (a1 : ByteArray) : Option (Bool) :=
  ((F242 k a0 a1).bind fun r1 => some r1.2)
def S325 (k : Nat) : CSpec := { params := [(.slice U0), .str], res := [(.bool, false)], fresh := true, sem := fun x => F325 k x.1 x.2.1 }
theorem e325 : (fun k => evFn ((T (fun _ _ => ⟨[], [], [], false⟩) k).cx [(242, S242 k)]) 5 Tryz.f325 (S325 0).params (S325 0).res true) = fun k => (S325 k).sem := by kernel_rfl
theorem ok325 {G : World → Prop} (hG : Lasts G) (k : Nat) : (S325 k).ok Tryz.prog G 325 := fn_ok (T_ok (fun _ _ => ⟨[], [], [], false⟩) k) hG (calls := [(242, S242 k)]) ⟨ok242 hG k, trivial⟩ 5 rfl (S325 k) (congrFun e325 k)

/-- loop.example/g01402/impl.bodyFields -/
def F292 (k : Nat) (a0 : List D0) : Option (Bool) :=
  ((F325 k a0 (ByteArray.mk #[99, 111, 110, 116, 101, 110, 116, 45, 108, 101, 110, 103, 116, 104])).bind fun r1 => (bif r1 then some true else ((F325 k a0 (ByteArray.mk #[116, 114, 97, 110, 115, 102, 101, 114, 45, 101, 110, 99, 111, 100, 105, 110, 103])).bind fun r2 => some r2)))
def S292 (k : Nat) : CSpec := { params := [(.slice U0)], res := [(.bool, false)], fresh := true, sem := fun x => F292 k x.1 }
theorem e292 : (fun k => evFn ((T (fun _ _ => ⟨[], [], [], false⟩) k).cx [(325, S325 k)]) 5 Tryz.f292 (S292 0).params (S292 0).res true) = fun k => (S292 k).sem := by kernel_rfl
theorem ok292 {G : World → Prop} (hG : Lasts G) (k : Nat) : (S292 k).ok Tryz.prog G 292 := fn_ok (T_ok (fun _ _ => ⟨[], [], [], false⟩) k) hG (calls := [(325, S325 k)]) ⟨ok325 hG k, trivial⟩ 5 rfl (S292 k) (congrFun e292 k)

/-- loop.example/g01402/impl.ownFields -/
def F241 (k : Nat) (a0 : List D0) : Option (Bool) :=
  ((F291 k a0).bind fun r1 => (bif r1 then (bif (decide ((a0.length : Int) < (12 : Int))) then ((F292 k a0).bind fun r2 => some (!r2)) else some false) else some false))
def S241 (k : Nat) : CSpec := { params := [(.slice U0)], res := [(.bool, false)], fresh := true, sem := fun x => F241 k x.1 }
theorem e241 : (fun k => evFn ((T (fun _ _ => ⟨[], [], [], false⟩) k).cx [(291, S291 k), (292, S292 k)]) 5 Tryz.f241 (S241 0).params (S241 0).res true) = fun k => (S241 k).sem := by kernel_rfl
theorem ok241 {G : World → Prop} (hG : Lasts G) (k : Nat) : (S241 k).ok Tryz.prog G 241 := fn_ok (T_ok (fun _ _ => ⟨[], [], [], false⟩) k) hG (calls := [(291, S291 k), (292, S292 k)]) ⟨ok291 hG k, ok292 hG k, trivial⟩ 5 rfl (S241 k) (congrFun e241 k)

/-- loop.example/g01402/impl.bodiless -/
def F157 (k : Nat) (a0 : Int) : Option (Bool) :=
  (bif (decide (a0 = (204 : Int))) then some true else some (decide (a0 = (304 : Int))))
def S157 (k : Nat) : CSpec := { params := [(.int .i64)], res := [(.bool, false)], fresh := true, sem := fun x => F157 k x.1 }
theorem e157 : (fun k => evFn ((T (fun _ _ => ⟨[], [], [], false⟩) k).cx []) 5 Tryz.f157 (S157 0).params (S157 0).res true) = fun k => (S157 k).sem := by kernel_rfl
theorem ok157 {G : World → Prop} (hG : Lasts G) (k : Nat) : (S157 k).ok Tryz.prog G 157 := fn_ok (T_ok (fun _ _ => ⟨[], [], [], false⟩) k) hG (calls := []) trivial 5 rfl (S157 k) (congrFun e157 k)

/-- loop.example/g01402/impl.ResponseOk -/
def F156 (k : Nat) (a0 : D5) : Option (Bool) :=
  ((F176 k a0.1 (200 : Int) (599 : Int)).bind fun r1 => (bif r1 then ((F241 k a0.2.1).bind fun r2 => (bif r2 then (bif (decide ((a0.2.2.size : Int) ≤ (60 : Int))) then (bif (decide (a0.2.2 = (ByteArray.mk #[]))) then some true else ((F157 k a0.1).bind fun r3 => some (!r3))) else some false) else some false)) else some false))
def S156 (k : Nat) : CSpec := { params := [U5], res := [(.bool, false)], fresh := true, sem := fun x => F156 k x.1 }
theorem e156 : (fun k => evFn ((T (fun _ _ => ⟨[], [], [], false⟩) k).cx [(157, S157 k), (176, S176 k), (241, S241 k)]) 5 Tryz.f156 (S156 0).params (S156 0).res true) = fun k => (S156 k).sem := by kernel_rfl
theorem ok156 {G : World → Prop} (hG : Lasts G) (k : Nat) : (S156 k).ok Tryz.prog G 156 := fn_ok (T_ok (fun _ _ => ⟨[], [], [], false⟩) k) hG (calls := [(157, S157 k), (176, S176 k), (241, S241 k)]) ⟨ok157 hG k, ok176 hG k, ok241 hG k, trivial⟩ 5 rfl (S156 k) (congrFun e156 k)

/-- loop.example/g01402/impl.StoredOk -/
def F125 (k : Nat) (a0 : D6) : Option (Bool) :=
  ((F128 k a0.1).bind fun r1 => (bif r1 then ((F156 k a0.2.2.1).bind fun r2 => (bif r2 then ((F176 k a0.2.2.2.1 (0 : Int) (2000000000 : Int)).bind fun r3 => (bif r3 then ((F176 k a0.2.2.2.2 a0.2.2.2.1 (2000000000 : Int)).bind fun r4 => (bif r4 then some (decide ((a0.2.1.length : Int) ≤ (12 : Int))) else some false)) else some false)) else some false)) else some false))
def S125 (k : Nat) : CSpec := { params := [U6], res := [(.bool, false)], fresh := true, sem := fun x => F125 k x.1 }
theorem e125 : (fun k => evFn ((T (fun _ _ => ⟨[], [], [], false⟩) k).cx [(128, S128 k), (156, S156 k), (176, S176 k)]) 5 Tryz.f125 (S125 0).params (S125 0).res true) = fun k => (S125 k).sem := by kernel_rfl
theorem ok125 {G : World → Prop} (hG : Lasts G) (k : Nat) : (S125 k).ok Tryz.prog G 125 := fn_ok (T_ok (fun _ _ => ⟨[], [], [], false⟩) k) hG (calls := [(128, S128 k), (156, S156 k), (176, S176 k)]) ⟨ok128 hG k, ok156 hG k, ok176 hG k, trivial⟩ 5 rfl (S125 k) (congrFun e125 k)

/-- slices.Equal[[]loop.example/g01402/impl.Field,loop.example/g01402/impl.Field] -/
def F302 (k : Nat) (a0 : List D0) (a1 : List D0) : Option (Bool) :=
  (bif (!decide ((a0.length : Int) = (a1.length : Int))) then some false else (iter (σ := Int × Unit) (fun rec4 x3 => (bif (decide (x3.1 < (a0.length : Int))) then (bif (decide (0 ≤ x3.1 ∧ x3.1 < (a0.length : Int))) then (bif (decide (0 ≤ x3.1 ∧ x3.1 < (a1.length : Int))) then (bif (!((decide ((a0.getD x3.1.toNat Z0).1 = (a1.getD x3.1.toNat Z0).1)) && (decide ((a0.getD x3.1.toNat Z0).2 = (a1.getD x3.1.toNat Z0).2)))) then some false else (rec4 ((wrap64 (x3.1 + (1 : Int))), ()))) else none) else none) else some true)) k ((0 : Int), ())))
def S302 (k : Nat) : CSpec := { params := [(.slice U0), (.slice U0)], res := [(.bool, false)], fresh := true, sem := fun x => F302 k x.1 x.2.1 }
theorem e302 : (fun k => evFn ((T (fun _ _ => ⟨[13], [], [], false⟩) k).cx []) 5 Tryz.f302 (S302 0).params (S302 0).res true) = fun k => (S302 k).sem := by kernel_rfl
theorem ok302 {G : World → Prop} (hG : Lasts G) (k : Nat) : (S302 k).ok Tryz.prog G 302 := fn_ok (T_ok (fun _ _ => ⟨[13], [], [], false⟩) k) hG (calls := []) trivial 5 rfl (S302 k) (congrFun e302 k)

/-- loop.example/g01402/impl.SameFields -/
def F268 (k : Nat) (a0 : List D0) (a1 : List D0) : Option (Bool) :=
  ((F302 k a0 a1).bind fun r1 => some r1)
def S268 (k : Nat) : CSpec := { params := [(.slice U0), (.slice U0)], res := [(.bool, false)], fresh := true, sem := fun x => F268 k x.1 x.2.1 }
theorem e268 : (fun k => evFn ((T (fun _ _ => ⟨[], [], [], false⟩) k).cx [(302, S302 k)]) 5 Tryz.f268 (S268 0).params (S268 0).res true) = fun k => (S268 k).sem := by kernel_rfl
theorem ok268 {G : World → Prop} (hG : Lasts G) (k : Nat) : (S268 k).ok Tryz.prog G 268 := fn_ok (T_ok (fun _ _ => ⟨[], [], [], false⟩) k) hG (calls := [(302, S302 k)]) ⟨ok302 hG k, trivial⟩ 5 rfl (S268 k) (congrFun e268 k)

/-- loop.example/g01402/impl.standAlike -/
def F213 (k : Nat) (a0 : D6) (a1 : D6) : Option (Bool) :=
  (bif (decide (a0.1 = a1.1)) then ((F268 k a0.2.1 a1.2.1).bind fun r1 => some r1) else some false)
def S213 (k : Nat) : CSpec := { params := [U6, U6], res := [(.bool, false)], fresh := true, sem := fun x => F213 k x.1 x.2.1 }
theorem e213 : (fun k => evFn ((T (fun _ _ => ⟨[], [], [], false⟩) k).cx [(268, S268 k)]) 5 Tryz.f213 (S213 0).params (S213 0).res true) = fun k => (S213 k).sem := by kernel_rfl
theorem ok213 {G : World → Prop} (hG : Lasts G) (k : Nat) : (S213 k).ok Tryz.prog G 213 := fn_ok (T_ok (fun _ _ => ⟨[], [], [], false⟩) k) hG (calls := [(268, S268 k)]) ⟨ok268 hG k, trivial⟩ 5 rfl (S213 k) (congrFun e213 k)

/-- loop.example/g01402/impl.bodies -/
def F214 (k : Nat) (a0 : List D7) : Option (Int) :=
  (iter (σ := Int × Int × Unit) (fun rec4 x3 => (bif (decide (x3.2.1 < (a0.length : Int))) then (bif (decide (0 ≤ x3.2.1 ∧ x3.2.1 < (a0.length : Int))) then (rec4 ((wrap64 (x3.1 + ((a0.getD x3.2.1.toNat Z7).1.2.2.1.2.2.size : Int))), (wrap64 (x3.2.1 + (1 : Int))), ())) else none) else some x3.1)) k ((0 : Int), (0 : Int), ()))
def S214 (k : Nat) : CSpec := { params := [(.slice U7)], res := [((.int .i64), false)], fresh := true, sem := fun x => F214 k x.1 }
theorem e214 : (fun k => evFn ((T (fun _ _ => ⟨[3, 8], [], [], false⟩) k).cx []) 5 Tryz.f214 (S214 0).params (S214 0).res true) = fun k => (S214 k).sem := by kernel_rfl
theorem ok214 {G : World → Prop} (hG : Lasts G) (k : Nat) : (S214 k).ok Tryz.prog G 214 := fn_ok (T_ok (fun _ _ => ⟨[3, 8], [], [], false⟩) k) hG (calls := []) trivial 5 rfl (S214 k) (congrFun e214 k)

/-- loop.example/g01402/impl.ShardOk -/
def F206 (k : Nat) (a0 : D8) : Option (Bool) :=
  ((F177 k a0.1 a0.2.1).bind fun r1 => (bif (!r1) then some false else (bif (decide (a0.1 < (a0.2.2.1.length : Int))) then some false else (bif (!decide (a0.2.2.2 = (0 : Int))) then ((F176 k a0.2.2.2 (0 : Int) (wrap64 ((a0.2.2.1.length : Int) - (1 : Int)))).bind fun r2 => (bif (!r2) then some false else (iter (σ := Int × Unit) (fun rec13 x12 => (bif (decide (x12.1 < (a0.2.2.1.length : Int))) then (bif (decide (0 ≤ x12.1 ∧ x12.1 < (a0.2.2.1.length : Int))) then ((F125 k (a0.2.2.1.getD x12.1.toNat Z7).1).bind fun r14 => (bif (!r14) then some false else (bif (decide (0 ≤ (0 : Int) ∧ (0 : Int) ≤ x12.1 ∧ x12.1 ≤ (a0.2.2.1.length : Int))) then (iter (σ := Int × Unit) (fun rec19 x18 => (bif (decide (x18.1 < (((a0.2.2.1.drop (0 : Int).toNat).take (x12.1 - (0 : Int)).toNat).length : Int))) then (bif (decide (0 ≤ x18.1 ∧ x18.1 < (((a0.2.2.1.drop (0 : Int).toNat).take (x12.1 - (0 : Int)).toNat).length : Int))) then ((F213 k (a0.2.2.1.getD x12.1.toNat Z7).1 (((a0.2.2.1.drop (0 : Int).toNat).take (x12.1 - (0 : Int)).toNat).getD x18.1.toNat Z7).1).bind fun r20 => (bif r20 then (bif (decide ((0 : Int) ≤ x18.1)) then some false else (rec13 ((wrap64 (x12.1 + (1 : Int))), ()))) else (rec19 ((wrap64 (x18.1 + (1 : Int))), ())))) else none) else (bif (decide ((0 : Int) ≤ (-1 : Int))) then some false else (rec13 ((wrap64 (x12.1 + (1 : Int))), ()))))) k ((0 : Int), ())) else none))) else none) else ((F214 k a0.2.2.1).bind fun r21 => some (decide (r21 ≤ a0.2.1))))) k ((0 : Int), ())))) else (iter (σ := Int × Unit) (fun rec32 x31 => (bif (decide (x31.1 < (a0.2.2.1.length : Int))) then (bif (decide (0 ≤ x31.1 ∧ x31.1 < (a0.2.2.1.length : Int))) then ((F125 k (a0.2.2.1.getD x31.1.toNat Z7).1).bind fun r33 => (bif (!r33) then some false else (bif (decide (0 ≤ (0 : Int) ∧ (0 : Int) ≤ x31.1 ∧ x31.1 ≤ (a0.2.2.1.length : Int))) then (iter (σ := Int × Unit) (fun rec38 x37 => (bif (decide (x37.1 < (((a0.2.2.1.drop (0 : Int).toNat).take (x31.1 - (0 : Int)).toNat).length : Int))) then (bif (decide (0 ≤ x37.1 ∧ x37.1 < (((a0.2.2.1.drop (0 : Int).toNat).take (x31.1 - (0 : Int)).toNat).length : Int))) then ((F213 k (a0.2.2.1.getD x31.1.toNat Z7).1 (((a0.2.2.1.drop (0 : Int).toNat).take (x31.1 - (0 : Int)).toNat).getD x37.1.toNat Z7).1).bind fun r39 => (bif r39 then (bif (decide ((0 : Int) ≤ x37.1)) then some false else (rec32 ((wrap64 (x31.1 + (1 : Int))), ()))) else (rec38 ((wrap64 (x37.1 + (1 : Int))), ())))) else none) else (bif (decide ((0 : Int) ≤ (-1 : Int))) then some false else (rec32 ((wrap64 (x31.1 + (1 : Int))), ()))))) k ((0 : Int), ())) else none))) else none) else ((F214 k a0.2.2.1).bind fun r40 => some (decide (r40 ≤ a0.2.1))))) k ((0 : Int), ()))))))
def S206 (k : Nat) : CSpec := { params := [U8], res := [(.bool, false)], fresh := true, sem := fun x => F206 k x.1 }
theorem e206 : (fun k => evFn ((T (kp [(([], 4), ⟨[37], [], [], false⟩), (([7, 52], 2), ⟨[8], [], [], false⟩)]) k).cx [(125, S125 k), (176, S176 k), (177, S177 k), (213, S213 k), (214, S214 k)]) 5 Tryz.f206 (S206 0).params (S206 0).res true) = fun k => (S206 k).sem := by kernel_rfl
theorem ok206 {G : World → Prop} (hG : Lasts G) (k : Nat) : (S206 k).ok Tryz.prog G 206 := fn_ok (T_ok (kp [(([], 4), ⟨[37], [], [], false⟩), (([7, 52], 2), ⟨[8], [], [], false⟩)]) k) hG (calls := [(125, S125 k), (176, S176 k), (177, S177 k), (213, S213 k), (214, S214 k)]) ⟨ok125 hG k, ok176 hG k, ok177 hG k, ok213 hG k, ok214 hG k, trivial⟩ 5 rfl (S206 k) (congrFun e206 k)

/-- loop.example/g01402/impl.Fnv -/
def F209 (k : Nat) (a0 : ByteArray) : Option (Int) :=
  (iter (σ := Int × Int × Unit) (fun rec4 x3 => (bif (decide (x3.2.1 < (a0.size : Int))) then (bif (decide (0 ≤ x3.2.1 ∧ x3.2.1 < (a0.size : Int))) then (bif (decide ((4294967296 : Int) = 0)) then none else (rec4 (((wrap64 ((bitsXor .i64 x3.1 (wrap64 ((bt a0 x3.2.1)))) * (16777619 : Int))).tmod (4294967296 : Int)), (wrap64 (x3.2.1 + (1 : Int))), ()))) else none) else some x3.1)) k ((2166136261 : Int), (0 : Int), ()))
def S209 (k : Nat) : CSpec := { params := [.str], res := [((.int .i64), false)], fresh := true, sem := fun x => F209 k x.1 }
theorem e209 : (fun k => evFn ((T (fun _ _ => ⟨[3, 7], [], [], false⟩) k).cx []) 5 Tryz.f209 (S209 0).params (S209 0).res true) = fun k => (S209 k).sem := by kernel_rfl
theorem ok209 {G : World → Prop} (hG : Lasts G) (k : Nat) : (S209 k).ok Tryz.prog G 209 := fn_ok (T_ok (fun _ _ => ⟨[3, 7], [], [], false⟩) k) hG (calls := []) trivial 5 rfl (S209 k) (congrFun e209 k)

/-- loop.example/g01402/impl.ShardOf -/
def F122 (k : Nat) (a0 : D10) (a1 : ByteArray) : Option (Int) :=
  (bif (decide ((a0.1.length : Int) = (0 : Int))) then some (-1 : Int) else ((F209 k a1).bind fun r1 => (bif (decide ((a0.1.length : Int) = 0)) then none else some (r1.tmod (a0.1.length : Int)))))
def S122 (k : Nat) : CSpec := { params := [U10, .str], res := [((.int .i64), false)], fresh := true, sem := fun x => F122 k x.1 x.2.1 }
theorem e122 : (fun k => evFn ((T (fun _ _ => ⟨[], [], [], false⟩) k).cx [(209, S209 k)]) 5 Tryz.f122 (S122 0).params (S122 0).res true) = fun k => (S122 k).sem := by kernel_rfl
theorem ok122 {G : World → Prop} (hG : Lasts G) (k : Nat) : (S122 k).ok Tryz.prog G 122 := fn_ok (T_ok (fun _ _ => ⟨[], [], [], false⟩) k) hG (calls := [(209, S209 k)]) ⟨ok209 hG k, trivial⟩ 5 rfl (S122 k) (congrFun e122 k)

/-- loop.example/g01402/impl.CacheOk -/
def F121 (k : Nat) (a0 : D10) : Option (Bool) :=
  ((F176 k (a0.1.length : Int) (1 : Int) (4 : Int)).bind fun r1 => (bif (!r1) then some false else (iter (σ := Int × Unit) (fun rec12 x11 => (bif (decide (x11.1 < (a0.1.length : Int))) then (bif (decide (0 ≤ x11.1 ∧ x11.1 < (a0.1.length : Int))) then ((F206 k (a0.1.getD x11.1.toNat Z8)).bind fun r13 => (bif (!r13) then some false else (iter (σ := Int × Unit) (fun rec18 x17 => (bif (decide (x17.1 < ((a0.1.getD x11.1.toNat Z8).2.2.1.length : Int))) then (bif (decide (0 ≤ x17.1 ∧ x17.1 < ((a0.1.getD x11.1.toNat Z8).2.2.1.length : Int))) then ((F122 k a0 ((a0.1.getD x11.1.toNat Z8).2.2.1.getD x17.1.toNat Z7).1.1).bind fun r19 => (bif (!decide (r19 = x11.1)) then (bif (decide ((0 : Int) ≤ x17.1)) then some false else (rec12 ((wrap64 (x11.1 + (1 : Int))), ()))) else (rec18 ((wrap64 (x17.1 + (1 : Int))), ())))) else none) else (bif (decide ((0 : Int) ≤ (-1 : Int))) then some false else (rec12 ((wrap64 (x11.1 + (1 : Int))), ()))))) k ((0 : Int), ())))) else none) else (iter (σ := Int × Unit) (fun rec25 x24 => (bif (decide (x24.1 < (a0.2.length : Int))) then (bif (decide (0 ≤ x24.1 ∧ x24.1 < (a0.2.length : Int))) then ((F128 k (a0.2.getD x24.1.toNat Z9).1).bind fun r26 => (bif (!r26) then some false else ((F176 k (a0.2.getD x24.1.toNat Z9).2 (1 : Int) (1000000 : Int)).bind fun r27 => (bif (!r27) then some false else (bif (decide ((0 : Int) < x24.1)) then (bif (decide (0 ≤ (wrap64 (x24.1 - (1 : Int))) ∧ (wrap64 (x24.1 - (1 : Int))) < (a0.2.length : Int))) then (bif (!lessText (a0.2.getD (wrap64 (x24.1 - (1 : Int))).toNat Z9).1 (a0.2.getD x24.1.toNat Z9).1) then some false else (rec25 ((wrap64 (x24.1 + (1 : Int))), ()))) else none) else (rec25 ((wrap64 (x24.1 + (1 : Int))), ()))))))) else none) else some true)) k ((0 : Int), ())))) k ((0 : Int), ()))))
def S121 (k : Nat) : CSpec := { params := [U10], res := [(.bool, false)], fresh := true, sem := fun x => F121 k x.1 }
theorem e121 : (fun k => evFn ((T (kp [(([], 4), ⟨[15], [], [], false⟩), (([], 10), ⟨[33], [], [], false⟩), (([7, 27], 2), ⟨[8], [], [], false⟩)]) k).cx [(122, S122 k), (128, S128 k), (176, S176 k), (206, S206 k)]) 5 Tryz.f121 (S121 0).params (S121 0).res true) = fun k => (S121 k).sem := by kernel_rfl
theorem ok121 {G : World → Prop} (hG : Lasts G) (k : Nat) : (S121 k).ok Tryz.prog G 121 := fn_ok (T_ok (kp [(([], 4), ⟨[15], [], [], false⟩), (([], 10), ⟨[33], [], [], false⟩), (([7, 27], 2), ⟨[8], [], [], false⟩)]) k) hG (calls := [(122, S122 k), (128, S128 k), (176, S176 k), (206, S206 k)]) ⟨ok122 hG k, ok128 hG k, ok176 hG k, ok206 hG k, trivial⟩ 5 rfl (S121 k) (congrFun e121 k)

/-- loop.example/g01402/impl.OriginOk -/
def F173 (k : Nat) (a0 : D2) : Option (Bool) :=
  (iter (σ := Int × Unit) (fun rec11 x10 => (bif (decide (x10.1 < (a0.length : Int))) then (bif (decide (0 ≤ x10.1 ∧ x10.1 < (a0.length : Int))) then ((F128 k (a0.getD x10.1.toNat Z1).1).bind fun r12 => (bif (!r12) then some false else (bif (decide ((0 : Int) < x10.1)) then (bif (decide (0 ≤ (wrap64 (x10.1 - (1 : Int))) ∧ (wrap64 (x10.1 - (1 : Int))) < (a0.length : Int))) then (bif (!lessText (a0.getD (wrap64 (x10.1 - (1 : Int))).toNat Z1).1 (a0.getD x10.1.toNat Z1).1) then some false else (bif (decide ((60 : Int) < ((a0.getD x10.1.toNat Z1).2.1.size : Int))) then some false else ((F176 k (a0.getD x10.1.toNat Z1).2.2.1 (1 : Int) (100000 : Int)).bind fun r13 => (bif (!r13) then some false else ((F176 k (a0.getD x10.1.toNat Z1).2.2.2.1 (0 : Int) (2000000000 : Int)).bind fun r14 => (bif (!r14) then some false else (bif (decide ((6 : Int) < ((a0.getD x10.1.toNat Z1).2.2.2.2.2.2.length : Int))) then some false else ((F241 k (a0.getD x10.1.toNat Z1).2.2.2.2.2.2).bind fun r15 => (bif (!r15) then some false else (rec11 ((wrap64 (x10.1 + (1 : Int))), ()))))))))))) else none) else (bif (decide ((60 : Int) < ((a0.getD x10.1.toNat Z1).2.1.size : Int))) then some false else ((F176 k (a0.getD x10.1.toNat Z1).2.2.1 (1 : Int) (100000 : Int)).bind fun r16 => (bif (!r16) then some false else ((F176 k (a0.getD x10.1.toNat Z1).2.2.2.1 (0 : Int) (2000000000 : Int)).bind fun r17 => (bif (!r17) then some false else (bif (decide ((6 : Int) < ((a0.getD x10.1.toNat Z1).2.2.2.2.2.2.length : Int))) then some false else ((F241 k (a0.getD x10.1.toNat Z1).2.2.2.2.2.2).bind fun r18 => (bif (!r18) then some false else (rec11 ((wrap64 (x10.1 + (1 : Int))), ()))))))))))))) else none) else some (decide ((a0.length : Int) ≤ (8 : Int))))) k ((0 : Int), ()))
def S173 (k : Nat) : CSpec := { params := [U2], res := [(.bool, false)], fresh := true, sem := fun x => F173 k x.1 }
theorem e173 : (fun k => evFn ((T (fun _ _ => ⟨[8], [], [], false⟩) k).cx [(128, S128 k), (176, S176 k), (241, S241 k)]) 5 Tryz.f173 (S173 0).params (S173 0).res true) = fun k => (S173 k).sem := by kernel_rfl
theorem ok173 {G : World → Prop} (hG : Lasts G) (k : Nat) : (S173 k).ok Tryz.prog G 173 := fn_ok (T_ok (fun _ _ => ⟨[8], [], [], false⟩) k) hG (calls := [(128, S128 k), (176, S176 k), (241, S241 k)]) ⟨ok128 hG k, ok176 hG k, ok241 hG k, trivial⟩ 5 rfl (S173 k) (congrFun e173 k)

/-- slices.Clone[[]loop.example/g01402/impl.GenRow,loop.example/g01402/impl.GenRow] -/
def S119 (k : Nat) : CSpec := { params := [.slice U9], res := [(.slice U9, true)], fresh := true, sem := fun x => semClone x.1 }
theorem ok119 {G : World → Prop} (hG : Lasts G) (k : Nat) : (S119 k).ok Tryz.prog G 119 := ok_Clone Tryz.lClone119 Tryz.func119 (by kernel_rfl) (by kernel_rfl) (by kernel_rfl)

/-- slices.Clone[[]loop.example/g01402/impl.Field,loop.example/g01402/impl.Field] -/
def S251 (k : Nat) : CSpec := { params := [.slice U0], res := [(.slice U0, true)], fresh := true, sem := fun x => semClone x.1 }
theorem ok251 {G : World → Prop} (hG : Lasts G) (k : Nat) : (S251 k).ok Tryz.prog G 251 := ok_Clone Tryz.lClone251 Tryz.func251 (by kernel_rfl) (by kernel_rfl) (by kernel_rfl)

/-- loop.example/g01402/impl.cloneResponse -/
def F265 (k : Nat) (a0 : D5) : Option (D5) :=
  ((semClone a0.2.1).bind fun r1 => some (a0.1, r1, a0.2.2))
def S265 (k : Nat) : CSpec := { params := [U5], res := [(U5, true)], fresh := true, sem := fun x => F265 k x.1 }
theorem e265 : (fun k => evFn ((T (fun _ _ => ⟨[], [], [], false⟩) k).cx [(251, S251 k)]) 5 Tryz.f265 (S265 0).params (S265 0).res true) = fun k => (S265 k).sem := by kernel_rfl
theorem ok265 {G : World → Prop} (hG : Lasts G) (k : Nat) : (S265 k).ok Tryz.prog G 265 := fn_ok (T_ok (fun _ _ => ⟨[], [], [], false⟩) k) hG (calls := [(251, S251 k)]) ⟨ok251 hG k, trivial⟩ 5 rfl (S265 k) (congrFun e265 k)

/-- loop.example/g01402/impl.cloneStored -/
def F205 (k : Nat) (a0 : D6) : Option (D6) :=
  ((semClone a0.2.1).bind fun r1 => ((F265 k a0.2.2.1).bind fun r2 => some (a0.1, r1, r2, a0.2.2.2.1, a0.2.2.2.2)))
def S205 (k : Nat) : CSpec := { params := [U6], res := [(U6, true)], fresh := true, sem := fun x => F205 k x.1 }
theorem e205 : (fun k => evFn ((T (fun _ _ => ⟨[], [], [], false⟩) k).cx [(251, S251 k), (265, S265 k)]) 5 Tryz.f205 (S205 0).params (S205 0).res true) = fun k => (S205 k).sem := by kernel_rfl
theorem ok205 {G : World → Prop} (hG : Lasts G) (k : Nat) : (S205 k).ok Tryz.prog G 205 := fn_ok (T_ok (fun _ _ => ⟨[], [], [], false⟩) k) hG (calls := [(251, S251 k), (265, S265 k)]) ⟨ok251 hG k, ok265 hG k, trivial⟩ 5 rfl (S205 k) (congrFun e205 k)

/-- loop.example/g01402/impl.cloneShard -/
def F120 (k : Nat) (a0 : D8) : Option (D8) :=
  (iter (σ := Int × List D7 × Unit) (fun rec5 x4 => (bif (decide (x4.1 < (a0.2.2.1.length : Int))) then (bif (decide (0 ≤ x4.1 ∧ x4.1 < (a0.2.2.1.length : Int))) then ((F205 k (a0.2.2.1.getD x4.1.toNat Z7).1).bind fun r6 => (bif (decide (x4.2.1.length + ([(r6, (a0.2.2.1.getD x4.1.toNat Z7).2)] : List D7).length < most)) then (rec5 ((wrap64 (x4.1 + (1 : Int))), (x4.2.1 ++ ([(r6, (a0.2.2.1.getD x4.1.toNat Z7).2)] : List D7)), ())) else none)) else none) else some (a0.1, a0.2.1, x4.2.1, a0.2.2.2))) k ((0 : Int), ([] : List D7), ()))
def S120 (k : Nat) : CSpec := { params := [U8], res := [(U8, true)], fresh := true, sem := fun x => F120 k x.1 }
theorem e120 : (fun k => evFn ((T (fun _ _ => ⟨[3, 9], [], [3], false⟩) k).cx [(205, S205 k)]) 5 Tryz.f120 (S120 0).params (S120 0).res true) = fun k => (S120 k).sem := by kernel_rfl
theorem ok120 {G : World → Prop} (hG : Lasts G) (k : Nat) : (S120 k).ok Tryz.prog G 120 := fn_ok (T_ok (fun _ _ => ⟨[3, 9], [], [3], false⟩) k) hG (calls := [(205, S205 k)]) ⟨ok205 hG k, trivial⟩ 5 rfl (S120 k) (congrFun e120 k)

/-- loop.example/g01402/impl.cloneCache -/
def F44 (k : Nat) (a0 : D10) : Option (D10) :=
  ((semClone a0.2).bind fun r1 => (iter (σ := Int × List D8 × Unit) (fun rec6 x5 => (bif (decide (x5.1 < (a0.1.length : Int))) then (bif (decide (0 ≤ x5.1 ∧ x5.1 < (a0.1.length : Int))) then ((F120 k (a0.1.getD x5.1.toNat Z8)).bind fun r7 => (bif (decide (x5.2.1.length + ([r7] : List D8).length < most)) then (rec6 ((wrap64 (x5.1 + (1 : Int))), (x5.2.1 ++ ([r7] : List D8)), ())) else none)) else none) else some (x5.2.1, r1))) k ((0 : Int), ([] : List D8), ())))
def S44 (k : Nat) : CSpec := { params := [U10], res := [(U10, true)], fresh := true, sem := fun x => F44 k x.1 }
theorem e44 : (fun k => evFn ((T (fun _ _ => ⟨[13], [7], [8], false⟩) k).cx [(119, S119 k), (120, S120 k)]) 5 Tryz.f44 (S44 0).params (S44 0).res true) = fun k => (S44 k).sem := by kernel_rfl
theorem ok44 {G : World → Prop} (hG : Lasts G) (k : Nat) : (S44 k).ok Tryz.prog G 44 := fn_ok (T_ok (fun _ _ => ⟨[13], [7], [8], false⟩) k) hG (calls := [(119, S119 k), (120, S120 k)]) ⟨ok119 hG k, ok120 hG k, trivial⟩ 5 rfl (S44 k) (congrFun e44 k)

/-- loop.example/g01402/impl.cloneOrigin -/
def F174 (k : Nat) (a0 : D2) : Option (D2) :=
  (iter (σ := Int × List D1 × Unit) (fun rec5 x4 => (bif (decide (x4.1 < (a0.length : Int))) then (bif (decide (0 ≤ x4.1 ∧ x4.1 < (a0.length : Int))) then ((semClone (a0.getD x4.1.toNat Z1).2.2.2.2.2.2).bind fun r6 => (bif (decide (x4.2.1.length + ([((a0.getD x4.1.toNat Z1).1, (a0.getD x4.1.toNat Z1).2.1, (a0.getD x4.1.toNat Z1).2.2.1, (a0.getD x4.1.toNat Z1).2.2.2.1, (a0.getD x4.1.toNat Z1).2.2.2.2.1, (a0.getD x4.1.toNat Z1).2.2.2.2.2.1, r6)] : List D1).length < most)) then (rec5 ((wrap64 (x4.1 + (1 : Int))), (x4.2.1 ++ ([((a0.getD x4.1.toNat Z1).1, (a0.getD x4.1.toNat Z1).2.1, (a0.getD x4.1.toNat Z1).2.2.1, (a0.getD x4.1.toNat Z1).2.2.2.1, (a0.getD x4.1.toNat Z1).2.2.2.2.1, (a0.getD x4.1.toNat Z1).2.2.2.2.2.1, r6)] : List D1)), ())) else none)) else none) else some x4.2.1)) k ((0 : Int), ([] : List D1), ()))
def S174 (k : Nat) : CSpec := { params := [U2], res := [(U2, true)], fresh := true, sem := fun x => F174 k x.1 }
theorem e174 : (fun k => evFn ((T (fun _ _ => ⟨[10], [4], [5], false⟩) k).cx [(251, S251 k)]) 5 Tryz.f174 (S174 0).params (S174 0).res true) = fun k => (S174 k).sem := by kernel_rfl
theorem ok174 {G : World → Prop} (hG : Lasts G) (k : Nat) : (S174 k).ok Tryz.prog G 174 := fn_ok (T_ok (fun _ _ => ⟨[10], [4], [5], false⟩) k) hG (calls := [(251, S251 k)]) ⟨ok251 hG k, trivial⟩ 5 rfl (S174 k) (congrFun e174 k)

/-- loop.example/g01402/impl.ConnNew -/
def F175 (k : Nat) (a0 : ByteArray) : Option (D13) :=
  (bif (decide ((1500 : Int) < (a0.size : Int))) then some (Z13.1, (ByteArray.mk #[]), Z13.2.2.1, (Z13.2.2.2.1.1, Z13.2.2.2.1.2.1, ([] : List D0), Z13.2.2.2.1.2.2.2), (Z13.2.2.2.2.1.1, Z13.2.2.2.2.1.2.1, ([] : List D0), Z13.2.2.2.2.1.2.2.2), (Z13.2.2.2.2.2.1.1, ([] : List D0), (Z13.2.2.2.2.2.1.2.2.1.1, ([] : List D0), Z13.2.2.2.2.2.1.2.2.1.2.2), Z13.2.2.2.2.2.1.2.2.2.1, Z13.2.2.2.2.2.1.2.2.2.2), Z13.2.2.2.2.2.2.1, (-1 : Int), Z13.2.2.2.2.2.2.2.2.1, Z13.2.2.2.2.2.2.2.2.2.1, Z13.2.2.2.2.2.2.2.2.2.2.1, Z13.2.2.2.2.2.2.2.2.2.2.2.1, (Z13.2.2.2.2.2.2.2.2.2.2.2.2.1.1, ([] : List D0), Z13.2.2.2.2.2.2.2.2.2.2.2.2.1.2.2), ([] : List D12)) else some (Z13.1, a0, Z13.2.2.1, (Z13.2.2.2.1.1, Z13.2.2.2.1.2.1, ([] : List D0), Z13.2.2.2.1.2.2.2), (Z13.2.2.2.2.1.1, Z13.2.2.2.2.1.2.1, ([] : List D0), Z13.2.2.2.2.1.2.2.2), (Z13.2.2.2.2.2.1.1, ([] : List D0), (Z13.2.2.2.2.2.1.2.2.1.1, ([] : List D0), Z13.2.2.2.2.2.1.2.2.1.2.2), Z13.2.2.2.2.2.1.2.2.2.1, Z13.2.2.2.2.2.1.2.2.2.2), Z13.2.2.2.2.2.2.1, (-1 : Int), Z13.2.2.2.2.2.2.2.2.1, Z13.2.2.2.2.2.2.2.2.2.1, Z13.2.2.2.2.2.2.2.2.2.2.1, Z13.2.2.2.2.2.2.2.2.2.2.2.1, (Z13.2.2.2.2.2.2.2.2.2.2.2.2.1.1, ([] : List D0), Z13.2.2.2.2.2.2.2.2.2.2.2.2.1.2.2), ([] : List D12)))
def S175 (k : Nat) : CSpec := { params := [.str], res := [(U13, true)], fresh := true, sem := fun x => F175 k x.1 }
theorem e175 : (fun k => evFn ((T (fun _ _ => ⟨[], [], [], false⟩) k).cx []) 5 Tryz.f175 (S175 0).params (S175 0).res true) = fun k => (S175 k).sem := by kernel_rfl
theorem ok175 {G : World → Prop} (hG : Lasts G) (k : Nat) : (S175 k).ok Tryz.prog G 175 := fn_ok (T_ok (fun _ _ => ⟨[], [], [], false⟩) k) hG (calls := []) trivial 5 rfl (S175 k) (congrFun e175 k)

/-- loop.example/g01402/impl.WorldNew -/
def F78 (k : Nat) (a0 : List ByteArray) (a1 : D10) (a2 : D2) : Option (D16) :=
  (bif (decide ((4 : Int) < (a0.length : Int))) then some (Z16.1, Z16.2.1, ([] : List D13), (([] : List D8), ([] : List D9)), ([] : List D14), ([] : List D1), ([] : List D15)) else ((F121 k a1).bind fun r1 => (bif (!r1) then some (Z16.1, Z16.2.1, ([] : List D13), (([] : List D8), ([] : List D9)), ([] : List D14), ([] : List D1), ([] : List D15)) else ((F173 k a2).bind fun r2 => (bif (!r2) then some (Z16.1, Z16.2.1, ([] : List D13), (([] : List D8), ([] : List D9)), ([] : List D14), ([] : List D1), ([] : List D15)) else ((F44 k a1).bind fun r3 => ((F174 k a2).bind fun r4 => (iter (σ := Int × Int × Int × List D13 × Unit) (fun rec9 x8 => (bif (decide (x8.1 < (a0.length : Int))) then (bif (decide (0 ≤ x8.1 ∧ x8.1 < (a0.length : Int))) then ((F175 k (a0.getD x8.1.toNat (ByteArray.mk #[]))).bind fun r10 => (bif (decide (x8.2.2.2.1.length + ([r10] : List D13).length < most)) then (rec9 ((wrap64 (x8.1 + (1 : Int))), x8.2.1, x8.2.2.1, (x8.2.2.2.1 ++ ([r10] : List D13)), ())) else none)) else none) else some (x8.2.1, x8.2.2.1, x8.2.2.2.1, r3, ([] : List D14), r4, ([] : List D15)))) k ((0 : Int), Z16.1, Z16.2.1, ([] : List D13), ())))))))))
def S78 (k : Nat) : CSpec := { params := [(.slice .str), U10, U2], res := [(U16, true)], fresh := true, sem := fun x => F78 k x.1 x.2.1 x.2.2.1 }
theorem e78 : (fun k => evFn ((T (fun _ _ => ⟨[31], [18], [19], false⟩) k).cx [(44, S44 k), (121, S121 k), (173, S173 k), (174, S174 k), (175, S175 k)]) 5 Tryz.f78 (S78 0).params (S78 0).res true) = fun k => (S78 k).sem := by kernel_rfl
theorem ok78 {G : World → Prop} (hG : Lasts G) (k : Nat) : (S78 k).ok Tryz.prog G 78 := fn_ok (T_ok (fun _ _ => ⟨[31], [18], [19], false⟩) k) hG (calls := [(44, S44 k), (121, S121 k), (173, S173 k), (174, S174 k), (175, S175 k)]) ⟨ok44 hG k, ok121 hG k, ok173 hG k, ok174 hG k, ok175 hG k, trivial⟩ 5 rfl (S78 k) (congrFun e78 k)

/-- loop.example/g01402/impl.Start -/
def F26 (k : Nat) (a0 : D4) : Option (D16) :=
  ((F79 k a0.2.1 a0.2.2.1 a0.2.2.2.1).bind fun r1 => ((F78 k a0.1 r1 a0.2.2.2.2.1).bind fun r2 => some r2))
def S26 (k : Nat) : CSpec := { params := [U4], res := [(U16, true)], fresh := true, sem := fun x => F26 k x.1 }
theorem e26 : (fun k => evFn ((T (fun _ _ => ⟨[], [], [], false⟩) k).cx [(78, S78 k), (79, S79 k)]) 5 Tryz.f26 (S26 0).params (S26 0).res true) = fun k => (S26 k).sem := by kernel_rfl
theorem ok26 {G : World → Prop} (hG : Lasts G) (k : Nat) : (S26 k).ok Tryz.prog G 26 := fn_ok (T_ok (fun _ _ => ⟨[], [], [], false⟩) k) hG (calls := [(78, S78 k), (79, S79 k)]) ⟨ok78 hG k, ok79 hG k, trivial⟩ 5 rfl (S26 k) (congrFun e26 k)

/-- loop.example/g01402/laws.eqField -/
def F163 (k : Nat) (a0 : D0) (a1 : D0) : Option (Bool) :=
  (bif (!decide (a0.1 = a1.1)) then some false else (bif (!decide (a0.2 = a1.2)) then some false else some true))
def S163 (k : Nat) : CSpec := { params := [U0, U0], res := [(.bool, false)], fresh := true, sem := fun x => F163 k x.1 x.2.1 }
theorem e163 : (fun k => evFn ((T (fun _ _ => ⟨[], [], [], false⟩) k).cx []) 5 Tryz.f163 (S163 0).params (S163 0).res true) = fun k => (S163 k).sem := by kernel_rfl
theorem ok163 {G : World → Prop} (hG : Lasts G) (k : Nat) : (S163 k).ok Tryz.prog G 163 := fn_ok (T_ok (fun _ _ => ⟨[], [], [], false⟩) k) hG (calls := []) trivial 5 rfl (S163 k) (congrFun e163 k)

/-- loop.example/g01402/laws.eqFieldS -/
def F65 (k : Nat) (a0 : List D0) (a1 : List D0) : Option (Bool) :=
  (bif (!decide ((a0.length : Int) = (a1.length : Int))) then some false else (iter (σ := Int × Unit) (fun rec5 x4 => (bif (decide (x4.1 < (a0.length : Int))) then (bif (decide (0 ≤ x4.1 ∧ x4.1 < (a0.length : Int))) then (bif (decide (0 ≤ x4.1 ∧ x4.1 < (a1.length : Int))) then ((F163 k (a0.getD x4.1.toNat Z0) (a1.getD x4.1.toNat Z0)).bind fun r6 => (bif (!r6) then some false else (rec5 ((wrap64 (x4.1 + (1 : Int))), ())))) else none) else none) else some true)) k ((0 : Int), ())))
def S65 (k : Nat) : CSpec := { params := [(.slice U0), (.slice U0)], res := [(.bool, false)], fresh := true, sem := fun x => F65 k x.1 x.2.1 }
theorem e65 : (fun k => evFn ((T (fun _ _ => ⟨[5], [], [], false⟩) k).cx [(163, S163 k)]) 5 Tryz.f65 (S65 0).params (S65 0).res true) = fun k => (S65 k).sem := by kernel_rfl
theorem ok65 {G : World → Prop} (hG : Lasts G) (k : Nat) : (S65 k).ok Tryz.prog G 65 := fn_ok (T_ok (fun _ _ => ⟨[5], [], [], false⟩) k) hG (calls := [(163, S163 k)]) ⟨ok163 hG k, trivial⟩ 5 rfl (S65 k) (congrFun e65 k)

/-- loop.example/g01402/laws.eqRequest -/
def F136 (k : Nat) (a0 : D11) (a1 : D11) : Option (Bool) :=
  (bif (!decide (a0.1 = a1.1)) then some false else (bif (!decide (a0.2.1 = a1.2.1)) then some false else ((F65 k a0.2.2.1 a1.2.2.1).bind fun r1 => (bif (!r1) then some false else (bif (!decide (a0.2.2.2 = a1.2.2.2)) then some false else some true)))))
def S136 (k : Nat) : CSpec := { params := [U11, U11], res := [(.bool, false)], fresh := true, sem := fun x => F136 k x.1 x.2.1 }
theorem e136 : (fun k => evFn ((T (fun _ _ => ⟨[], [], [], false⟩) k).cx [(65, S65 k)]) 5 Tryz.f136 (S136 0).params (S136 0).res true) = fun k => (S136 k).sem := by kernel_rfl
theorem ok136 {G : World → Prop} (hG : Lasts G) (k : Nat) : (S136 k).ok Tryz.prog G 136 := fn_ok (T_ok (fun _ _ => ⟨[], [], [], false⟩) k) hG (calls := [(65, S65 k)]) ⟨ok65 hG k, trivial⟩ 5 rfl (S136 k) (congrFun e136 k)

/-- loop.example/g01402/laws.eqResponse -/
def F66 (k : Nat) (a0 : D5) (a1 : D5) : Option (Bool) :=
  (bif (!decide (a0.1 = a1.1)) then some false else ((F65 k a0.2.1 a1.2.1).bind fun r1 => (bif (!r1) then some false else (bif (!decide (a0.2.2 = a1.2.2)) then some false else some true))))
def S66 (k : Nat) : CSpec := { params := [U5, U5], res := [(.bool, false)], fresh := true, sem := fun x => F66 k x.1 x.2.1 }
theorem e66 : (fun k => evFn ((T (fun _ _ => ⟨[], [], [], false⟩) k).cx [(65, S65 k)]) 5 Tryz.f66 (S66 0).params (S66 0).res true) = fun k => (S66 k).sem := by kernel_rfl
theorem ok66 {G : World → Prop} (hG : Lasts G) (k : Nat) : (S66 k).ok Tryz.prog G 66 := fn_ok (T_ok (fun _ _ => ⟨[], [], [], false⟩) k) hG (calls := [(65, S65 k)]) ⟨ok65 hG k, trivial⟩ 5 rfl (S66 k) (congrFun e66 k)

/-- loop.example/g01402/laws.eqStored -/
def F20 (k : Nat) (a0 : D6) (a1 : D6) : Option (Bool) :=
  (bif (!decide (a0.1 = a1.1)) then some false else ((F65 k a0.2.1 a1.2.1).bind fun r1 => (bif (!r1) then some false else ((F66 k a0.2.2.1 a1.2.2.1).bind fun r2 => (bif (!r2) then some false else (bif (!decide (a0.2.2.2.1 = a1.2.2.2.1)) then some false else (bif (!decide (a0.2.2.2.2 = a1.2.2.2.2)) then some false else some true)))))))
def S20 (k : Nat) : CSpec := { params := [U6, U6], res := [(.bool, false)], fresh := true, sem := fun x => F20 k x.1 x.2.1 }
theorem e20 : (fun k => evFn ((T (fun _ _ => ⟨[], [], [], false⟩) k).cx [(65, S65 k), (66, S66 k)]) 5 Tryz.f20 (S20 0).params (S20 0).res true) = fun k => (S20 k).sem := by kernel_rfl
theorem ok20 {G : World → Prop} (hG : Lasts G) (k : Nat) : (S20 k).ok Tryz.prog G 20 := fn_ok (T_ok (fun _ _ => ⟨[], [], [], false⟩) k) hG (calls := [(65, S65 k), (66, S66 k)]) ⟨ok65 hG k, ok66 hG k, trivial⟩ 5 rfl (S20 k) (congrFun e20 k)

/-- loop.example/g01402/laws.eqTold -/
def F297 (k : Nat) (a0 : D12) (a1 : D12) : Option (Bool) :=
  (bif (!decide (a0.1 = a1.1)) then some false else ((F66 k a0.2 a1.2).bind fun r1 => (bif (!r1) then some false else some true)))
def S297 (k : Nat) : CSpec := { params := [U12, U12], res := [(.bool, false)], fresh := true, sem := fun x => F297 k x.1 x.2.1 }
theorem e297 : (fun k => evFn ((T (fun _ _ => ⟨[], [], [], false⟩) k).cx [(66, S66 k)]) 5 Tryz.f297 (S297 0).params (S297 0).res true) = fun k => (S297 k).sem := by kernel_rfl
theorem ok297 {G : World → Prop} (hG : Lasts G) (k : Nat) : (S297 k).ok Tryz.prog G 297 := fn_ok (T_ok (fun _ _ => ⟨[], [], [], false⟩) k) hG (calls := [(66, S66 k)]) ⟨ok66 hG k, trivial⟩ 5 rfl (S297 k) (congrFun e297 k)

/-- loop.example/g01402/laws.eqToldS -/
def F253 (k : Nat) (a0 : List D12) (a1 : List D12) : Option (Bool) :=
  (bif (!decide ((a0.length : Int) = (a1.length : Int))) then some false else (iter (σ := Int × Unit) (fun rec5 x4 => (bif (decide (x4.1 < (a0.length : Int))) then (bif (decide (0 ≤ x4.1 ∧ x4.1 < (a0.length : Int))) then (bif (decide (0 ≤ x4.1 ∧ x4.1 < (a1.length : Int))) then ((F297 k (a0.getD x4.1.toNat Z12) (a1.getD x4.1.toNat Z12)).bind fun r6 => (bif (!r6) then some false else (rec5 ((wrap64 (x4.1 + (1 : Int))), ())))) else none) else none) else some true)) k ((0 : Int), ())))
def S253 (k : Nat) : CSpec := { params := [(.slice U12), (.slice U12)], res := [(.bool, false)], fresh := true, sem := fun x => F253 k x.1 x.2.1 }
theorem e253 : (fun k => evFn ((T (fun _ _ => ⟨[5], [], [], false⟩) k).cx [(297, S297 k)]) 5 Tryz.f253 (S253 0).params (S253 0).res true) = fun k => (S253 k).sem := by kernel_rfl
theorem ok253 {G : World → Prop} (hG : Lasts G) (k : Nat) : (S253 k).ok Tryz.prog G 253 := fn_ok (T_ok (fun _ _ => ⟨[5], [], [], false⟩) k) hG (calls := [(297, S297 k)]) ⟨ok297 hG k, trivial⟩ 5 rfl (S253 k) (congrFun e253 k)

/-- loop.example/g01402/laws.eqConn -/
def F180 (k : Nat) (a0 : D13) (a1 : D13) : Option (Bool) :=
  (bif (!decide (a0.1 = a1.1)) then some false else (bif (!decide (a0.2.1 = a1.2.1)) then some false else (bif (!decide (a0.2.2.1 = a1.2.2.1)) then some false else ((F136 k a0.2.2.2.1 a1.2.2.2.1).bind fun r1 => (bif (!r1) then some false else ((F136 k a0.2.2.2.2.1 a1.2.2.2.2.1).bind fun r2 => (bif (!r2) then some false else ((F20 k a0.2.2.2.2.2.1 a1.2.2.2.2.2.1).bind fun r3 => (bif (!r3) then some false else (bif (!(a0.2.2.2.2.2.2.1 == a1.2.2.2.2.2.2.1)) then some false else (bif (!decide (a0.2.2.2.2.2.2.2.1 = a1.2.2.2.2.2.2.2.1)) then some false else (bif (!decide (a0.2.2.2.2.2.2.2.2.1 = a1.2.2.2.2.2.2.2.2.1)) then some false else (bif (!decide (a0.2.2.2.2.2.2.2.2.2.1 = a1.2.2.2.2.2.2.2.2.2.1)) then some false else (bif (!decide (a0.2.2.2.2.2.2.2.2.2.2.1 = a1.2.2.2.2.2.2.2.2.2.2.1)) then some false else (bif (!(a0.2.2.2.2.2.2.2.2.2.2.2.1 == a1.2.2.2.2.2.2.2.2.2.2.2.1)) then some false else ((F66 k a0.2.2.2.2.2.2.2.2.2.2.2.2.1 a1.2.2.2.2.2.2.2.2.2.2.2.2.1).bind fun r4 => (bif (!r4) then some false else ((F253 k a0.2.2.2.2.2.2.2.2.2.2.2.2.2 a1.2.2.2.2.2.2.2.2.2.2.2.2.2).bind fun r5 => (bif (!r5) then some false else some true)))))))))))))))))))
def S180 (k : Nat) : CSpec := { params := [U13, U13], res := [(.bool, false)], fresh := true, sem := fun x => F180 k x.1 x.2.1 }
theorem e180 : (fun k => evFn ((T (fun _ _ => ⟨[], [], [], false⟩) k).cx [(20, S20 k), (66, S66 k), (136, S136 k), (253, S253 k)]) 5 Tryz.f180 (S180 0).params (S180 0).res true) = fun k => (S180 k).sem := by kernel_rfl
theorem ok180 {G : World → Prop} (hG : Lasts G) (k : Nat) : (S180 k).ok Tryz.prog G 180 := fn_ok (T_ok (fun _ _ => ⟨[], [], [], false⟩) k) hG (calls := [(20, S20 k), (66, S66 k), (136, S136 k), (253, S253 k)]) ⟨ok20 hG k, ok66 hG k, ok136 hG k, ok253 hG k, trivial⟩ 5 rfl (S180 k) (congrFun e180 k)

/-- loop.example/g01402/laws.eqConnS -/
def F80 (k : Nat) (a0 : List D13) (a1 : List D13) : Option (Bool) :=
  (bif (!decide ((a0.length : Int) = (a1.length : Int))) then some false else (iter (σ := Int × Unit) (fun rec5 x4 => (bif (decide (x4.1 < (a0.length : Int))) then (bif (decide (0 ≤ x4.1 ∧ x4.1 < (a0.length : Int))) then (bif (decide (0 ≤ x4.1 ∧ x4.1 < (a1.length : Int))) then ((F180 k (a0.getD x4.1.toNat Z13) (a1.getD x4.1.toNat Z13)).bind fun r6 => (bif (!r6) then some false else (rec5 ((wrap64 (x4.1 + (1 : Int))), ())))) else none) else none) else some true)) k ((0 : Int), ())))
def S80 (k : Nat) : CSpec := { params := [(.slice U13), (.slice U13)], res := [(.bool, false)], fresh := true, sem := fun x => F80 k x.1 x.2.1 }
theorem e80 : (fun k => evFn ((T (fun _ _ => ⟨[5], [], [], false⟩) k).cx [(180, S180 k)]) 5 Tryz.f80 (S80 0).params (S80 0).res true) = fun k => (S80 k).sem := by kernel_rfl
theorem ok80 {G : World → Prop} (hG : Lasts G) (k : Nat) : (S80 k).ok Tryz.prog G 80 := fn_ok (T_ok (fun _ _ => ⟨[5], [], [], false⟩) k) hG (calls := [(180, S180 k)]) ⟨ok180 hG k, trivial⟩ 5 rfl (S80 k) (congrFun e80 k)

/-- loop.example/g01402/laws.eqSlot -/
def F273 (k : Nat) (a0 : D7) (a1 : D7) : Option (Bool) :=
  ((F20 k a0.1 a1.1).bind fun r1 => (bif (!r1) then some false else (bif (!(a0.2 == a1.2)) then some false else some true)))
def S273 (k : Nat) : CSpec := { params := [U7, U7], res := [(.bool, false)], fresh := true, sem := fun x => F273 k x.1 x.2.1 }
theorem e273 : (fun k => evFn ((T (fun _ _ => ⟨[], [], [], false⟩) k).cx [(20, S20 k)]) 5 Tryz.f273 (S273 0).params (S273 0).res true) = fun k => (S273 k).sem := by kernel_rfl
theorem ok273 {G : World → Prop} (hG : Lasts G) (k : Nat) : (S273 k).ok Tryz.prog G 273 := fn_ok (T_ok (fun _ _ => ⟨[], [], [], false⟩) k) hG (calls := [(20, S20 k)]) ⟨ok20 hG k, trivial⟩ 5 rfl (S273 k) (congrFun e273 k)

/-- loop.example/g01402/laws.eqSlotS -/
def F220 (k : Nat) (a0 : List D7) (a1 : List D7) : Option (Bool) :=
  (bif (!decide ((a0.length : Int) = (a1.length : Int))) then some false else (iter (σ := Int × Unit) (fun rec5 x4 => (bif (decide (x4.1 < (a0.length : Int))) then (bif (decide (0 ≤ x4.1 ∧ x4.1 < (a0.length : Int))) then (bif (decide (0 ≤ x4.1 ∧ x4.1 < (a1.length : Int))) then ((F273 k (a0.getD x4.1.toNat Z7) (a1.getD x4.1.toNat Z7)).bind fun r6 => (bif (!r6) then some false else (rec5 ((wrap64 (x4.1 + (1 : Int))), ())))) else none) else none) else some true)) k ((0 : Int), ())))
def S220 (k : Nat) : CSpec := { params := [(.slice U7), (.slice U7)], res := [(.bool, false)], fresh := true, sem := fun x => F220 k x.1 x.2.1 }
theorem e220 : (fun k => evFn ((T (fun _ _ => ⟨[5], [], [], false⟩) k).cx [(273, S273 k)]) 5 Tryz.f220 (S220 0).params (S220 0).res true) = fun k => (S220 k).sem := by kernel_rfl
theorem ok220 {G : World → Prop} (hG : Lasts G) (k : Nat) : (S220 k).ok Tryz.prog G 220 := fn_ok (T_ok (fun _ _ => ⟨[5], [], [], false⟩) k) hG (calls := [(273, S273 k)]) ⟨ok273 hG k, trivial⟩ 5 rfl (S220 k) (congrFun e220 k)

/-- loop.example/g01402/laws.eqShard -/
def F134 (k : Nat) (a0 : D8) (a1 : D8) : Option (Bool) :=
  (bif (!decide (a0.1 = a1.1)) then some false else (bif (!decide (a0.2.1 = a1.2.1)) then some false else ((F220 k a0.2.2.1 a1.2.2.1).bind fun r1 => (bif (!r1) then some false else (bif (!decide (a0.2.2.2 = a1.2.2.2)) then some false else some true)))))
def S134 (k : Nat) : CSpec := { params := [U8, U8], res := [(.bool, false)], fresh := true, sem := fun x => F134 k x.1 x.2.1 }
theorem e134 : (fun k => evFn ((T (fun _ _ => ⟨[], [], [], false⟩) k).cx [(220, S220 k)]) 5 Tryz.f134 (S134 0).params (S134 0).res true) = fun k => (S134 k).sem := by kernel_rfl
theorem ok134 {G : World → Prop} (hG : Lasts G) (k : Nat) : (S134 k).ok Tryz.prog G 134 := fn_ok (T_ok (fun _ _ => ⟨[], [], [], false⟩) k) hG (calls := [(220, S220 k)]) ⟨ok220 hG k, trivial⟩ 5 rfl (S134 k) (congrFun e134 k)

/-- loop.example/g01402/laws.eqShardS -/
def F48 (k : Nat) (a0 : List D8) (a1 : List D8) : Option (Bool) :=
  (bif (!decide ((a0.length : Int) = (a1.length : Int))) then some false else (iter (σ := Int × Unit) (fun rec5 x4 => (bif (decide (x4.1 < (a0.length : Int))) then (bif (decide (0 ≤ x4.1 ∧ x4.1 < (a0.length : Int))) then (bif (decide (0 ≤ x4.1 ∧ x4.1 < (a1.length : Int))) then ((F134 k (a0.getD x4.1.toNat Z8) (a1.getD x4.1.toNat Z8)).bind fun r6 => (bif (!r6) then some false else (rec5 ((wrap64 (x4.1 + (1 : Int))), ())))) else none) else none) else some true)) k ((0 : Int), ())))
def S48 (k : Nat) : CSpec := { params := [(.slice U8), (.slice U8)], res := [(.bool, false)], fresh := true, sem := fun x => F48 k x.1 x.2.1 }
theorem e48 : (fun k => evFn ((T (fun _ _ => ⟨[5], [], [], false⟩) k).cx [(134, S134 k)]) 5 Tryz.f48 (S48 0).params (S48 0).res true) = fun k => (S48 k).sem := by kernel_rfl
theorem ok48 {G : World → Prop} (hG : Lasts G) (k : Nat) : (S48 k).ok Tryz.prog G 48 := fn_ok (T_ok (fun _ _ => ⟨[5], [], [], false⟩) k) hG (calls := [(134, S134 k)]) ⟨ok134 hG k, trivial⟩ 5 rfl (S48 k) (congrFun e48 k)

/-- loop.example/g01402/laws.eqGenRow -/
def F135 (k : Nat) (a0 : D9) (a1 : D9) : Option (Bool) :=
  (bif (!decide (a0.1 = a1.1)) then some false else (bif (!decide (a0.2 = a1.2)) then some false else some true))
def S135 (k : Nat) : CSpec := { params := [U9, U9], res := [(.bool, false)], fresh := true, sem := fun x => F135 k x.1 x.2.1 }
theorem e135 : (fun k => evFn ((T (fun _ _ => ⟨[], [], [], false⟩) k).cx []) 5 Tryz.f135 (S135 0).params (S135 0).res true) = fun k => (S135 k).sem := by kernel_rfl
theorem ok135 {G : World → Prop} (hG : Lasts G) (k : Nat) : (S135 k).ok Tryz.prog G 135 := fn_ok (T_ok (fun _ _ => ⟨[], [], [], false⟩) k) hG (calls := []) trivial 5 rfl (S135 k) (congrFun e135 k)

/-- loop.example/g01402/laws.eqGenRowS -/
def F49 (k : Nat) (a0 : List D9) (a1 : List D9) : Option (Bool) :=
  (bif (!decide ((a0.length : Int) = (a1.length : Int))) then some false else (iter (σ := Int × Unit) (fun rec5 x4 => (bif (decide (x4.1 < (a0.length : Int))) then (bif (decide (0 ≤ x4.1 ∧ x4.1 < (a0.length : Int))) then (bif (decide (0 ≤ x4.1 ∧ x4.1 < (a1.length : Int))) then ((F135 k (a0.getD x4.1.toNat Z9) (a1.getD x4.1.toNat Z9)).bind fun r6 => (bif (!r6) then some false else (rec5 ((wrap64 (x4.1 + (1 : Int))), ())))) else none) else none) else some true)) k ((0 : Int), ())))
def S49 (k : Nat) : CSpec := { params := [(.slice U9), (.slice U9)], res := [(.bool, false)], fresh := true, sem := fun x => F49 k x.1 x.2.1 }
theorem e49 : (fun k => evFn ((T (fun _ _ => ⟨[5], [], [], false⟩) k).cx [(135, S135 k)]) 5 Tryz.f49 (S49 0).params (S49 0).res true) = fun k => (S49 k).sem := by kernel_rfl
theorem ok49 {G : World → Prop} (hG : Lasts G) (k : Nat) : (S49 k).ok Tryz.prog G 49 := fn_ok (T_ok (fun _ _ => ⟨[5], [], [], false⟩) k) hG (calls := [(135, S135 k)]) ⟨ok135 hG k, trivial⟩ 5 rfl (S49 k) (congrFun e49 k)

/-- loop.example/g01402/laws.eqCache -/
def F13 (k : Nat) (a0 : D10) (a1 : D10) : Option (Bool) :=
  ((F48 k a0.1 a1.1).bind fun r1 => (bif (!r1) then some false else ((F49 k a0.2 a1.2).bind fun r2 => (bif (!r2) then some false else some true))))
def S13 (k : Nat) : CSpec := { params := [U10, U10], res := [(.bool, false)], fresh := true, sem := fun x => F13 k x.1 x.2.1 }
theorem e13 : (fun k => evFn ((T (fun _ _ => ⟨[], [], [], false⟩) k).cx [(48, S48 k), (49, S49 k)]) 5 Tryz.f13 (S13 0).params (S13 0).res true) = fun k => (S13 k).sem := by kernel_rfl
theorem ok13 {G : World → Prop} (hG : Lasts G) (k : Nat) : (S13 k).ok Tryz.prog G 13 := fn_ok (T_ok (fun _ _ => ⟨[], [], [], false⟩) k) hG (calls := [(48, S48 k), (49, S49 k)]) ⟨ok48 hG k, ok49 hG k, trivial⟩ 5 rfl (S13 k) (congrFun e13 k)

/-- loop.example/g01402/laws.eqFlight -/
def F181 (k : Nat) (a0 : D14) (a1 : D14) : Option (Bool) :=
  (bif (!decide (a0.1 = a1.1)) then some false else (bif (!(a0.2.1 == a1.2.1)) then some false else (bif (!decide (a0.2.2.1 = a1.2.2.1)) then some false else (bif (!(a0.2.2.2.1 == a1.2.2.2.1)) then some false else (bif (!(a0.2.2.2.2.1 == a1.2.2.2.2.1)) then some false else ((F136 k a0.2.2.2.2.2.1 a1.2.2.2.2.2.1).bind fun r1 => (bif (!r1) then some false else ((F66 k a0.2.2.2.2.2.2.1 a1.2.2.2.2.2.2.1).bind fun r2 => (bif (!r2) then some false else (bif (!decide (a0.2.2.2.2.2.2.2.1 = a1.2.2.2.2.2.2.2.1)) then some false else (bif (!decide (a0.2.2.2.2.2.2.2.2 = a1.2.2.2.2.2.2.2.2)) then some false else some true)))))))))))
def S181 (k : Nat) : CSpec := { params := [U14, U14], res := [(.bool, false)], fresh := true, sem := fun x => F181 k x.1 x.2.1 }
theorem e181 : (fun k => evFn ((T (fun _ _ => ⟨[], [], [], false⟩) k).cx [(66, S66 k), (136, S136 k)]) 5 Tryz.f181 (S181 0).params (S181 0).res true) = fun k => (S181 k).sem := by kernel_rfl
theorem ok181 {G : World → Prop} (hG : Lasts G) (k : Nat) : (S181 k).ok Tryz.prog G 181 := fn_ok (T_ok (fun _ _ => ⟨[], [], [], false⟩) k) hG (calls := [(66, S66 k), (136, S136 k)]) ⟨ok66 hG k, ok136 hG k, trivial⟩ 5 rfl (S181 k) (congrFun e181 k)

/-- loop.example/g01402/laws.eqFlightS -/
def F81 (k : Nat) (a0 : List D14) (a1 : List D14) : Option (Bool) :=
  (bif (!decide ((a0.length : Int) = (a1.length : Int))) then some false else (iter (σ := Int × Unit) (fun rec5 x4 => (bif (decide (x4.1 < (a0.length : Int))) then (bif (decide (0 ≤ x4.1 ∧ x4.1 < (a0.length : Int))) then (bif (decide (0 ≤ x4.1 ∧ x4.1 < (a1.length : Int))) then ((F181 k (a0.getD x4.1.toNat Z14) (a1.getD x4.1.toNat Z14)).bind fun r6 => (bif (!r6) then some false else (rec5 ((wrap64 (x4.1 + (1 : Int))), ())))) else none) else none) else some true)) k ((0 : Int), ())))
def S81 (k : Nat) : CSpec := { params := [(.slice U14), (.slice U14)], res := [(.bool, false)], fresh := true, sem := fun x => F81 k x.1 x.2.1 }
theorem e81 : (fun k => evFn ((T (fun _ _ => ⟨[5], [], [], false⟩) k).cx [(181, S181 k)]) 5 Tryz.f81 (S81 0).params (S81 0).res true) = fun k => (S81 k).sem := by kernel_rfl
theorem ok81 {G : World → Prop} (hG : Lasts G) (k : Nat) : (S81 k).ok Tryz.prog G 81 := fn_ok (T_ok (fun _ _ => ⟨[5], [], [], false⟩) k) hG (calls := [(181, S181 k)]) ⟨ok181 hG k, trivial⟩ 5 rfl (S81 k) (congrFun e81 k)

/-- loop.example/g01402/laws.eqRes -/
def F254 (k : Nat) (a0 : D1) (a1 : D1) : Option (Bool) :=
  (bif (!decide (a0.1 = a1.1)) then some false else (bif (!decide (a0.2.1 = a1.2.1)) then some false else (bif (!decide (a0.2.2.1 = a1.2.2.1)) then some false else (bif (!decide (a0.2.2.2.1 = a1.2.2.2.1)) then some false else (bif (!(a0.2.2.2.2.1 == a1.2.2.2.2.1)) then some false else (bif (!(a0.2.2.2.2.2.1 == a1.2.2.2.2.2.1)) then some false else ((F65 k a0.2.2.2.2.2.2 a1.2.2.2.2.2.2).bind fun r1 => (bif (!r1) then some false else some true))))))))
def S254 (k : Nat) : CSpec := { params := [U1, U1], res := [(.bool, false)], fresh := true, sem := fun x => F254 k x.1 x.2.1 }
theorem e254 : (fun k => evFn ((T (fun _ _ => ⟨[], [], [], false⟩) k).cx [(65, S65 k)]) 5 Tryz.f254 (S254 0).params (S254 0).res true) = fun k => (S254 k).sem := by kernel_rfl
theorem ok254 {G : World → Prop} (hG : Lasts G) (k : Nat) : (S254 k).ok Tryz.prog G 254 := fn_ok (T_ok (fun _ _ => ⟨[], [], [], false⟩) k) hG (calls := [(65, S65 k)]) ⟨ok65 hG k, trivial⟩ 5 rfl (S254 k) (congrFun e254 k)

/-- loop.example/g01402/laws.eqResS -/
def F182 (k : Nat) (a0 : List D1) (a1 : List D1) : Option (Bool) :=
  (bif (!decide ((a0.length : Int) = (a1.length : Int))) then some false else (iter (σ := Int × Unit) (fun rec5 x4 => (bif (decide (x4.1 < (a0.length : Int))) then (bif (decide (0 ≤ x4.1 ∧ x4.1 < (a0.length : Int))) then (bif (decide (0 ≤ x4.1 ∧ x4.1 < (a1.length : Int))) then ((F254 k (a0.getD x4.1.toNat Z1) (a1.getD x4.1.toNat Z1)).bind fun r6 => (bif (!r6) then some false else (rec5 ((wrap64 (x4.1 + (1 : Int))), ())))) else none) else none) else some true)) k ((0 : Int), ())))
def S182 (k : Nat) : CSpec := { params := [(.slice U1), (.slice U1)], res := [(.bool, false)], fresh := true, sem := fun x => F182 k x.1 x.2.1 }
theorem e182 : (fun k => evFn ((T (fun _ _ => ⟨[5], [], [], false⟩) k).cx [(254, S254 k)]) 5 Tryz.f182 (S182 0).params (S182 0).res true) = fun k => (S182 k).sem := by kernel_rfl
theorem ok182 {G : World → Prop} (hG : Lasts G) (k : Nat) : (S182 k).ok Tryz.prog G 182 := fn_ok (T_ok (fun _ _ => ⟨[5], [], [], false⟩) k) hG (calls := [(254, S254 k)]) ⟨ok254 hG k, trivial⟩ 5 rfl (S182 k) (congrFun e182 k)

/-- loop.example/g01402/laws.eqOrigin -/
def F82 (k : Nat) (a0 : D2) (a1 : D2) : Option (Bool) :=
  ((F182 k a0 a1).bind fun r1 => (bif (!r1) then some false else some true))
def S82 (k : Nat) : CSpec := { params := [U2, U2], res := [(.bool, false)], fresh := true, sem := fun x => F82 k x.1 x.2.1 }
theorem e82 : (fun k => evFn ((T (fun _ _ => ⟨[], [], [], false⟩) k).cx [(182, S182 k)]) 5 Tryz.f82 (S82 0).params (S82 0).res true) = fun k => (S82 k).sem := by kernel_rfl
theorem ok82 {G : World → Prop} (hG : Lasts G) (k : Nat) : (S82 k).ok Tryz.prog G 82 := fn_ok (T_ok (fun _ _ => ⟨[], [], [], false⟩) k) hG (calls := [(182, S182 k)]) ⟨ok182 hG k, trivial⟩ 5 rfl (S82 k) (congrFun e82 k)

/-- loop.example/g01402/laws.eqEvent -/
def F183 (k : Nat) (a0 : D15) (a1 : D15) : Option (Bool) :=
  (bif (!decide (a0.1 = a1.1)) then some false else (bif (!decide (a0.2.1 = a1.2.1)) then some false else (bif (!decide (a0.2.2.1 = a1.2.2.1)) then some false else (bif (!decide (a0.2.2.2.1 = a1.2.2.2.1)) then some false else (bif (!decide (a0.2.2.2.2.1 = a1.2.2.2.2.1)) then some false else (bif (!decide (a0.2.2.2.2.2 = a1.2.2.2.2.2)) then some false else some true))))))
def S183 (k : Nat) : CSpec := { params := [U15, U15], res := [(.bool, false)], fresh := true, sem := fun x => F183 k x.1 x.2.1 }
theorem e183 : (fun k => evFn ((T (fun _ _ => ⟨[], [], [], false⟩) k).cx []) 5 Tryz.f183 (S183 0).params (S183 0).res true) = fun k => (S183 k).sem := by kernel_rfl
theorem ok183 {G : World → Prop} (hG : Lasts G) (k : Nat) : (S183 k).ok Tryz.prog G 183 := fn_ok (T_ok (fun _ _ => ⟨[], [], [], false⟩) k) hG (calls := []) trivial 5 rfl (S183 k) (congrFun e183 k)

/-- loop.example/g01402/laws.eqEventS -/
def F83 (k : Nat) (a0 : List D15) (a1 : List D15) : Option (Bool) :=
  (bif (!decide ((a0.length : Int) = (a1.length : Int))) then some false else (iter (σ := Int × Unit) (fun rec5 x4 => (bif (decide (x4.1 < (a0.length : Int))) then (bif (decide (0 ≤ x4.1 ∧ x4.1 < (a0.length : Int))) then (bif (decide (0 ≤ x4.1 ∧ x4.1 < (a1.length : Int))) then ((F183 k (a0.getD x4.1.toNat Z15) (a1.getD x4.1.toNat Z15)).bind fun r6 => (bif (!r6) then some false else (rec5 ((wrap64 (x4.1 + (1 : Int))), ())))) else none) else none) else some true)) k ((0 : Int), ())))
def S83 (k : Nat) : CSpec := { params := [(.slice U15), (.slice U15)], res := [(.bool, false)], fresh := true, sem := fun x => F83 k x.1 x.2.1 }
theorem e83 : (fun k => evFn ((T (fun _ _ => ⟨[5], [], [], false⟩) k).cx [(183, S183 k)]) 5 Tryz.f83 (S83 0).params (S83 0).res true) = fun k => (S83 k).sem := by kernel_rfl
theorem ok83 {G : World → Prop} (hG : Lasts G) (k : Nat) : (S83 k).ok Tryz.prog G 83 := fn_ok (T_ok (fun _ _ => ⟨[5], [], [], false⟩) k) hG (calls := [(183, S183 k)]) ⟨ok183 hG k, trivial⟩ 5 rfl (S83 k) (congrFun e83 k)

/-- loop.example/g01402/laws.eqWorld -/
def F27 (k : Nat) (a0 : D16) (a1 : D16) : Option (Bool) :=
  (bif (!decide (a0.1 = a1.1)) then some false else (bif (!decide (a0.2.1 = a1.2.1)) then some false else ((F80 k a0.2.2.1 a1.2.2.1).bind fun r1 => (bif (!r1) then some false else ((F13 k a0.2.2.2.1 a1.2.2.2.1).bind fun r2 => (bif (!r2) then some false else ((F81 k a0.2.2.2.2.1 a1.2.2.2.2.1).bind fun r3 => (bif (!r3) then some false else ((F82 k a0.2.2.2.2.2.1 a1.2.2.2.2.2.1).bind fun r4 => (bif (!r4) then some false else ((F83 k a0.2.2.2.2.2.2 a1.2.2.2.2.2.2).bind fun r5 => (bif (!r5) then some false else some true))))))))))))
def S27 (k : Nat) : CSpec := { params := [U16, U16], res := [(.bool, false)], fresh := true, sem := fun x => F27 k x.1 x.2.1 }
theorem e27 : (fun k => evFn ((T (fun _ _ => ⟨[], [], [], false⟩) k).cx [(13, S13 k), (80, S80 k), (81, S81 k), (82, S82 k), (83, S83 k)]) 5 Tryz.f27 (S27 0).params (S27 0).res true) = fun k => (S27 k).sem := by kernel_rfl
theorem ok27 {G : World → Prop} (hG : Lasts G) (k : Nat) : (S27 k).ok Tryz.prog G 27 := fn_ok (T_ok (fun _ _ => ⟨[], [], [], false⟩) k) hG (calls := [(13, S13 k), (80, S80 k), (81, S81 k), (82, S82 k), (83, S83 k)]) ⟨ok13 hG k, ok80 hG k, ok81 hG k, ok82 hG k, ok83 hG k, trivial⟩ 5 rfl (S27 k) (congrFun e27 k)

/-- loop.example/g01402/laws.eqStringS -/
def F84 (k : Nat) (a0 : List ByteArray) (a1 : List ByteArray) : Option (Bool) :=
  (bif (!decide ((a0.length : Int) = (a1.length : Int))) then some false else (iter (σ := Int × Unit) (fun rec4 x3 => (bif (decide (x3.1 < (a0.length : Int))) then (bif (decide (0 ≤ x3.1 ∧ x3.1 < (a0.length : Int))) then (bif (decide (0 ≤ x3.1 ∧ x3.1 < (a1.length : Int))) then (bif (!decide ((a0.getD x3.1.toNat (ByteArray.mk #[])) = (a1.getD x3.1.toNat (ByteArray.mk #[])))) then some false else (rec4 ((wrap64 (x3.1 + (1 : Int))), ()))) else none) else none) else some true)) k ((0 : Int), ())))
def S84 (k : Nat) : CSpec := { params := [(.slice .str), (.slice .str)], res := [(.bool, false)], fresh := true, sem := fun x => F84 k x.1 x.2.1 }
theorem e84 : (fun k => evFn ((T (fun _ _ => ⟨[5], [], [], false⟩) k).cx []) 5 Tryz.f84 (S84 0).params (S84 0).res true) = fun k => (S84 k).sem := by kernel_rfl
theorem ok84 {G : World → Prop} (hG : Lasts G) (k : Nat) : (S84 k).ok Tryz.prog G 84 := fn_ok (T_ok (fun _ _ => ⟨[5], [], [], false⟩) k) hG (calls := []) trivial 5 rfl (S84 k) (congrFun e84 k)

/-- loop.example/g01402/laws.eqEntry -/
def F184 (k : Nat) (a0 : D3) (a1 : D3) : Option (Bool) :=
  (bif (!decide (a0.1 = a1.1)) then some false else (bif (!decide (a0.2.1 = a1.2.1)) then some false else (bif (!decide (a0.2.2 = a1.2.2)) then some false else some true)))
def S184 (k : Nat) : CSpec := { params := [U3, U3], res := [(.bool, false)], fresh := true, sem := fun x => F184 k x.1 x.2.1 }
theorem e184 : (fun k => evFn ((T (fun _ _ => ⟨[], [], [], false⟩) k).cx []) 5 Tryz.f184 (S184 0).params (S184 0).res true) = fun k => (S184 k).sem := by kernel_rfl
theorem ok184 {G : World → Prop} (hG : Lasts G) (k : Nat) : (S184 k).ok Tryz.prog G 184 := fn_ok (T_ok (fun _ _ => ⟨[], [], [], false⟩) k) hG (calls := []) trivial 5 rfl (S184 k) (congrFun e184 k)

/-- loop.example/g01402/laws.eqEntryS -/
def F85 (k : Nat) (a0 : List D3) (a1 : List D3) : Option (Bool) :=
  (bif (!decide ((a0.length : Int) = (a1.length : Int))) then some false else (iter (σ := Int × Unit) (fun rec5 x4 => (bif (decide (x4.1 < (a0.length : Int))) then (bif (decide (0 ≤ x4.1 ∧ x4.1 < (a0.length : Int))) then (bif (decide (0 ≤ x4.1 ∧ x4.1 < (a1.length : Int))) then ((F184 k (a0.getD x4.1.toNat Z3) (a1.getD x4.1.toNat Z3)).bind fun r6 => (bif (!r6) then some false else (rec5 ((wrap64 (x4.1 + (1 : Int))), ())))) else none) else none) else some true)) k ((0 : Int), ())))
def S85 (k : Nat) : CSpec := { params := [(.slice U3), (.slice U3)], res := [(.bool, false)], fresh := true, sem := fun x => F85 k x.1 x.2.1 }
theorem e85 : (fun k => evFn ((T (fun _ _ => ⟨[5], [], [], false⟩) k).cx [(184, S184 k)]) 5 Tryz.f85 (S85 0).params (S85 0).res true) = fun k => (S85 k).sem := by kernel_rfl
theorem ok85 {G : World → Prop} (hG : Lasts G) (k : Nat) : (S85 k).ok Tryz.prog G 85 := fn_ok (T_ok (fun _ _ => ⟨[5], [], [], false⟩) k) hG (calls := [(184, S184 k)]) ⟨ok184 hG k, trivial⟩ 5 rfl (S85 k) (congrFun e85 k)

/-- loop.example/g01402/laws.eqScript -/
def F28 (k : Nat) (a0 : D4) (a1 : D4) : Option (Bool) :=
  ((F84 k a0.1 a1.1).bind fun r1 => (bif (!r1) then some false else (bif (!decide (a0.2.1 = a1.2.1)) then some false else (bif (!decide (a0.2.2.1 = a1.2.2.1)) then some false else (bif (!decide (a0.2.2.2.1 = a1.2.2.2.1)) then some false else ((F82 k a0.2.2.2.2.1 a1.2.2.2.2.1).bind fun r2 => (bif (!r2) then some false else ((F85 k a0.2.2.2.2.2 a1.2.2.2.2.2).bind fun r3 => (bif (!r3) then some false else some true)))))))))
def S28 (k : Nat) : CSpec := { params := [U4, U4], res := [(.bool, false)], fresh := true, sem := fun x => F28 k x.1 x.2.1 }
theorem e28 : (fun k => evFn ((T (fun _ _ => ⟨[], [], [], false⟩) k).cx [(82, S82 k), (84, S84 k), (85, S85 k)]) 5 Tryz.f28 (S28 0).params (S28 0).res true) = fun k => (S28 k).sem := by kernel_rfl
theorem ok28 {G : World → Prop} (hG : Lasts G) (k : Nat) : (S28 k).ok Tryz.prog G 28 := fn_ok (T_ok (fun _ _ => ⟨[], [], [], false⟩) k) hG (calls := [(82, S82 k), (84, S84 k), (85, S85 k)]) ⟨ok82 hG k, ok84 hG k, ok85 hG k, trivial⟩ 5 rfl (S28 k) (congrFun e28 k)

/-- loop.example/g01402/laws.markText -/
def F53 (k : Nat) (a0 : Int) : Option (ByteArray) :=
  (bif (decide (a0 ≤ (0 : Int))) then some (ByteArray.mk #[109, 48]) else (iter (σ := Int × ByteArray × Unit) (fun rec4 x3 => (bif (decide ((0 : Int) < x3.1)) then (bif (decide ((10 : Int) = 0)) then none else (bif (decide ((strOf ([(wr .u8 ((wrap64 ((48 : Int) + (x3.1.tmod (10 : Int))))))] : List Int)).size + x3.2.1.size < mostText)) then (bif (decide ((10 : Int) = 0)) then none else (rec4 ((wrap64 (x3.1.tdiv (10 : Int))), ((strOf ([(wr .u8 ((wrap64 ((48 : Int) + (x3.1.tmod (10 : Int))))))] : List Int)) ++ x3.2.1), ()))) else none)) else (bif (decide ((ByteArray.mk #[109]).size + x3.2.1.size < mostText)) then some ((ByteArray.mk #[109]) ++ x3.2.1) else none))) k (a0, (ByteArray.mk #[]), ())))
def S53 (k : Nat) : CSpec := { params := [(.int .i64)], res := [(.str, false)], fresh := true, sem := fun x => F53 k x.1 }
theorem e53 : (fun k => evFn ((T (fun _ _ => ⟨[0, 3], [], [], false⟩) k).cx []) 5 Tryz.f53 (S53 0).params (S53 0).res true) = fun k => (S53 k).sem := by kernel_rfl
theorem ok53 {G : World → Prop} (hG : Lasts G) (k : Nat) : (S53 k).ok Tryz.prog G 53 := fn_ok (T_ok (fun _ _ => ⟨[0, 3], [], [], false⟩) k) hG (calls := []) trivial 5 rfl (S53 k) (congrFun e53 k)

/-- loop.example/g01402/laws.heldFieldS -/
def F68 (k : Nat) (a0 : List D0) (a1 : Int) : Option (Int) :=
  (iter (σ := Int × Int × Unit) (fun rec6 x5 => (bif (decide (x5.2.1 < (a0.length : Int))) then (bif (decide (0 ≤ x5.2.1 ∧ x5.2.1 < (a0.length : Int))) then ((F53 k x5.1).bind fun r7 => (bif (!decide ((a0.getD x5.2.1.toNat Z0).1 = r7)) then some (-1 : Int) else (bif (decide (0 ≤ x5.2.1 ∧ x5.2.1 < (a0.length : Int))) then ((F53 k (wrap64 (x5.1 + (1 : Int)))).bind fun r8 => (bif (!decide ((a0.getD x5.2.1.toNat Z0).2 = r8)) then some (-1 : Int) else (rec6 ((wrap64 ((wrap64 (x5.1 + (1 : Int))) + (1 : Int))), (wrap64 (x5.2.1 + (1 : Int))), ())))) else none))) else none) else some x5.1)) k (a1, (0 : Int), ()))
def S68 (k : Nat) : CSpec := { params := [(.slice U0), (.int .i64)], res := [((.int .i64), false)], fresh := true, sem := fun x => F68 k x.1 x.2.1 }
theorem e68 : (fun k => evFn ((T (fun _ _ => ⟨[1, 5], [], [], false⟩) k).cx [(53, S53 k)]) 5 Tryz.f68 (S68 0).params (S68 0).res true) = fun k => (S68 k).sem := by kernel_rfl
theorem ok68 {G : World → Prop} (hG : Lasts G) (k : Nat) : (S68 k).ok Tryz.prog G 68 := fn_ok (T_ok (fun _ _ => ⟨[1, 5], [], [], false⟩) k) hG (calls := [(53, S53 k)]) ⟨ok53 hG k, trivial⟩ 5 rfl (S68 k) (congrFun e68 k)

/-- loop.example/g01402/laws.heldToldS -/
def F187 (k : Nat) (a0 : List D12) (a1 : Int) : Option (Int) :=
  (iter (σ := Int × Int × Unit) (fun rec6 x5 => (bif (decide (x5.2.1 < (a0.length : Int))) then (bif (decide (0 ≤ x5.2.1 ∧ x5.2.1 < (a0.length : Int))) then (bif (!decide ((a0.getD x5.2.1.toNat Z12).1 = x5.1)) then some (-1 : Int) else (bif (decide (0 ≤ x5.2.1 ∧ x5.2.1 < (a0.length : Int))) then (bif (!decide ((a0.getD x5.2.1.toNat Z12).2.1 = (wrap64 (x5.1 + (1 : Int))))) then some (-1 : Int) else (bif (decide (0 ≤ x5.2.1 ∧ x5.2.1 < (a0.length : Int))) then ((F68 k (a0.getD x5.2.1.toNat Z12).2.2.1 (wrap64 ((wrap64 (x5.1 + (1 : Int))) + (1 : Int)))).bind fun r7 => (bif (decide (r7 < (0 : Int))) then some (-1 : Int) else (bif (decide (0 ≤ x5.2.1 ∧ x5.2.1 < (a0.length : Int))) then ((F53 k r7).bind fun r8 => (bif (!decide ((a0.getD x5.2.1.toNat Z12).2.2.2 = r8)) then some (-1 : Int) else (rec6 ((wrap64 (r7 + (1 : Int))), (wrap64 (x5.2.1 + (1 : Int))), ())))) else none))) else none)) else none)) else none) else some x5.1)) k (a1, (0 : Int), ()))
def S187 (k : Nat) : CSpec := { params := [(.slice U12), (.int .i64)], res := [((.int .i64), false)], fresh := true, sem := fun x => F187 k x.1 x.2.1 }
theorem e187 : (fun k => evFn ((T (fun _ _ => ⟨[1, 5], [], [], false⟩) k).cx [(53, S53 k), (68, S68 k)]) 5 Tryz.f187 (S187 0).params (S187 0).res true) = fun k => (S187 k).sem := by kernel_rfl
theorem ok187 {G : World → Prop} (hG : Lasts G) (k : Nat) : (S187 k).ok Tryz.prog G 187 := fn_ok (T_ok (fun _ _ => ⟨[1, 5], [], [], false⟩) k) hG (calls := [(53, S53 k), (68, S68 k)]) ⟨ok53 hG k, ok68 hG k, trivial⟩ 5 rfl (S187 k) (congrFun e187 k)

/-- loop.example/g01402/laws.heldConnS -/
def F92 (k : Nat) (a0 : List D13) (a1 : Int) : Option (Int) :=
  (iter (σ := Int × Int × Unit) (fun rec20 x19 => (bif (decide (x19.2.1 < (a0.length : Int))) then (bif (decide (0 ≤ x19.2.1 ∧ x19.2.1 < (a0.length : Int))) then (bif (!decide ((a0.getD x19.2.1.toNat Z13).1 = x19.1)) then some (-1 : Int) else (bif (decide (0 ≤ x19.2.1 ∧ x19.2.1 < (a0.length : Int))) then ((F53 k (wrap64 (x19.1 + (1 : Int)))).bind fun r21 => (bif (!decide ((a0.getD x19.2.1.toNat Z13).2.1 = r21)) then some (-1 : Int) else (bif (decide (0 ≤ x19.2.1 ∧ x19.2.1 < (a0.length : Int))) then (bif (!decide ((a0.getD x19.2.1.toNat Z13).2.2.1 = (wrap64 ((wrap64 (x19.1 + (1 : Int))) + (1 : Int))))) then some (-1 : Int) else (bif (decide (0 ≤ x19.2.1 ∧ x19.2.1 < (a0.length : Int))) then ((F53 k (wrap64 ((wrap64 ((wrap64 (x19.1 + (1 : Int))) + (1 : Int))) + (1 : Int)))).bind fun r22 => (bif (!decide ((a0.getD x19.2.1.toNat Z13).2.2.2.1.1 = r22)) then some (-1 : Int) else (bif (decide (0 ≤ x19.2.1 ∧ x19.2.1 < (a0.length : Int))) then ((F53 k (wrap64 ((wrap64 ((wrap64 ((wrap64 (x19.1 + (1 : Int))) + (1 : Int))) + (1 : Int))) + (1 : Int)))).bind fun r23 => (bif (!decide ((a0.getD x19.2.1.toNat Z13).2.2.2.1.2.1 = r23)) then some (-1 : Int) else (bif (decide (0 ≤ x19.2.1 ∧ x19.2.1 < (a0.length : Int))) then ((F68 k (a0.getD x19.2.1.toNat Z13).2.2.2.1.2.2.1 (wrap64 ((wrap64 ((wrap64 ((wrap64 ((wrap64 (x19.1 + (1 : Int))) + (1 : Int))) + (1 : Int))) + (1 : Int))) + (1 : Int)))).bind fun r24 => (bif (decide (r24 < (0 : Int))) then some (-1 : Int) else (bif (decide (0 ≤ x19.2.1 ∧ x19.2.1 < (a0.length : Int))) then ((F53 k r24).bind fun r25 => (bif (!decide ((a0.getD x19.2.1.toNat Z13).2.2.2.1.2.2.2 = r25)) then some (-1 : Int) else (bif (decide (0 ≤ x19.2.1 ∧ x19.2.1 < (a0.length : Int))) then ((F53 k (wrap64 (r24 + (1 : Int)))).bind fun r26 => (bif (!decide ((a0.getD x19.2.1.toNat Z13).2.2.2.2.1.1 = r26)) then some (-1 : Int) else (bif (decide (0 ≤ x19.2.1 ∧ x19.2.1 < (a0.length : Int))) then ((F53 k (wrap64 ((wrap64 (r24 + (1 : Int))) + (1 : Int)))).bind fun r27 => (bif (!decide ((a0.getD x19.2.1.toNat Z13).2.2.2.2.1.2.1 = r27)) then some (-1 : Int) else (bif (decide (0 ≤ x19.2.1 ∧ x19.2.1 < (a0.length : Int))) then ((F68 k (a0.getD x19.2.1.toNat Z13).2.2.2.2.1.2.2.1 (wrap64 ((wrap64 ((wrap64 (r24 + (1 : Int))) + (1 : Int))) + (1 : Int)))).bind fun r28 => (bif (decide (r28 < (0 : Int))) then some (-1 : Int) else (bif (decide (0 ≤ x19.2.1 ∧ x19.2.1 < (a0.length : Int))) then ((F53 k r28).bind fun r29 => (bif (!decide ((a0.getD x19.2.1.toNat Z13).2.2.2.2.1.2.2.2 = r29)) then some (-1 : Int) else (bif (decide (0 ≤ x19.2.1 ∧ x19.2.1 < (a0.length : Int))) then ((F53 k (wrap64 (r28 + (1 : Int)))).bind fun r30 => (bif (!decide ((a0.getD x19.2.1.toNat Z13).2.2.2.2.2.1.1 = r30)) then some (-1 : Int) else (bif (decide (0 ≤ x19.2.1 ∧ x19.2.1 < (a0.length : Int))) then ((F68 k (a0.getD x19.2.1.toNat Z13).2.2.2.2.2.1.2.1 (wrap64 ((wrap64 (r28 + (1 : Int))) + (1 : Int)))).bind fun r31 => (bif (decide (r31 < (0 : Int))) then some (-1 : Int) else (bif (decide (0 ≤ x19.2.1 ∧ x19.2.1 < (a0.length : Int))) then (bif (!decide ((a0.getD x19.2.1.toNat Z13).2.2.2.2.2.1.2.2.1.1 = r31)) then some (-1 : Int) else (bif (decide (0 ≤ x19.2.1 ∧ x19.2.1 < (a0.length : Int))) then ((F68 k (a0.getD x19.2.1.toNat Z13).2.2.2.2.2.1.2.2.1.2.1 (wrap64 (r31 + (1 : Int)))).bind fun r32 => (bif (decide (r32 < (0 : Int))) then some (-1 : Int) else (bif (decide (0 ≤ x19.2.1 ∧ x19.2.1 < (a0.length : Int))) then ((F53 k r32).bind fun r33 => (bif (!decide ((a0.getD x19.2.1.toNat Z13).2.2.2.2.2.1.2.2.1.2.2 = r33)) then some (-1 : Int) else (bif (decide (0 ≤ x19.2.1 ∧ x19.2.1 < (a0.length : Int))) then (bif (!decide ((a0.getD x19.2.1.toNat Z13).2.2.2.2.2.1.2.2.2.1 = (wrap64 (r32 + (1 : Int))))) then some (-1 : Int) else (bif (decide (0 ≤ x19.2.1 ∧ x19.2.1 < (a0.length : Int))) then (bif (!decide ((a0.getD x19.2.1.toNat Z13).2.2.2.2.2.1.2.2.2.2 = (wrap64 ((wrap64 (r32 + (1 : Int))) + (1 : Int))))) then some (-1 : Int) else (bif (decide (0 ≤ x19.2.1 ∧ x19.2.1 < (a0.length : Int))) then (bif (decide ((3 : Int) = 0)) then none else (bif (!((a0.getD x19.2.1.toNat Z13).2.2.2.2.2.2.1 == (decide (((wrap64 ((wrap64 ((wrap64 (r32 + (1 : Int))) + (1 : Int))) + (1 : Int))).tmod (3 : Int)) = (0 : Int))))) then some (-1 : Int) else (bif (decide (0 ≤ x19.2.1 ∧ x19.2.1 < (a0.length : Int))) then (bif (!decide ((a0.getD x19.2.1.toNat Z13).2.2.2.2.2.2.2.1 = (wrap64 ((wrap64 ((wrap64 ((wrap64 (r32 + (1 : Int))) + (1 : Int))) + (1 : Int))) + (1 : Int))))) then some (-1 : Int) else (bif (decide (0 ≤ x19.2.1 ∧ x19.2.1 < (a0.length : Int))) then (bif (!decide ((a0.getD x19.2.1.toNat Z13).2.2.2.2.2.2.2.2.1 = (wrap64 ((wrap64 ((wrap64 ((wrap64 ((wrap64 (r32 + (1 : Int))) + (1 : Int))) + (1 : Int))) + (1 : Int))) + (1 : Int))))) then some (-1 : Int) else (bif (decide (0 ≤ x19.2.1 ∧ x19.2.1 < (a0.length : Int))) then (bif (!decide ((a0.getD x19.2.1.toNat Z13).2.2.2.2.2.2.2.2.2.1 = (wrap64 ((wrap64 ((wrap64 ((wrap64 ((wrap64 ((wrap64 (r32 + (1 : Int))) + (1 : Int))) + (1 : Int))) + (1 : Int))) + (1 : Int))) + (1 : Int))))) then some (-1 : Int) else (bif (decide (0 ≤ x19.2.1 ∧ x19.2.1 < (a0.length : Int))) then (bif (!decide ((a0.getD x19.2.1.toNat Z13).2.2.2.2.2.2.2.2.2.2.1 = (wrap64 ((wrap64 ((wrap64 ((wrap64 ((wrap64 ((wrap64 ((wrap64 (r32 + (1 : Int))) + (1 : Int))) + (1 : Int))) + (1 : Int))) + (1 : Int))) + (1 : Int))) + (1 : Int))))) then some (-1 : Int) else (bif (decide (0 ≤ x19.2.1 ∧ x19.2.1 < (a0.length : Int))) then (bif (decide ((3 : Int) = 0)) then none else (bif (!((a0.getD x19.2.1.toNat Z13).2.2.2.2.2.2.2.2.2.2.2.1 == (decide (((wrap64 ((wrap64 ((wrap64 ((wrap64 ((wrap64 ((wrap64 ((wrap64 ((wrap64 (r32 + (1 : Int))) + (1 : Int))) + (1 : Int))) + (1 : Int))) + (1 : Int))) + (1 : Int))) + (1 : Int))) + (1 : Int))).tmod (3 : Int)) = (0 : Int))))) then some (-1 : Int) else (bif (decide (0 ≤ x19.2.1 ∧ x19.2.1 < (a0.length : Int))) then (bif (!decide ((a0.getD x19.2.1.toNat Z13).2.2.2.2.2.2.2.2.2.2.2.2.1.1 = (wrap64 ((wrap64 ((wrap64 ((wrap64 ((wrap64 ((wrap64 ((wrap64 ((wrap64 ((wrap64 (r32 + (1 : Int))) + (1 : Int))) + (1 : Int))) + (1 : Int))) + (1 : Int))) + (1 : Int))) + (1 : Int))) + (1 : Int))) + (1 : Int))))) then some (-1 : Int) else (bif (decide (0 ≤ x19.2.1 ∧ x19.2.1 < (a0.length : Int))) then ((F68 k (a0.getD x19.2.1.toNat Z13).2.2.2.2.2.2.2.2.2.2.2.2.1.2.1 (wrap64 ((wrap64 ((wrap64 ((wrap64 ((wrap64 ((wrap64 ((wrap64 ((wrap64 ((wrap64 ((wrap64 (r32 + (1 : Int))) + (1 : Int))) + (1 : Int))) + (1 : Int))) + (1 : Int))) + (1 : Int))) + (1 : Int))) + (1 : Int))) + (1 : Int))) + (1 : Int)))).bind fun r34 => (bif (decide (r34 < (0 : Int))) then some (-1 : Int) else (bif (decide (0 ≤ x19.2.1 ∧ x19.2.1 < (a0.length : Int))) then ((F53 k r34).bind fun r35 => (bif (!decide ((a0.getD x19.2.1.toNat Z13).2.2.2.2.2.2.2.2.2.2.2.2.1.2.2 = r35)) then some (-1 : Int) else (bif (decide (0 ≤ x19.2.1 ∧ x19.2.1 < (a0.length : Int))) then ((F187 k (a0.getD x19.2.1.toNat Z13).2.2.2.2.2.2.2.2.2.2.2.2.2 (wrap64 (r34 + (1 : Int)))).bind fun r36 => (bif (decide (r36 < (0 : Int))) then some (-1 : Int) else (rec20 (r36, (wrap64 (x19.2.1 + (1 : Int))), ())))) else none))) else none))) else none)) else none))) else none)) else none)) else none)) else none)) else none))) else none)) else none)) else none))) else none))) else none)) else none))) else none))) else none))) else none))) else none))) else none))) else none))) else none))) else none))) else none))) else none)) else none))) else none)) else none) else some x19.1)) k (a1, (0 : Int), ()))
def S92 (k : Nat) : CSpec := { params := [(.slice U13), (.int .i64)], res := [((.int .i64), false)], fresh := true, sem := fun x => F92 k x.1 x.2.1 }
theorem e92 : (fun k => evFn ((T (fun _ _ => ⟨[1, 5], [], [], false⟩) k).cx [(53, S53 k), (68, S68 k), (187, S187 k)]) 5 Tryz.f92 (S92 0).params (S92 0).res true) = fun k => (S92 k).sem := by kernel_rfl
theorem ok92 {G : World → Prop} (hG : Lasts G) (k : Nat) : (S92 k).ok Tryz.prog G 92 := fn_ok (T_ok (fun _ _ => ⟨[1, 5], [], [], false⟩) k) hG (calls := [(53, S53 k), (68, S68 k), (187, S187 k)]) ⟨ok53 hG k, ok68 hG k, ok187 hG k, trivial⟩ 5 rfl (S92 k) (congrFun e92 k)

/-- loop.example/g01402/laws.heldSlotS -/
def F138 (k : Nat) (a0 : List D7) (a1 : Int) : Option (Int) :=
  (iter (σ := Int × Int × Unit) (fun rec8 x7 => (bif (decide (x7.2.1 < (a0.length : Int))) then (bif (decide (0 ≤ x7.2.1 ∧ x7.2.1 < (a0.length : Int))) then ((F53 k x7.1).bind fun r9 => (bif (!decide ((a0.getD x7.2.1.toNat Z7).1.1 = r9)) then some (-1 : Int) else (bif (decide (0 ≤ x7.2.1 ∧ x7.2.1 < (a0.length : Int))) then ((F68 k (a0.getD x7.2.1.toNat Z7).1.2.1 (wrap64 (x7.1 + (1 : Int)))).bind fun r10 => (bif (decide (r10 < (0 : Int))) then some (-1 : Int) else (bif (decide (0 ≤ x7.2.1 ∧ x7.2.1 < (a0.length : Int))) then (bif (!decide ((a0.getD x7.2.1.toNat Z7).1.2.2.1.1 = r10)) then some (-1 : Int) else (bif (decide (0 ≤ x7.2.1 ∧ x7.2.1 < (a0.length : Int))) then ((F68 k (a0.getD x7.2.1.toNat Z7).1.2.2.1.2.1 (wrap64 (r10 + (1 : Int)))).bind fun r11 => (bif (decide (r11 < (0 : Int))) then some (-1 : Int) else (bif (decide (0 ≤ x7.2.1 ∧ x7.2.1 < (a0.length : Int))) then ((F53 k r11).bind fun r12 => (bif (!decide ((a0.getD x7.2.1.toNat Z7).1.2.2.1.2.2 = r12)) then some (-1 : Int) else (bif (decide (0 ≤ x7.2.1 ∧ x7.2.1 < (a0.length : Int))) then (bif (!decide ((a0.getD x7.2.1.toNat Z7).1.2.2.2.1 = (wrap64 (r11 + (1 : Int))))) then some (-1 : Int) else (bif (decide (0 ≤ x7.2.1 ∧ x7.2.1 < (a0.length : Int))) then (bif (!decide ((a0.getD x7.2.1.toNat Z7).1.2.2.2.2 = (wrap64 ((wrap64 (r11 + (1 : Int))) + (1 : Int))))) then some (-1 : Int) else (bif (decide (0 ≤ x7.2.1 ∧ x7.2.1 < (a0.length : Int))) then (bif (decide ((3 : Int) = 0)) then none else (bif (!((a0.getD x7.2.1.toNat Z7).2 == (decide (((wrap64 ((wrap64 ((wrap64 (r11 + (1 : Int))) + (1 : Int))) + (1 : Int))).tmod (3 : Int)) = (0 : Int))))) then some (-1 : Int) else (rec8 ((wrap64 ((wrap64 ((wrap64 ((wrap64 (r11 + (1 : Int))) + (1 : Int))) + (1 : Int))) + (1 : Int))), (wrap64 (x7.2.1 + (1 : Int))), ())))) else none)) else none)) else none))) else none))) else none)) else none))) else none))) else none) else some x7.1)) k (a1, (0 : Int), ()))
def S138 (k : Nat) : CSpec := { params := [(.slice U7), (.int .i64)], res := [((.int .i64), false)], fresh := true, sem := fun x => F138 k x.1 x.2.1 }
theorem e138 : (fun k => evFn ((T (fun _ _ => ⟨[1, 5], [], [], false⟩) k).cx [(53, S53 k), (68, S68 k)]) 5 Tryz.f138 (S138 0).params (S138 0).res true) = fun k => (S138 k).sem := by kernel_rfl
theorem ok138 {G : World → Prop} (hG : Lasts G) (k : Nat) : (S138 k).ok Tryz.prog G 138 := fn_ok (T_ok (fun _ _ => ⟨[1, 5], [], [], false⟩) k) hG (calls := [(53, S53 k), (68, S68 k)]) ⟨ok53 hG k, ok68 hG k, trivial⟩ 5 rfl (S138 k) (congrFun e138 k)

/-- loop.example/g01402/laws.heldShardS -/
def F55 (k : Nat) (a0 : List D8) (a1 : Int) : Option (Int) :=
  (iter (σ := Int × Int × Unit) (fun rec5 x4 => (bif (decide (x4.2.1 < (a0.length : Int))) then (bif (decide (0 ≤ x4.2.1 ∧ x4.2.1 < (a0.length : Int))) then (bif (!decide ((a0.getD x4.2.1.toNat Z8).1 = x4.1)) then some (-1 : Int) else (bif (decide (0 ≤ x4.2.1 ∧ x4.2.1 < (a0.length : Int))) then (bif (!decide ((a0.getD x4.2.1.toNat Z8).2.1 = (wrap64 (x4.1 + (1 : Int))))) then some (-1 : Int) else (bif (decide (0 ≤ x4.2.1 ∧ x4.2.1 < (a0.length : Int))) then ((F138 k (a0.getD x4.2.1.toNat Z8).2.2.1 (wrap64 ((wrap64 (x4.1 + (1 : Int))) + (1 : Int)))).bind fun r6 => (bif (decide (r6 < (0 : Int))) then some (-1 : Int) else (bif (decide (0 ≤ x4.2.1 ∧ x4.2.1 < (a0.length : Int))) then (bif (!decide ((a0.getD x4.2.1.toNat Z8).2.2.2 = r6)) then some (-1 : Int) else (rec5 ((wrap64 (r6 + (1 : Int))), (wrap64 (x4.2.1 + (1 : Int))), ()))) else none))) else none)) else none)) else none) else some x4.1)) k (a1, (0 : Int), ()))
def S55 (k : Nat) : CSpec := { params := [(.slice U8), (.int .i64)], res := [((.int .i64), false)], fresh := true, sem := fun x => F55 k x.1 x.2.1 }
theorem e55 : (fun k => evFn ((T (fun _ _ => ⟨[1, 5], [], [], false⟩) k).cx [(138, S138 k)]) 5 Tryz.f55 (S55 0).params (S55 0).res true) = fun k => (S55 k).sem := by kernel_rfl
theorem ok55 {G : World → Prop} (hG : Lasts G) (k : Nat) : (S55 k).ok Tryz.prog G 55 := fn_ok (T_ok (fun _ _ => ⟨[1, 5], [], [], false⟩) k) hG (calls := [(138, S138 k)]) ⟨ok138 hG k, trivial⟩ 5 rfl (S55 k) (congrFun e55 k)

/-- loop.example/g01402/laws.heldGenRowS -/
def F56 (k : Nat) (a0 : List D9) (a1 : Int) : Option (Int) :=
  (iter (σ := Int × Int × Unit) (fun rec5 x4 => (bif (decide (x4.2.1 < (a0.length : Int))) then (bif (decide (0 ≤ x4.2.1 ∧ x4.2.1 < (a0.length : Int))) then ((F53 k x4.1).bind fun r6 => (bif (!decide ((a0.getD x4.2.1.toNat Z9).1 = r6)) then some (-1 : Int) else (bif (decide (0 ≤ x4.2.1 ∧ x4.2.1 < (a0.length : Int))) then (bif (!decide ((a0.getD x4.2.1.toNat Z9).2 = (wrap64 (x4.1 + (1 : Int))))) then some (-1 : Int) else (rec5 ((wrap64 ((wrap64 (x4.1 + (1 : Int))) + (1 : Int))), (wrap64 (x4.2.1 + (1 : Int))), ()))) else none))) else none) else some x4.1)) k (a1, (0 : Int), ()))
def S56 (k : Nat) : CSpec := { params := [(.slice U9), (.int .i64)], res := [((.int .i64), false)], fresh := true, sem := fun x => F56 k x.1 x.2.1 }
theorem e56 : (fun k => evFn ((T (fun _ _ => ⟨[1, 5], [], [], false⟩) k).cx [(53, S53 k)]) 5 Tryz.f56 (S56 0).params (S56 0).res true) = fun k => (S56 k).sem := by kernel_rfl
theorem ok56 {G : World → Prop} (hG : Lasts G) (k : Nat) : (S56 k).ok Tryz.prog G 56 := fn_ok (T_ok (fun _ _ => ⟨[1, 5], [], [], false⟩) k) hG (calls := [(53, S53 k)]) ⟨ok53 hG k, trivial⟩ 5 rfl (S56 k) (congrFun e56 k)

/-- loop.example/g01402/laws.heldCache -/
def F17 (k : Nat) (a0 : D10) (a1 : Int) : Option (Int) :=
  ((F55 k a0.1 a1).bind fun r1 => (bif (decide (r1 < (0 : Int))) then some (-1 : Int) else ((F56 k a0.2 r1).bind fun r2 => (bif (decide (r2 < (0 : Int))) then some (-1 : Int) else some r2))))
def S17 (k : Nat) : CSpec := { params := [U10, (.int .i64)], res := [((.int .i64), false)], fresh := true, sem := fun x => F17 k x.1 x.2.1 }
theorem e17 : (fun k => evFn ((T (fun _ _ => ⟨[], [], [], false⟩) k).cx [(55, S55 k), (56, S56 k)]) 5 Tryz.f17 (S17 0).params (S17 0).res true) = fun k => (S17 k).sem := by kernel_rfl
theorem ok17 {G : World → Prop} (hG : Lasts G) (k : Nat) : (S17 k).ok Tryz.prog G 17 := fn_ok (T_ok (fun _ _ => ⟨[], [], [], false⟩) k) hG (calls := [(55, S55 k), (56, S56 k)]) ⟨ok55 hG k, ok56 hG k, trivial⟩ 5 rfl (S17 k) (congrFun e17 k)

/-- loop.example/g01402/laws.heldFlightS -/
def F93 (k : Nat) (a0 : List D14) (a1 : Int) : Option (Int) :=
  (iter (σ := Int × Int × Unit) (fun rec11 x10 => (bif (decide (x10.2.1 < (a0.length : Int))) then (bif (decide (0 ≤ x10.2.1 ∧ x10.2.1 < (a0.length : Int))) then ((F53 k x10.1).bind fun r12 => (bif (!decide ((a0.getD x10.2.1.toNat Z14).1 = r12)) then some (-1 : Int) else (bif (decide (0 ≤ x10.2.1 ∧ x10.2.1 < (a0.length : Int))) then (bif (decide ((3 : Int) = 0)) then none else (bif (!((a0.getD x10.2.1.toNat Z14).2.1 == (decide (((wrap64 (x10.1 + (1 : Int))).tmod (3 : Int)) = (0 : Int))))) then some (-1 : Int) else (bif (decide (0 ≤ x10.2.1 ∧ x10.2.1 < (a0.length : Int))) then (bif (!decide ((a0.getD x10.2.1.toNat Z14).2.2.1 = (wrap64 ((wrap64 (x10.1 + (1 : Int))) + (1 : Int))))) then some (-1 : Int) else (bif (decide (0 ≤ x10.2.1 ∧ x10.2.1 < (a0.length : Int))) then (bif (decide ((3 : Int) = 0)) then none else (bif (!((a0.getD x10.2.1.toNat Z14).2.2.2.1 == (decide (((wrap64 ((wrap64 ((wrap64 (x10.1 + (1 : Int))) + (1 : Int))) + (1 : Int))).tmod (3 : Int)) = (0 : Int))))) then some (-1 : Int) else (bif (decide (0 ≤ x10.2.1 ∧ x10.2.1 < (a0.length : Int))) then (bif (decide ((3 : Int) = 0)) then none else (bif (!((a0.getD x10.2.1.toNat Z14).2.2.2.2.1 == (decide (((wrap64 ((wrap64 ((wrap64 ((wrap64 (x10.1 + (1 : Int))) + (1 : Int))) + (1 : Int))) + (1 : Int))).tmod (3 : Int)) = (0 : Int))))) then some (-1 : Int) else (bif (decide (0 ≤ x10.2.1 ∧ x10.2.1 < (a0.length : Int))) then ((F53 k (wrap64 ((wrap64 ((wrap64 ((wrap64 ((wrap64 (x10.1 + (1 : Int))) + (1 : Int))) + (1 : Int))) + (1 : Int))) + (1 : Int)))).bind fun r13 => (bif (!decide ((a0.getD x10.2.1.toNat Z14).2.2.2.2.2.1.1 = r13)) then some (-1 : Int) else (bif (decide (0 ≤ x10.2.1 ∧ x10.2.1 < (a0.length : Int))) then ((F53 k (wrap64 ((wrap64 ((wrap64 ((wrap64 ((wrap64 ((wrap64 (x10.1 + (1 : Int))) + (1 : Int))) + (1 : Int))) + (1 : Int))) + (1 : Int))) + (1 : Int)))).bind fun r14 => (bif (!decide ((a0.getD x10.2.1.toNat Z14).2.2.2.2.2.1.2.1 = r14)) then some (-1 : Int) else (bif (decide (0 ≤ x10.2.1 ∧ x10.2.1 < (a0.length : Int))) then ((F68 k (a0.getD x10.2.1.toNat Z14).2.2.2.2.2.1.2.2.1 (wrap64 ((wrap64 ((wrap64 ((wrap64 ((wrap64 ((wrap64 ((wrap64 (x10.1 + (1 : Int))) + (1 : Int))) + (1 : Int))) + (1 : Int))) + (1 : Int))) + (1 : Int))) + (1 : Int)))).bind fun r15 => (bif (decide (r15 < (0 : Int))) then some (-1 : Int) else (bif (decide (0 ≤ x10.2.1 ∧ x10.2.1 < (a0.length : Int))) then ((F53 k r15).bind fun r16 => (bif (!decide ((a0.getD x10.2.1.toNat Z14).2.2.2.2.2.1.2.2.2 = r16)) then some (-1 : Int) else (bif (decide (0 ≤ x10.2.1 ∧ x10.2.1 < (a0.length : Int))) then (bif (!decide ((a0.getD x10.2.1.toNat Z14).2.2.2.2.2.2.1.1 = (wrap64 (r15 + (1 : Int))))) then some (-1 : Int) else (bif (decide (0 ≤ x10.2.1 ∧ x10.2.1 < (a0.length : Int))) then ((F68 k (a0.getD x10.2.1.toNat Z14).2.2.2.2.2.2.1.2.1 (wrap64 ((wrap64 (r15 + (1 : Int))) + (1 : Int)))).bind fun r17 => (bif (decide (r17 < (0 : Int))) then some (-1 : Int) else (bif (decide (0 ≤ x10.2.1 ∧ x10.2.1 < (a0.length : Int))) then ((F53 k r17).bind fun r18 => (bif (!decide ((a0.getD x10.2.1.toNat Z14).2.2.2.2.2.2.1.2.2 = r18)) then some (-1 : Int) else (bif (decide (0 ≤ x10.2.1 ∧ x10.2.1 < (a0.length : Int))) then (bif (!decide ((a0.getD x10.2.1.toNat Z14).2.2.2.2.2.2.2.1 = (wrap64 (r17 + (1 : Int))))) then some (-1 : Int) else (bif (decide (0 ≤ x10.2.1 ∧ x10.2.1 < (a0.length : Int))) then (bif (!decide ((a0.getD x10.2.1.toNat Z14).2.2.2.2.2.2.2.2 = (wrap64 ((wrap64 (r17 + (1 : Int))) + (1 : Int))))) then some (-1 : Int) else (rec11 ((wrap64 ((wrap64 ((wrap64 (r17 + (1 : Int))) + (1 : Int))) + (1 : Int))), (wrap64 (x10.2.1 + (1 : Int))), ()))) else none)) else none))) else none))) else none)) else none))) else none))) else none))) else none))) else none))) else none))) else none)) else none))) else none))) else none) else some x10.1)) k (a1, (0 : Int), ()))
def S93 (k : Nat) : CSpec := { params := [(.slice U14), (.int .i64)], res := [((.int .i64), false)], fresh := true, sem := fun x => F93 k x.1 x.2.1 }
theorem e93 : (fun k => evFn ((T (fun _ _ => ⟨[1, 5], [], [], false⟩) k).cx [(53, S53 k), (68, S68 k)]) 5 Tryz.f93 (S93 0).params (S93 0).res true) = fun k => (S93 k).sem := by kernel_rfl
theorem ok93 {G : World → Prop} (hG : Lasts G) (k : Nat) : (S93 k).ok Tryz.prog G 93 := fn_ok (T_ok (fun _ _ => ⟨[1, 5], [], [], false⟩) k) hG (calls := [(53, S53 k), (68, S68 k)]) ⟨ok53 hG k, ok68 hG k, trivial⟩ 5 rfl (S93 k) (congrFun e93 k)

/-- loop.example/g01402/laws.heldResS -/
def F188 (k : Nat) (a0 : List D1) (a1 : Int) : Option (Int) :=
  (iter (σ := Int × Int × Unit) (fun rec7 x6 => (bif (decide (x6.2.1 < (a0.length : Int))) then (bif (decide (0 ≤ x6.2.1 ∧ x6.2.1 < (a0.length : Int))) then ((F53 k x6.1).bind fun r8 => (bif (!decide ((a0.getD x6.2.1.toNat Z1).1 = r8)) then some (-1 : Int) else (bif (decide (0 ≤ x6.2.1 ∧ x6.2.1 < (a0.length : Int))) then ((F53 k (wrap64 (x6.1 + (1 : Int)))).bind fun r9 => (bif (!decide ((a0.getD x6.2.1.toNat Z1).2.1 = r9)) then some (-1 : Int) else (bif (decide (0 ≤ x6.2.1 ∧ x6.2.1 < (a0.length : Int))) then (bif (!decide ((a0.getD x6.2.1.toNat Z1).2.2.1 = (wrap64 ((wrap64 (x6.1 + (1 : Int))) + (1 : Int))))) then some (-1 : Int) else (bif (decide (0 ≤ x6.2.1 ∧ x6.2.1 < (a0.length : Int))) then (bif (!decide ((a0.getD x6.2.1.toNat Z1).2.2.2.1 = (wrap64 ((wrap64 ((wrap64 (x6.1 + (1 : Int))) + (1 : Int))) + (1 : Int))))) then some (-1 : Int) else (bif (decide (0 ≤ x6.2.1 ∧ x6.2.1 < (a0.length : Int))) then (bif (decide ((3 : Int) = 0)) then none else (bif (!((a0.getD x6.2.1.toNat Z1).2.2.2.2.1 == (decide (((wrap64 ((wrap64 ((wrap64 ((wrap64 (x6.1 + (1 : Int))) + (1 : Int))) + (1 : Int))) + (1 : Int))).tmod (3 : Int)) = (0 : Int))))) then some (-1 : Int) else (bif (decide (0 ≤ x6.2.1 ∧ x6.2.1 < (a0.length : Int))) then (bif (decide ((3 : Int) = 0)) then none else (bif (!((a0.getD x6.2.1.toNat Z1).2.2.2.2.2.1 == (decide (((wrap64 ((wrap64 ((wrap64 ((wrap64 ((wrap64 (x6.1 + (1 : Int))) + (1 : Int))) + (1 : Int))) + (1 : Int))) + (1 : Int))).tmod (3 : Int)) = (0 : Int))))) then some (-1 : Int) else (bif (decide (0 ≤ x6.2.1 ∧ x6.2.1 < (a0.length : Int))) then ((F68 k (a0.getD x6.2.1.toNat Z1).2.2.2.2.2.2 (wrap64 ((wrap64 ((wrap64 ((wrap64 ((wrap64 ((wrap64 (x6.1 + (1 : Int))) + (1 : Int))) + (1 : Int))) + (1 : Int))) + (1 : Int))) + (1 : Int)))).bind fun r10 => (bif (decide (r10 < (0 : Int))) then some (-1 : Int) else (rec7 (r10, (wrap64 (x6.2.1 + (1 : Int))), ())))) else none))) else none))) else none)) else none)) else none))) else none))) else none) else some x6.1)) k (a1, (0 : Int), ()))
def S188 (k : Nat) : CSpec := { params := [(.slice U1), (.int .i64)], res := [((.int .i64), false)], fresh := true, sem := fun x => F188 k x.1 x.2.1 }
theorem e188 : (fun k => evFn ((T (fun _ _ => ⟨[1, 5], [], [], false⟩) k).cx [(53, S53 k), (68, S68 k)]) 5 Tryz.f188 (S188 0).params (S188 0).res true) = fun k => (S188 k).sem := by kernel_rfl
theorem ok188 {G : World → Prop} (hG : Lasts G) (k : Nat) : (S188 k).ok Tryz.prog G 188 := fn_ok (T_ok (fun _ _ => ⟨[1, 5], [], [], false⟩) k) hG (calls := [(53, S53 k), (68, S68 k)]) ⟨ok53 hG k, ok68 hG k, trivial⟩ 5 rfl (S188 k) (congrFun e188 k)

/-- loop.example/g01402/laws.heldOrigin -/
def F94 (k : Nat) (a0 : D2) (a1 : Int) : Option (Int) :=
  ((F188 k a0 a1).bind fun r1 => (bif (decide (r1 < (0 : Int))) then some (-1 : Int) else some r1))
def S94 (k : Nat) : CSpec := { params := [U2, (.int .i64)], res := [((.int .i64), false)], fresh := true, sem := fun x => F94 k x.1 x.2.1 }
theorem e94 : (fun k => evFn ((T (fun _ _ => ⟨[], [], [], false⟩) k).cx [(188, S188 k)]) 5 Tryz.f94 (S94 0).params (S94 0).res true) = fun k => (S94 k).sem := by kernel_rfl
theorem ok94 {G : World → Prop} (hG : Lasts G) (k : Nat) : (S94 k).ok Tryz.prog G 94 := fn_ok (T_ok (fun _ _ => ⟨[], [], [], false⟩) k) hG (calls := [(188, S188 k)]) ⟨ok188 hG k, trivial⟩ 5 rfl (S94 k) (congrFun e94 k)

/-- loop.example/g01402/laws.heldEventS -/
def F95 (k : Nat) (a0 : List D15) (a1 : Int) : Option (Int) :=
  (iter (σ := Int × Int × Unit) (fun rec5 x4 => (bif (decide (x4.2.1 < (a0.length : Int))) then (bif (decide (0 ≤ x4.2.1 ∧ x4.2.1 < (a0.length : Int))) then (bif (!decide ((a0.getD x4.2.1.toNat Z15).1 = x4.1)) then some (-1 : Int) else (bif (decide (0 ≤ x4.2.1 ∧ x4.2.1 < (a0.length : Int))) then (bif (!decide ((a0.getD x4.2.1.toNat Z15).2.1 = (wrap64 (x4.1 + (1 : Int))))) then some (-1 : Int) else (bif (decide (0 ≤ x4.2.1 ∧ x4.2.1 < (a0.length : Int))) then (bif (!decide ((a0.getD x4.2.1.toNat Z15).2.2.1 = (wrap64 ((wrap64 (x4.1 + (1 : Int))) + (1 : Int))))) then some (-1 : Int) else (bif (decide (0 ≤ x4.2.1 ∧ x4.2.1 < (a0.length : Int))) then ((F53 k (wrap64 ((wrap64 ((wrap64 (x4.1 + (1 : Int))) + (1 : Int))) + (1 : Int)))).bind fun r6 => (bif (!decide ((a0.getD x4.2.1.toNat Z15).2.2.2.1 = r6)) then some (-1 : Int) else (bif (decide (0 ≤ x4.2.1 ∧ x4.2.1 < (a0.length : Int))) then (bif (!decide ((a0.getD x4.2.1.toNat Z15).2.2.2.2.1 = (wrap64 ((wrap64 ((wrap64 ((wrap64 (x4.1 + (1 : Int))) + (1 : Int))) + (1 : Int))) + (1 : Int))))) then some (-1 : Int) else (bif (decide (0 ≤ x4.2.1 ∧ x4.2.1 < (a0.length : Int))) then (bif (!decide ((a0.getD x4.2.1.toNat Z15).2.2.2.2.2 = (wrap64 ((wrap64 ((wrap64 ((wrap64 ((wrap64 (x4.1 + (1 : Int))) + (1 : Int))) + (1 : Int))) + (1 : Int))) + (1 : Int))))) then some (-1 : Int) else (rec5 ((wrap64 ((wrap64 ((wrap64 ((wrap64 ((wrap64 ((wrap64 (x4.1 + (1 : Int))) + (1 : Int))) + (1 : Int))) + (1 : Int))) + (1 : Int))) + (1 : Int))), (wrap64 (x4.2.1 + (1 : Int))), ()))) else none)) else none))) else none)) else none)) else none)) else none) else some x4.1)) k (a1, (0 : Int), ()))
def S95 (k : Nat) : CSpec := { params := [(.slice U15), (.int .i64)], res := [((.int .i64), false)], fresh := true, sem := fun x => F95 k x.1 x.2.1 }
theorem e95 : (fun k => evFn ((T (fun _ _ => ⟨[1, 5], [], [], false⟩) k).cx [(53, S53 k)]) 5 Tryz.f95 (S95 0).params (S95 0).res true) = fun k => (S95 k).sem := by kernel_rfl
theorem ok95 {G : World → Prop} (hG : Lasts G) (k : Nat) : (S95 k).ok Tryz.prog G 95 := fn_ok (T_ok (fun _ _ => ⟨[1, 5], [], [], false⟩) k) hG (calls := [(53, S53 k)]) ⟨ok53 hG k, trivial⟩ 5 rfl (S95 k) (congrFun e95 k)

/-- loop.example/g01402/laws.heldWorld -/
def F31 (k : Nat) (a0 : D16) (a1 : Int) : Option (Int) :=
  ((F92 k a0.2.2.1 a1).bind fun r1 => (bif (decide (r1 < (0 : Int))) then some (-1 : Int) else ((F17 k a0.2.2.2.1 r1).bind fun r2 => (bif (decide (r2 < (0 : Int))) then some (-1 : Int) else ((F93 k a0.2.2.2.2.1 r2).bind fun r3 => (bif (decide (r3 < (0 : Int))) then some (-1 : Int) else ((F94 k a0.2.2.2.2.2.1 r3).bind fun r4 => (bif (decide (r4 < (0 : Int))) then some (-1 : Int) else ((F95 k a0.2.2.2.2.2.2 r4).bind fun r5 => (bif (decide (r5 < (0 : Int))) then some (-1 : Int) else some r5))))))))))
def S31 (k : Nat) : CSpec := { params := [U16, (.int .i64)], res := [((.int .i64), false)], fresh := true, sem := fun x => F31 k x.1 x.2.1 }
theorem e31 : (fun k => evFn ((T (fun _ _ => ⟨[], [], [], false⟩) k).cx [(17, S17 k), (92, S92 k), (93, S93 k), (94, S94 k), (95, S95 k)]) 5 Tryz.f31 (S31 0).params (S31 0).res true) = fun k => (S31 k).sem := by kernel_rfl
theorem ok31 {G : World → Prop} (hG : Lasts G) (k : Nat) : (S31 k).ok Tryz.prog G 31 := fn_ok (T_ok (fun _ _ => ⟨[], [], [], false⟩) k) hG (calls := [(17, S17 k), (92, S92 k), (93, S93 k), (94, S94 k), (95, S95 k)]) ⟨ok17 hG k, ok92 hG k, ok93 hG k, ok94 hG k, ok95 hG k, trivial⟩ 5 rfl (S31 k) (congrFun e31 k)
end Go.Proofs.YtigbabjhcihmaaaGreatDoor.Fns
