/- The functions of this part of the program, each by its functional form. -/
import Derived.Test.YtcaknaddeblecaaGreatDoorEvTy
import Derived.Test.YtcaknaddeblecaaGreatDoorProg
import Derived.Test.YtcaknaddeblecaaGreatDoorEvLb
import Derived.Test.YtcaknaddeblecaaGreatDoorEvLc
import Derived.Test.YtcaknaddeblecaaGreatDoorEvLm
import Derived.Test.YtcaknaddeblecaaGreatDoorEvCl
import Derived.Test.YtcaknaddeblecaaGreatDoorShelf
import Derived.Test.YtcaknaddeblecaaGreatDoorTok
namespace Go.Proofs.YtcaknaddeblecaaGreatDoor.Fns
open Go Go.RowKit Go.Proofs Go.Proofs.YtcaknaddeblecaaGreatDoor.Ev
set_option maxRecDepth 1000000
set_option linter.unusedVariables false
abbrev U0 : Ty := .struct (.pair .str .str)
abbrev D0 := ByteArray × ByteArray
def Z0 : D0 := Ty.zero U0
abbrev U1 : Ty := .struct (.pair (.int .i64) (.pair (.slice U0) .str))
abbrev D1 := Int × (List D0) × ByteArray
def Z1 : D1 := Ty.zero U1
abbrev U2 : Ty := .struct (.pair .str (.pair (.slice U0) (.pair U1 (.pair (.int .i64) (.int .i64)))))
abbrev D2 := ByteArray × (List D0) × D1 × Int × Int
def Z2 : D2 := Ty.zero U2
abbrev U3 : Ty := .struct (.pair U2 .bool)
abbrev D3 := D2 × Bool
def Z3 : D3 := Ty.zero U3
abbrev U4 : Ty := .struct (.pair (.int .i64) (.pair (.int .i64) (.pair (.slice U3) (.int .i64))))
abbrev D4 := Int × Int × (List D3) × Int
def Z4 : D4 := Ty.zero U4
abbrev U5 : Ty := .struct (.pair .str (.int .i64))
abbrev D5 := ByteArray × Int
def Z5 : D5 := Ty.zero U5
abbrev U6 : Ty := .struct (.pair (.slice U4) (.slice U5))
abbrev D6 := (List D4) × (List D5)
def Z6 : D6 := Ty.zero U6
abbrev U7 : Ty := .struct (.pair .str (.pair .str (.pair (.slice U0) .str)))
abbrev D7 := ByteArray × ByteArray × (List D0) × ByteArray
def Z7 : D7 := Ty.zero U7
abbrev U8 : Ty := .struct (.pair (.int .i64) U1)
abbrev D8 := Int × D1
def Z8 : D8 := Ty.zero U8
abbrev U9 : Ty := .struct (.pair (.int .i64) (.pair .str (.pair (.int .i64) (.pair U7 (.pair U7 (.pair U2 (.pair .bool (.pair (.int .i64) (.pair (.int .i64) (.pair (.int .i64) (.pair (.int .i64) (.pair .bool (.pair U1 (.slice U8))))))))))))))
abbrev D9 := Int × ByteArray × Int × D7 × D7 × D2 × Bool × Int × Int × Int × Int × Bool × D1 × (List D8)
def Z9 : D9 := Ty.zero U9
abbrev U10 : Ty := .struct (.pair .str (.pair .bool (.pair (.int .i64) (.pair .bool (.pair .bool (.pair U7 (.pair U1 (.pair (.int .i64) (.int .i64)))))))))
abbrev D10 := ByteArray × Bool × Int × Bool × Bool × D7 × D1 × Int × Int
def Z10 : D10 := Ty.zero U10
abbrev U11 : Ty := .struct (.pair .str (.pair .str (.pair (.int .i64) (.pair (.int .i64) (.pair .bool (.pair .bool (.slice U0)))))))
abbrev D11 := ByteArray × ByteArray × Int × Int × Bool × Bool × (List D0)
def Z11 : D11 := Ty.zero U11
abbrev U12 : Ty := .struct (.slice U11)
abbrev D12 := (List D11)
def Z12 : D12 := Ty.zero U12
abbrev U13 : Ty := .struct (.pair (.int .i64) (.pair (.int .i64) (.pair (.int .i64) (.pair .str (.pair (.int .i64) (.int .i64))))))
abbrev D13 := Int × Int × Int × ByteArray × Int × Int
def Z13 : D13 := Ty.zero U13
abbrev U14 : Ty := .struct (.pair (.int .i64) (.pair (.int .i64) (.pair (.slice U9) (.pair U6 (.pair (.slice U10) (.pair U12 (.slice U13)))))))
abbrev D14 := Int × Int × (List D9) × D6 × (List D10) × D12 × (List D13)
def Z14 : D14 := Ty.zero U14
def kp (l : List ((List Nat × Nat) × Keep)) : List Nat → Nat → Keep := fun p r => match l with | [] => ⟨[], [], [], false⟩ | e :: l => bif p == e.1.1 && Nat.beq r e.1.2 then e.2 else kp l p r
noncomputable def T (keep : List Nat → Nat → Keep) (k : Nat) : Tabs where
  ty := [(3, (.int .i64)), (4, .bool), (5, (.int .u8)), (9, .str), (22, (.slice U0)), (24, U1), (26, U2), (29, (.slice U0)), (31, U1), (33, U2), (37, (.slice U3)), (39, U4), (42, (.slice U3)), (44, U4), (48, (.slice U4)), (49, (.slice U5)), (51, U6), (54, (.slice U4)), (55, (.slice U5)), (57, U6), (61, (.slice U9)), (62, (.slice U10)), (63, (.slice U11)), (65, U12), (66, (.slice U13)), (68, U14), (70, U7), (74, (.slice U9)), (75, (.slice U10)), (76, (.slice U11)), (78, U12), (79, (.slice U13)), (81, U14), (84, U7), (97, U0), (106, U3), (108, (.slice .str)), (115, U5), (126, U10), (140, (.slice U8)), (142, U9), (147, U0), (150, (.slice (.int .u8))), (159, U3), (177, U5), (181, (.slice U8)), (183, U9), (186, U10), (190, U13), (197, U13), (204, U11), (207, (.slice (.int .i64))), (215, U11), (216, (.slice U0)), (218, U0), (234, U8), (237, U8)]
  cmp := [97]
  body := [(3, Tryz.f3), (4, Tryz.f4), (5, Tryz.f5), (6, Tryz.f6), (7, Tryz.f7), (8, Tryz.f8), (9, Tryz.f9), (10, Tryz.f10), (11, Tryz.f11), (12, Tryz.f12), (13, Tryz.f13), (14, Tryz.f14), (15, Tryz.f15), (16, Tryz.f16), (17, Tryz.f17), (18, Tryz.f18), (19, Tryz.f19), (20, Tryz.f20), (21, Tryz.f21), (22, Tryz.f22), (23, Tryz.f23), (24, Tryz.f24), (25, Tryz.f25), (26, Tryz.f26), (27, Tryz.f27), (28, Tryz.f28), (29, Tryz.f29), (30, Tryz.f30), (31, Tryz.f31), (32, Tryz.f32), (33, Tryz.f33), (34, Tryz.f34), (35, Tryz.f35), (36, Tryz.f36), (37, Tryz.f37), (38, Tryz.f38), (39, Tryz.f39), (40, Tryz.f40), (41, Tryz.f41), (42, Tryz.f42), (43, Tryz.f43), (44, Tryz.f44), (45, Tryz.f45), (46, Tryz.f46), (47, Tryz.f47), (48, Tryz.f48), (49, Tryz.f49), (50, Tryz.f50), (51, Tryz.f51), (52, Tryz.f52), (54, Tryz.f54), (55, Tryz.f55), (56, Tryz.f56), (57, Tryz.f57), (58, Tryz.f58), (59, Tryz.f59), (60, Tryz.f60), (61, Tryz.f61), (62, Tryz.f62), (63, Tryz.f63), (64, Tryz.f64), (65, Tryz.f65), (66, Tryz.f66), (67, Tryz.f67), (68, Tryz.f68), (69, Tryz.f69), (70, Tryz.f70), (71, Tryz.f71), (72, Tryz.f72), (73, Tryz.f73), (74, Tryz.f74), (75, Tryz.f75), (76, Tryz.f76), (77, Tryz.f77), (78, Tryz.f78), (79, Tryz.f79), (80, Tryz.f80), (81, Tryz.f81), (82, Tryz.f82), (83, Tryz.f83), (84, Tryz.f84), (85, Tryz.f85), (86, Tryz.f86), (87, Tryz.f87), (88, Tryz.f88), (89, Tryz.f89), (90, Tryz.f90), (91, Tryz.f91), (92, Tryz.f92), (93, Tryz.f93), (94, Tryz.f94), (95, Tryz.f95), (96, Tryz.f96), (97, Tryz.f97), (98, Tryz.f98), (99, Tryz.f99), (100, Tryz.f100), (101, Tryz.f101), (102, Tryz.f102), (103, Tryz.f103), (104, Tryz.f104), (105, Tryz.f105), (106, Tryz.f106), (107, Tryz.f107), (108, Tryz.f108), (109, Tryz.f109), (110, Tryz.f110), (111, Tryz.f111), (112, Tryz.f112), (117, Tryz.f117), (118, Tryz.f118), (119, Tryz.f119), (120, Tryz.f120), (121, Tryz.f121), (122, Tryz.f122), (123, Tryz.f123), (124, Tryz.f124), (125, Tryz.f125), (126, Tryz.f126), (127, Tryz.f127), (128, Tryz.f128), (129, Tryz.f129), (130, Tryz.f130), (131, Tryz.f131), (132, Tryz.f132), (133, Tryz.f133), (134, Tryz.f134), (135, Tryz.f135), (136, Tryz.f136), (137, Tryz.f137), (138, Tryz.f138), (139, Tryz.f139), (140, Tryz.f140), (141, Tryz.f141), (142, Tryz.f142), (143, Tryz.f143), (144, Tryz.f144), (145, Tryz.f145), (146, Tryz.f146), (148, Tryz.f148), (149, Tryz.f149), (150, Tryz.f150), (151, Tryz.f151), (155, Tryz.f155), (156, Tryz.f156), (157, Tryz.f157), (158, Tryz.f158), (159, Tryz.f159), (160, Tryz.f160), (161, Tryz.f161), (162, Tryz.f162), (163, Tryz.f163), (164, Tryz.f164), (165, Tryz.f165), (166, Tryz.f166), (167, Tryz.f167), (169, Tryz.f169), (170, Tryz.f170), (171, Tryz.f171), (172, Tryz.f172), (173, Tryz.f173), (174, Tryz.f174), (175, Tryz.f175), (179, Tryz.f179), (180, Tryz.f180), (181, Tryz.f181), (182, Tryz.f182), (183, Tryz.f183), (184, Tryz.f184), (185, Tryz.f185), (187, Tryz.f187), (188, Tryz.f188), (189, Tryz.f189), (191, Tryz.f191), (192, Tryz.f192), (193, Tryz.f193), (198, Tryz.f198), (199, Tryz.f199), (200, Tryz.f200), (208, Tryz.f208)]
  keep := keep
  k := k
theorem T_ok (keep : List Nat → Nat → Keep) (k : Nat) : (T keep k).ok Tryz.prog where
  ty := by kernel_rfl
  cmp := by kernel_rfl
  body := ⟨⟨Tryz.func3, by kernel_rfl, by kernel_rfl⟩, ⟨Tryz.func4, by kernel_rfl, by kernel_rfl⟩, ⟨Tryz.func5, by kernel_rfl, by kernel_rfl⟩, ⟨Tryz.func6, by kernel_rfl, by kernel_rfl⟩, ⟨Tryz.func7, by kernel_rfl, by kernel_rfl⟩, ⟨Tryz.func8, by kernel_rfl, by kernel_rfl⟩, ⟨Tryz.func9, by kernel_rfl, by kernel_rfl⟩, ⟨Tryz.func10, by kernel_rfl, by kernel_rfl⟩, ⟨Tryz.func11, by kernel_rfl, by kernel_rfl⟩, ⟨Tryz.func12, by kernel_rfl, by kernel_rfl⟩, ⟨Tryz.func13, by kernel_rfl, by kernel_rfl⟩, ⟨Tryz.func14, by kernel_rfl, by kernel_rfl⟩, ⟨Tryz.func15, by kernel_rfl, by kernel_rfl⟩, ⟨Tryz.func16, by kernel_rfl, by kernel_rfl⟩, ⟨Tryz.func17, by kernel_rfl, by kernel_rfl⟩, ⟨Tryz.func18, by kernel_rfl, by kernel_rfl⟩, ⟨Tryz.func19, by kernel_rfl, by kernel_rfl⟩, ⟨Tryz.func20, by kernel_rfl, by kernel_rfl⟩, ⟨Tryz.func21, by kernel_rfl, by kernel_rfl⟩, ⟨Tryz.func22, by kernel_rfl, by kernel_rfl⟩, ⟨Tryz.func23, by kernel_rfl, by kernel_rfl⟩, ⟨Tryz.func24, by kernel_rfl, by kernel_rfl⟩, ⟨Tryz.func25, by kernel_rfl, by kernel_rfl⟩, ⟨Tryz.func26, by kernel_rfl, by kernel_rfl⟩, ⟨Tryz.func27, by kernel_rfl, by kernel_rfl⟩, ⟨Tryz.func28, by kernel_rfl, by kernel_rfl⟩, ⟨Tryz.func29, by kernel_rfl, by kernel_rfl⟩, ⟨Tryz.func30, by kernel_rfl, by kernel_rfl⟩, ⟨Tryz.func31, by kernel_rfl, by kernel_rfl⟩, ⟨Tryz.func32, by kernel_rfl, by kernel_rfl⟩, ⟨Tryz.func33, by kernel_rfl, by kernel_rfl⟩, ⟨Tryz.func34, by kernel_rfl, by kernel_rfl⟩, ⟨Tryz.func35, by kernel_rfl, by kernel_rfl⟩, ⟨Tryz.func36, by kernel_rfl, by kernel_rfl⟩, ⟨Tryz.func37, by kernel_rfl, by kernel_rfl⟩, ⟨Tryz.func38, by kernel_rfl, by kernel_rfl⟩, ⟨Tryz.func39, by kernel_rfl, by kernel_rfl⟩, ⟨Tryz.func40, by kernel_rfl, by kernel_rfl⟩, ⟨Tryz.func41, by kernel_rfl, by kernel_rfl⟩, ⟨Tryz.func42, by kernel_rfl, by kernel_rfl⟩, ⟨Tryz.func43, by kernel_rfl, by kernel_rfl⟩, ⟨Tryz.func44, by kernel_rfl, by kernel_rfl⟩, ⟨Tryz.func45, by kernel_rfl, by kernel_rfl⟩, ⟨Tryz.func46, by kernel_rfl, by kernel_rfl⟩, ⟨Tryz.func47, by kernel_rfl, by kernel_rfl⟩, ⟨Tryz.func48, by kernel_rfl, by kernel_rfl⟩, ⟨Tryz.func49, by kernel_rfl, by kernel_rfl⟩, ⟨Tryz.func50, by kernel_rfl, by kernel_rfl⟩, ⟨Tryz.func51, by kernel_rfl, by kernel_rfl⟩, ⟨Tryz.func52, by kernel_rfl, by kernel_rfl⟩, ⟨Tryz.func54, by kernel_rfl, by kernel_rfl⟩, ⟨Tryz.func55, by kernel_rfl, by kernel_rfl⟩, ⟨Tryz.func56, by kernel_rfl, by kernel_rfl⟩, ⟨Tryz.func57, by kernel_rfl, by kernel_rfl⟩, ⟨Tryz.func58, by kernel_rfl, by kernel_rfl⟩, ⟨Tryz.func59, by kernel_rfl, by kernel_rfl⟩, ⟨Tryz.func60, by kernel_rfl, by kernel_rfl⟩, ⟨Tryz.func61, by kernel_rfl, by kernel_rfl⟩, ⟨Tryz.func62, by kernel_rfl, by kernel_rfl⟩, ⟨Tryz.func63, by kernel_rfl, by kernel_rfl⟩, ⟨Tryz.func64, by kernel_rfl, by kernel_rfl⟩, ⟨Tryz.func65, by kernel_rfl, by kernel_rfl⟩, ⟨Tryz.func66, by kernel_rfl, by kernel_rfl⟩, ⟨Tryz.func67, by kernel_rfl, by kernel_rfl⟩, ⟨Tryz.func68, by kernel_rfl, by kernel_rfl⟩, ⟨Tryz.func69, by kernel_rfl, by kernel_rfl⟩, ⟨Tryz.func70, by kernel_rfl, by kernel_rfl⟩, ⟨Tryz.func71, by kernel_rfl, by kernel_rfl⟩, ⟨Tryz.func72, by kernel_rfl, by kernel_rfl⟩, ⟨Tryz.func73, by kernel_rfl, by kernel_rfl⟩, ⟨Tryz.func74, by kernel_rfl, by kernel_rfl⟩, ⟨Tryz.func75, by kernel_rfl, by kernel_rfl⟩, ⟨Tryz.func76, by kernel_rfl, by kernel_rfl⟩, ⟨Tryz.func77, by kernel_rfl, by kernel_rfl⟩, ⟨Tryz.func78, by kernel_rfl, by kernel_rfl⟩, ⟨Tryz.func79, by kernel_rfl, by kernel_rfl⟩, ⟨Tryz.func80, by kernel_rfl, by kernel_rfl⟩, ⟨Tryz.func81, by kernel_rfl, by kernel_rfl⟩, ⟨Tryz.func82, by kernel_rfl, by kernel_rfl⟩, ⟨Tryz.func83, by kernel_rfl, by kernel_rfl⟩, ⟨Tryz.func84, by kernel_rfl, by kernel_rfl⟩, ⟨Tryz.func85, by kernel_rfl, by kernel_rfl⟩, ⟨Tryz.func86, by kernel_rfl, by kernel_rfl⟩, ⟨Tryz.func87, by kernel_rfl, by kernel_rfl⟩, ⟨Tryz.func88, by kernel_rfl, by kernel_rfl⟩, ⟨Tryz.func89, by kernel_rfl, by kernel_rfl⟩, ⟨Tryz.func90, by kernel_rfl, by kernel_rfl⟩, ⟨Tryz.func91, by kernel_rfl, by kernel_rfl⟩, ⟨Tryz.func92, by kernel_rfl, by kernel_rfl⟩, ⟨Tryz.func93, by kernel_rfl, by kernel_rfl⟩, ⟨Tryz.func94, by kernel_rfl, by kernel_rfl⟩, ⟨Tryz.func95, by kernel_rfl, by kernel_rfl⟩, ⟨Tryz.func96, by kernel_rfl, by kernel_rfl⟩, ⟨Tryz.func97, by kernel_rfl, by kernel_rfl⟩, ⟨Tryz.func98, by kernel_rfl, by kernel_rfl⟩, ⟨Tryz.func99, by kernel_rfl, by kernel_rfl⟩, ⟨Tryz.func100, by kernel_rfl, by kernel_rfl⟩, ⟨Tryz.func101, by kernel_rfl, by kernel_rfl⟩, ⟨Tryz.func102, by kernel_rfl, by kernel_rfl⟩, ⟨Tryz.func103, by kernel_rfl, by kernel_rfl⟩, ⟨Tryz.func104, by kernel_rfl, by kernel_rfl⟩, ⟨Tryz.func105, by kernel_rfl, by kernel_rfl⟩, ⟨Tryz.func106, by kernel_rfl, by kernel_rfl⟩, ⟨Tryz.func107, by kernel_rfl, by kernel_rfl⟩, ⟨Tryz.func108, by kernel_rfl, by kernel_rfl⟩, ⟨Tryz.func109, by kernel_rfl, by kernel_rfl⟩, ⟨Tryz.func110, by kernel_rfl, by kernel_rfl⟩, ⟨Tryz.func111, by kernel_rfl, by kernel_rfl⟩, ⟨Tryz.func112, by kernel_rfl, by kernel_rfl⟩, ⟨Tryz.func117, by kernel_rfl, by kernel_rfl⟩, ⟨Tryz.func118, by kernel_rfl, by kernel_rfl⟩, ⟨Tryz.func119, by kernel_rfl, by kernel_rfl⟩, ⟨Tryz.func120, by kernel_rfl, by kernel_rfl⟩, ⟨Tryz.func121, by kernel_rfl, by kernel_rfl⟩, ⟨Tryz.func122, by kernel_rfl, by kernel_rfl⟩, ⟨Tryz.func123, by kernel_rfl, by kernel_rfl⟩, ⟨Tryz.func124, by kernel_rfl, by kernel_rfl⟩, ⟨Tryz.func125, by kernel_rfl, by kernel_rfl⟩, ⟨Tryz.func126, by kernel_rfl, by kernel_rfl⟩, ⟨Tryz.func127, by kernel_rfl, by kernel_rfl⟩, ⟨Tryz.func128, by kernel_rfl, by kernel_rfl⟩, ⟨Tryz.func129, by kernel_rfl, by kernel_rfl⟩, ⟨Tryz.func130, by kernel_rfl, by kernel_rfl⟩, ⟨Tryz.func131, by kernel_rfl, by kernel_rfl⟩, ⟨Tryz.func132, by kernel_rfl, by kernel_rfl⟩, ⟨Tryz.func133, by kernel_rfl, by kernel_rfl⟩, ⟨Tryz.func134, by kernel_rfl, by kernel_rfl⟩, ⟨Tryz.func135, by kernel_rfl, by kernel_rfl⟩, ⟨Tryz.func136, by kernel_rfl, by kernel_rfl⟩, ⟨Tryz.func137, by kernel_rfl, by kernel_rfl⟩, ⟨Tryz.func138, by kernel_rfl, by kernel_rfl⟩, ⟨Tryz.func139, by kernel_rfl, by kernel_rfl⟩, ⟨Tryz.func140, by kernel_rfl, by kernel_rfl⟩, ⟨Tryz.func141, by kernel_rfl, by kernel_rfl⟩, ⟨Tryz.func142, by kernel_rfl, by kernel_rfl⟩, ⟨Tryz.func143, by kernel_rfl, by kernel_rfl⟩, ⟨Tryz.func144, by kernel_rfl, by kernel_rfl⟩, ⟨Tryz.func145, by kernel_rfl, by kernel_rfl⟩, ⟨Tryz.func146, by kernel_rfl, by kernel_rfl⟩, ⟨Tryz.func148, by kernel_rfl, by kernel_rfl⟩, ⟨Tryz.func149, by kernel_rfl, by kernel_rfl⟩, ⟨Tryz.func150, by kernel_rfl, by kernel_rfl⟩, ⟨Tryz.func151, by kernel_rfl, by kernel_rfl⟩, ⟨Tryz.func155, by kernel_rfl, by kernel_rfl⟩, ⟨Tryz.func156, by kernel_rfl, by kernel_rfl⟩, ⟨Tryz.func157, by kernel_rfl, by kernel_rfl⟩, ⟨Tryz.func158, by kernel_rfl, by kernel_rfl⟩, ⟨Tryz.func159, by kernel_rfl, by kernel_rfl⟩, ⟨Tryz.func160, by kernel_rfl, by kernel_rfl⟩, ⟨Tryz.func161, by kernel_rfl, by kernel_rfl⟩, ⟨Tryz.func162, by kernel_rfl, by kernel_rfl⟩, ⟨Tryz.func163, by kernel_rfl, by kernel_rfl⟩, ⟨Tryz.func164, by kernel_rfl, by kernel_rfl⟩, ⟨Tryz.func165, by kernel_rfl, by kernel_rfl⟩, ⟨Tryz.func166, by kernel_rfl, by kernel_rfl⟩, ⟨Tryz.func167, by kernel_rfl, by kernel_rfl⟩, ⟨Tryz.func169, by kernel_rfl, by kernel_rfl⟩, ⟨Tryz.func170, by kernel_rfl, by kernel_rfl⟩, ⟨Tryz.func171, by kernel_rfl, by kernel_rfl⟩, ⟨Tryz.func172, by kernel_rfl, by kernel_rfl⟩, ⟨Tryz.func173, by kernel_rfl, by kernel_rfl⟩, ⟨Tryz.func174, by kernel_rfl, by kernel_rfl⟩, ⟨Tryz.func175, by kernel_rfl, by kernel_rfl⟩, ⟨Tryz.func179, by kernel_rfl, by kernel_rfl⟩, ⟨Tryz.func180, by kernel_rfl, by kernel_rfl⟩, ⟨Tryz.func181, by kernel_rfl, by kernel_rfl⟩, ⟨Tryz.func182, by kernel_rfl, by kernel_rfl⟩, ⟨Tryz.func183, by kernel_rfl, by kernel_rfl⟩, ⟨Tryz.func184, by kernel_rfl, by kernel_rfl⟩, ⟨Tryz.func185, by kernel_rfl, by kernel_rfl⟩, ⟨Tryz.func187, by kernel_rfl, by kernel_rfl⟩, ⟨Tryz.func188, by kernel_rfl, by kernel_rfl⟩, ⟨Tryz.func189, by kernel_rfl, by kernel_rfl⟩, ⟨Tryz.func191, by kernel_rfl, by kernel_rfl⟩, ⟨Tryz.func192, by kernel_rfl, by kernel_rfl⟩, ⟨Tryz.func193, by kernel_rfl, by kernel_rfl⟩, ⟨Tryz.func198, by kernel_rfl, by kernel_rfl⟩, ⟨Tryz.func199, by kernel_rfl, by kernel_rfl⟩, ⟨Tryz.func200, by kernel_rfl, by kernel_rfl⟩, ⟨Tryz.func208, by kernel_rfl, by kernel_rfl⟩, trivial⟩
  mixed := by kernel_rfl

/-- loop.example/g01402/laws.szField -/
def F90 (k : Nat) (a0 : D0) (a1 : Int) : Option (Int) :=
  (bif (decide ((wrap64 (a1 - (a0.1.size : Int))) < (0 : Int))) then some (-1 : Int) else (bif (decide ((wrap64 ((wrap64 (a1 - (a0.1.size : Int))) - (a0.2.size : Int))) < (0 : Int))) then some (-1 : Int) else some (wrap64 ((wrap64 (a1 - (a0.1.size : Int))) - (a0.2.size : Int)))))
def S90 (k : Nat) : CSpec := { params := [U0, (.int .i64)], res := [((.int .i64), false)], fresh := true, sem := fun x => F90 k x.1 x.2.1 }
theorem e90 : (fun k => evFn ((T (fun _ _ => ⟨[], [], [], false⟩) k).cx []) 5 Tryz.f90 (S90 0).params (S90 0).res true) = fun k => (S90 k).sem := by kernel_rfl
theorem ok90 {G : World → Prop} (hG : Lasts G) (k : Nat) : (S90 k).ok Tryz.prog G 90 := fn_ok (T_ok (fun _ _ => ⟨[], [], [], false⟩) k) hG (calls := []) trivial 5 rfl (S90 k) (congrFun e90 k)

/-- loop.example/g01402/laws.szFieldS -/
def F33 (k : Nat) (a0 : List D0) (a1 : Int) : Option (Int) :=
  (bif (decide ((wrap64 (a1 - (a0.length : Int))) < (0 : Int))) then some (-1 : Int) else (iter (σ := Int × Int × Unit) (fun rec5 x4 => (bif (decide (x4.2.1 < (a0.length : Int))) then (bif (decide (0 ≤ x4.2.1 ∧ x4.2.1 < (a0.length : Int))) then ((F90 k (a0.getD x4.2.1.toNat Z0) x4.1).bind fun r6 => (bif (decide (r6 < (0 : Int))) then some (-1 : Int) else (rec5 (r6, (wrap64 (x4.2.1 + (1 : Int))), ())))) else none) else some x4.1)) k ((wrap64 (a1 - (a0.length : Int))), (0 : Int), ())))
def S33 (k : Nat) : CSpec := { params := [(.slice U0), (.int .i64)], res := [((.int .i64), false)], fresh := true, sem := fun x => F33 k x.1 x.2.1 }
theorem e33 : (fun k => evFn ((T (fun _ _ => ⟨[1, 5], [], [], false⟩) k).cx [(90, S90 k)]) 5 Tryz.f33 (S33 0).params (S33 0).res true) = fun k => (S33 k).sem := by kernel_rfl
theorem ok33 {G : World → Prop} (hG : Lasts G) (k : Nat) : (S33 k).ok Tryz.prog G 33 := fn_ok (T_ok (fun _ _ => ⟨[1, 5], [], [], false⟩) k) hG (calls := [(90, S90 k)]) ⟨ok90 hG k, trivial⟩ 5 rfl (S33 k) (congrFun e33 k)

/-- loop.example/g01402/laws.szResponse -/
def F34 (k : Nat) (a0 : D1) (a1 : Int) : Option (Int) :=
  ((F33 k a0.2.1 a1).bind fun r1 => (bif (decide (r1 < (0 : Int))) then some (-1 : Int) else (bif (decide ((wrap64 (r1 - (a0.2.2.size : Int))) < (0 : Int))) then some (-1 : Int) else some (wrap64 (r1 - (a0.2.2.size : Int))))))
def S34 (k : Nat) : CSpec := { params := [U1, (.int .i64)], res := [((.int .i64), false)], fresh := true, sem := fun x => F34 k x.1 x.2.1 }
theorem e34 : (fun k => evFn ((T (fun _ _ => ⟨[], [], [], false⟩) k).cx [(33, S33 k)]) 5 Tryz.f34 (S34 0).params (S34 0).res true) = fun k => (S34 k).sem := by kernel_rfl
theorem ok34 {G : World → Prop} (hG : Lasts G) (k : Nat) : (S34 k).ok Tryz.prog G 34 := fn_ok (T_ok (fun _ _ => ⟨[], [], [], false⟩) k) hG (calls := [(33, S33 k)]) ⟨ok33 hG k, trivial⟩ 5 rfl (S34 k) (congrFun e34 k)

/-- loop.example/g01402/laws.szStored -/
def F8 (k : Nat) (a0 : D2) (a1 : Int) : Option (Int) :=
  (bif (decide ((wrap64 (a1 - (a0.1.size : Int))) < (0 : Int))) then some (-1 : Int) else ((F33 k a0.2.1 (wrap64 (a1 - (a0.1.size : Int)))).bind fun r1 => (bif (decide (r1 < (0 : Int))) then some (-1 : Int) else ((F34 k a0.2.2.1 r1).bind fun r2 => (bif (decide (r2 < (0 : Int))) then some (-1 : Int) else some r2)))))
def S8 (k : Nat) : CSpec := { params := [U2, (.int .i64)], res := [((.int .i64), false)], fresh := true, sem := fun x => F8 k x.1 x.2.1 }
theorem e8 : (fun k => evFn ((T (fun _ _ => ⟨[], [], [], false⟩) k).cx [(33, S33 k), (34, S34 k)]) 5 Tryz.f8 (S8 0).params (S8 0).res true) = fun k => (S8 k).sem := by kernel_rfl
theorem ok8 {G : World → Prop} (hG : Lasts G) (k : Nat) : (S8 k).ok Tryz.prog G 8 := fn_ok (T_ok (fun _ _ => ⟨[], [], [], false⟩) k) hG (calls := [(33, S33 k), (34, S34 k)]) ⟨ok33 hG k, ok34 hG k, trivial⟩ 5 rfl (S8 k) (congrFun e8 k)

/-- loop.example/g01402/laws.toField -/
def F96 (k : Nat) (a0 : D0) : Option (D0) :=
  some a0
def S96 (k : Nat) : CSpec := { params := [U0], res := [(U0, false)], fresh := true, sem := fun x => F96 k x.1 }
theorem e96 : (fun k => evFn ((T (fun _ _ => ⟨[], [], [], false⟩) k).cx []) 5 Tryz.f96 (S96 0).params (S96 0).res true) = fun k => (S96 k).sem := by kernel_rfl
theorem ok96 {G : World → Prop} (hG : Lasts G) (k : Nat) : (S96 k).ok Tryz.prog G 96 := fn_ok (T_ok (fun _ _ => ⟨[], [], [], false⟩) k) hG (calls := []) trivial 5 rfl (S96 k) (congrFun e96 k)

/-- loop.example/g01402/laws.toFieldS -/
def F39 (k : Nat) (a0 : List D0) : Option ((List D0)) :=
  (bif (decide (0 ≤ (a0.length : Int) ∧ (a0.length : Int) = (a0.length : Int) ∧ (a0.length : Int) < (most : Int))) then (iter (σ := Int × List D0 × Unit) (fun rec5 x4 => (bif (decide (x4.1 < (a0.length : Int))) then (bif (decide (0 ≤ x4.1 ∧ x4.1 < (a0.length : Int))) then ((F96 k (a0.getD x4.1.toNat Z0)).bind fun r6 => (bif (decide (0 ≤ x4.1 ∧ x4.1 < (x4.2.1.length : Int))) then (rec5 ((wrap64 (x4.1 + (1 : Int))), (x4.2.1.set x4.1.toNat r6), ())) else none)) else none) else some x4.2.1)) k ((0 : Int), (List.replicate (a0.length : Int).toNat Z0), ())) else none)
def S39 (k : Nat) : CSpec := { params := [(.slice U0)], res := [((.slice U0), true)], fresh := true, sem := fun x => F39 k x.1 }
theorem e39 : (fun k => evFn ((T (fun _ _ => ⟨[4], [1], [], false⟩) k).cx [(96, S96 k)]) 5 Tryz.f39 (S39 0).params (S39 0).res true) = fun k => (S39 k).sem := by kernel_rfl
theorem ok39 {G : World → Prop} (hG : Lasts G) (k : Nat) : (S39 k).ok Tryz.prog G 39 := fn_ok (T_ok (fun _ _ => ⟨[4], [1], [], false⟩) k) hG (calls := [(96, S96 k)]) ⟨ok96 hG k, trivial⟩ 5 rfl (S39 k) (congrFun e39 k)

/-- loop.example/g01402/laws.toResponse -/
def F40 (k : Nat) (a0 : D1) : Option (D1) :=
  ((F39 k a0.2.1).bind fun r1 => some (a0.1, r1, a0.2.2))
def S40 (k : Nat) : CSpec := { params := [U1], res := [(U1, true)], fresh := true, sem := fun x => F40 k x.1 }
theorem e40 : (fun k => evFn ((T (fun _ _ => ⟨[], [], [], false⟩) k).cx [(39, S39 k)]) 5 Tryz.f40 (S40 0).params (S40 0).res true) = fun k => (S40 k).sem := by kernel_rfl
theorem ok40 {G : World → Prop} (hG : Lasts G) (k : Nat) : (S40 k).ok Tryz.prog G 40 := fn_ok (T_ok (fun _ _ => ⟨[], [], [], false⟩) k) hG (calls := [(39, S39 k)]) ⟨ok39 hG k, trivial⟩ 5 rfl (S40 k) (congrFun e40 k)

/-- loop.example/g01402/laws.toStored -/
def F10 (k : Nat) (a0 : D2) : Option (D2) :=
  ((F39 k a0.2.1).bind fun r1 => ((F40 k a0.2.2.1).bind fun r2 => some (a0.1, r1, r2, a0.2.2.2.1, a0.2.2.2.2)))
def S10 (k : Nat) : CSpec := { params := [U2], res := [(U2, false)], fresh := true, sem := fun x => F10 k x.1 }
theorem e10 : (fun k => evFn ((T (fun _ _ => ⟨[], [], [], false⟩) k).cx [(39, S39 k), (40, S40 k)]) 5 Tryz.f10 (S10 0).params (S10 0).res true) = fun k => (S10 k).sem := by kernel_rfl
theorem ok10 {G : World → Prop} (hG : Lasts G) (k : Nat) : (S10 k).ok Tryz.prog G 10 := fn_ok (T_ok (fun _ _ => ⟨[], [], [], false⟩) k) hG (calls := [(39, S39 k), (40, S40 k)]) ⟨ok39 hG k, ok40 hG k, trivial⟩ 5 rfl (S10 k) (congrFun e10 k)

/-- loop.example/g01402/spec.l1In -/
def F83 (k : Nat) (a0 : Int) (a1 : Int) (a2 : Int) : Option (Bool) :=
  (bif (decide (a1 ≤ a0)) then some (decide (a0 ≤ a2)) else some false)
def S83 (k : Nat) : CSpec := { params := [(.int .i64), (.int .i64), (.int .i64)], res := [(.bool, false)], fresh := true, sem := fun x => F83 k x.1 x.2.1 x.2.2.1 }
theorem e83 : (fun k => evFn ((T (fun _ _ => ⟨[], [], [], false⟩) k).cx []) 5 Tryz.f83 (S83 0).params (S83 0).res true) = fun k => (S83 k).sem := by kernel_rfl
theorem ok83 {G : World → Prop} (hG : Lasts G) (k : Nat) : (S83 k).ok Tryz.prog G 83 := fn_ok (T_ok (fun _ _ => ⟨[], [], [], false⟩) k) hG (calls := []) trivial 5 rfl (S83 k) (congrFun e83 k)

/-- loop.example/g01402/spec.UriOk -/
def F91 (k : Nat) (a0 : ByteArray) : Option (Bool) :=
  (iter (σ := Int × Unit) (fun rec4 x3 => (bif (decide (x3.1 < (a0.size : Int))) then (bif (decide (0 ≤ x3.1 ∧ x3.1 < (a0.size : Int))) then (bif (decide ((bt a0 x3.1) ≤ (32 : Int))) then some false else (bif (decide (0 ≤ x3.1 ∧ x3.1 < (a0.size : Int))) then (bif (decide ((127 : Int) ≤ (bt a0 x3.1))) then some false else (rec4 ((wrap64 (x3.1 + (1 : Int))), ()))) else none)) else none) else ((F83 k (a0.size : Int) (1 : Int) (20 : Int)).bind fun r5 => (bif r5 then (bif (decide (0 ≤ (0 : Int) ∧ (0 : Int) < (a0.size : Int))) then some (decide ((bt a0 (0 : Int)) = (47 : Int))) else none) else some false)))) k ((0 : Int), ()))
def S91 (k : Nat) : CSpec := { params := [.str], res := [(.bool, false)], fresh := true, sem := fun x => F91 k x.1 }
theorem e91 : (fun k => evFn ((T (fun _ _ => ⟨[3], [], [], false⟩) k).cx [(83, S83 k)]) 5 Tryz.f91 (S91 0).params (S91 0).res true) = fun k => (S91 k).sem := by kernel_rfl
theorem ok91 {G : World → Prop} (hG : Lasts G) (k : Nat) : (S91 k).ok Tryz.prog G 91 := fn_ok (T_ok (fun _ _ => ⟨[3], [], [], false⟩) k) hG (calls := [(83, S83 k)]) ⟨ok83 hG k, trivial⟩ 5 rfl (S91 k) (congrFun e91 k)

/-- loop.example/g01402/spec.FieldGet -/
def F128 (k : Nat) (a0 : List D0) (a1 : ByteArray) : Option (ByteArray × Bool) :=
  (iter (σ := ByteArray × Bool × Int × Unit) (fun rec4 x3 => (bif (decide (x3.2.2.1 < (a0.length : Int))) then (bif (decide (0 ≤ x3.2.2.1 ∧ x3.2.2.1 < (a0.length : Int))) then (bif (!decide ((a0.getD x3.2.2.1.toNat Z0).1 = a1)) then (rec4 (x3.1, x3.2.1, (wrap64 (x3.2.2.1 + (1 : Int))), ())) else (bif x3.2.1 then (bif (decide (x3.1.size + (ByteArray.mk #[44, 32]).size < mostText)) then (bif (decide (0 ≤ x3.2.2.1 ∧ x3.2.2.1 < (a0.length : Int))) then (bif (decide ((x3.1 ++ (ByteArray.mk #[44, 32])).size + (a0.getD x3.2.2.1.toNat Z0).2.size < mostText)) then (rec4 (((x3.1 ++ (ByteArray.mk #[44, 32])) ++ (a0.getD x3.2.2.1.toNat Z0).2), true, (wrap64 (x3.2.2.1 + (1 : Int))), ())) else none) else none) else none) else (bif (decide (0 ≤ x3.2.2.1 ∧ x3.2.2.1 < (a0.length : Int))) then (bif (decide (x3.1.size + (a0.getD x3.2.2.1.toNat Z0).2.size < mostText)) then (rec4 ((x3.1 ++ (a0.getD x3.2.2.1.toNat Z0).2), true, (wrap64 (x3.2.2.1 + (1 : Int))), ())) else none) else none))) else none) else some (x3.1, x3.2.1))) k ((ByteArray.mk #[]), false, (0 : Int), ()))
def S128 (k : Nat) : CSpec := { params := [(.slice U0), .str], res := [(.str, false), (.bool, false)], fresh := true, sem := fun x => F128 k x.1 x.2.1 }
theorem e128 : (fun k => evFn ((T (fun _ _ => ⟨[6, 7, 8], [], [], false⟩) k).cx []) 5 Tryz.f128 (S128 0).params (S128 0).res true) = fun k => (S128 k).sem := by kernel_rfl
theorem ok128 {G : World → Prop} (hG : Lasts G) (k : Nat) : (S128 k).ok Tryz.prog G 128 := fn_ok (T_ok (fun _ _ => ⟨[6, 7, 8], [], [], false⟩) k) hG (calls := []) trivial 5 rfl (S128 k) (congrFun e128 k)

/-- loop.example/g01402/spec.l2Token -/
def F168 := Tok.G168
abbrev S168 := Tok.S168
theorem ok168 {G : World → Prop} (hG : Lasts G) (k : Nat) : (S168 k).ok Tryz.prog G 168 := Tok.ok168 hG k

/-- loop.example/g01402/spec.IsTokenText -/
def F141 (k : Nat) (a0 : ByteArray) : Option (Bool) :=
  (iter (σ := Int × Unit) (fun rec5 x4 => (bif (decide (x4.1 < (a0.size : Int))) then (bif (decide (0 ≤ x4.1 ∧ x4.1 < (a0.size : Int))) then ((Tok.G168 k (bt a0 x4.1)).bind fun r6 => (bif (!r6) then some false else (rec5 ((wrap64 (x4.1 + (1 : Int))), ())))) else none) else some (decide ((0 : Int) < (a0.size : Int))))) k ((0 : Int), ()))
def S141 (k : Nat) : CSpec := { params := [.str], res := [(.bool, false)], fresh := true, sem := fun x => F141 k x.1 }
theorem e141 : (fun k => evFn ((T (fun _ _ => ⟨[3], [], [], false⟩) k).cx [(168, S168 k)]) 5 Tryz.f141 (S141 0).params (S141 0).res true) = fun k => (S141 k).sem := by kernel_rfl
theorem ok141 {G : World → Prop} (hG : Lasts G) (k : Nat) : (S141 k).ok Tryz.prog G 141 := fn_ok (T_ok (fun _ _ => ⟨[3], [], [], false⟩) k) hG (calls := [(168, S168 k)]) ⟨ok168 hG k, trivial⟩ 5 rfl (S141 k) (congrFun e141 k)

/-- loop.example/g01402/spec.Lower -/
def F181 (k : Nat) (a0 : ByteArray) : Option (ByteArray) :=
  (iter (σ := Int × List Int × Unit) (fun rec4 x3 => (bif (decide (x3.1 < (x3.2.1.length : Int))) then (bif (decide (0 ≤ x3.1 ∧ x3.1 < (x3.2.1.length : Int))) then (bif (decide ((65 : Int) ≤ (x3.2.1.getD x3.1.toNat (0 : Int)))) then (bif (decide (0 ≤ x3.1 ∧ x3.1 < (x3.2.1.length : Int))) then (bif (decide ((x3.2.1.getD x3.1.toNat (0 : Int)) ≤ (90 : Int))) then (bif (decide (0 ≤ x3.1 ∧ x3.1 < (x3.2.1.length : Int))) then (bif (decide (0 ≤ x3.1 ∧ x3.1 < (x3.2.1.length : Int))) then (rec4 ((wrap64 (x3.1 + (1 : Int))), (x3.2.1.set x3.1.toNat (wr .u8 ((x3.2.1.getD x3.1.toNat (0 : Int)) + (32 : Int)))), ())) else none) else none) else (rec4 ((wrap64 (x3.1 + (1 : Int))), x3.2.1, ()))) else none) else (rec4 ((wrap64 (x3.1 + (1 : Int))), x3.2.1, ()))) else none) else some (strOf x3.2.1))) k ((0 : Int), (bytesOf a0), ()))
def S181 (k : Nat) : CSpec := { params := [.str], res := [(.str, false)], fresh := true, sem := fun x => F181 k x.1 }
theorem e181 : (fun k => evFn ((T (fun _ _ => ⟨[4], [0], [], false⟩) k).cx []) 5 Tryz.f181 (S181 0).params (S181 0).res true) = fun k => (S181 k).sem := by kernel_rfl
theorem ok181 {G : World → Prop} (hG : Lasts G) (k : Nat) : (S181 k).ok Tryz.prog G 181 := fn_ok (T_ok (fun _ _ => ⟨[4], [0], [], false⟩) k) hG (calls := []) trivial 5 rfl (S181 k) (congrFun e181 k)

/-- loop.example/g01402/spec.l2Blank -/
def F208 (k : Nat) (a0 : Int) : Option (Bool) :=
  (bif (decide (a0 = (32 : Int))) then some true else some (decide (a0 = (9 : Int))))
def S208 (k : Nat) : CSpec := { params := [(.int .u8)], res := [(.bool, false)], fresh := true, sem := fun x => F208 k x.1 }
theorem e208 : (fun k => evFn ((T (fun _ _ => ⟨[], [], [], false⟩) k).cx []) 5 Tryz.f208 (S208 0).params (S208 0).res true) = fun k => (S208 k).sem := by kernel_rfl
theorem ok208 {G : World → Prop} (hG : Lasts G) (k : Nat) : (S208 k).ok Tryz.prog G 208 := fn_ok (T_ok (fun _ _ => ⟨[], [], [], false⟩) k) hG (calls := []) trivial 5 rfl (S208 k) (congrFun e208 k)

/-- loop.example/g01402/spec.Trim -/
def F198 (k : Nat) (a0 : ByteArray) : Option (ByteArray) :=
  (iter (σ := ByteArray × Unit) (fun rec5 x4 => (bif (decide ((0 : Int) < (x4.1.size : Int))) then (bif (decide (0 ≤ (0 : Int) ∧ (0 : Int) < (x4.1.size : Int))) then ((F208 k (bt x4.1 (0 : Int))).bind fun r6 => (bif r6 then (bif (decide (0 ≤ (1 : Int) ∧ (1 : Int) ≤ (x4.1.size : Int) ∧ (x4.1.size : Int) ≤ (x4.1.size : Int))) then (rec5 ((x4.1.extract (1 : Int).toNat (x4.1.size : Int).toNat), ())) else none) else (iter (σ := ByteArray × Unit) (fun rec11 x10 => (bif (decide ((0 : Int) < (x10.1.size : Int))) then (bif (decide (0 ≤ (wrap64 ((x10.1.size : Int) - (1 : Int))) ∧ (wrap64 ((x10.1.size : Int) - (1 : Int))) < (x10.1.size : Int))) then ((F208 k (bt x10.1 (wrap64 ((x10.1.size : Int) - (1 : Int))))).bind fun r12 => (bif r12 then (bif (decide (0 ≤ (0 : Int) ∧ (0 : Int) ≤ (wrap64 ((x10.1.size : Int) - (1 : Int))) ∧ (wrap64 ((x10.1.size : Int) - (1 : Int))) ≤ (x10.1.size : Int))) then (rec11 ((x10.1.extract (0 : Int).toNat (wrap64 ((x10.1.size : Int) - (1 : Int))).toNat), ())) else none) else some x10.1)) else none) else some x10.1)) k (x4.1, ())))) else none) else (iter (σ := ByteArray × Unit) (fun rec17 x16 => (bif (decide ((0 : Int) < (x16.1.size : Int))) then (bif (decide (0 ≤ (wrap64 ((x16.1.size : Int) - (1 : Int))) ∧ (wrap64 ((x16.1.size : Int) - (1 : Int))) < (x16.1.size : Int))) then ((F208 k (bt x16.1 (wrap64 ((x16.1.size : Int) - (1 : Int))))).bind fun r18 => (bif r18 then (bif (decide (0 ≤ (0 : Int) ∧ (0 : Int) ≤ (wrap64 ((x16.1.size : Int) - (1 : Int))) ∧ (wrap64 ((x16.1.size : Int) - (1 : Int))) ≤ (x16.1.size : Int))) then (rec17 ((x16.1.extract (0 : Int).toNat (wrap64 ((x16.1.size : Int) - (1 : Int))).toNat), ())) else none) else some x16.1)) else none) else some x16.1)) k (x4.1, ())))) k (a0, ()))
def S198 (k : Nat) : CSpec := { params := [.str], res := [(.str, false)], fresh := true, sem := fun x => F198 k x.1 }
theorem e198 : (fun k => evFn ((T (fun _ _ => ⟨[0], [], [], false⟩) k).cx [(208, S208 k)]) 5 Tryz.f198 (S198 0).params (S198 0).res true) = fun k => (S198 k).sem := by kernel_rfl
theorem ok198 {G : World → Prop} (hG : Lasts G) (k : Nat) : (S198 k).ok Tryz.prog G 198 := fn_ok (T_ok (fun _ _ => ⟨[0], [], [], false⟩) k) hG (calls := [(208, S208 k)]) ⟨ok208 hG k, trivial⟩ 5 rfl (S198 k) (congrFun e198 k)

/-- loop.example/g01402/spec.IsValueText -/
def F191 (k : Nat) (a0 : ByteArray) : Option (Bool) :=
  (iter (σ := Int × Unit) (fun rec4 x3 => (bif (decide (x3.1 < (a0.size : Int))) then (bif (decide (0 ≤ x3.1 ∧ x3.1 < (a0.size : Int))) then (bif (!decide ((bt a0 x3.1) = (9 : Int))) then (bif (decide (0 ≤ x3.1 ∧ x3.1 < (a0.size : Int))) then (bif (decide ((bt a0 x3.1) < (32 : Int))) then some false else (bif (decide (0 ≤ x3.1 ∧ x3.1 < (a0.size : Int))) then (bif (decide ((bt a0 x3.1) = (127 : Int))) then some false else (rec4 ((wrap64 (x3.1 + (1 : Int))), ()))) else none)) else none) else (rec4 ((wrap64 (x3.1 + (1 : Int))), ()))) else none) else ((F198 k a0).bind fun r5 => some (decide (r5 = a0))))) k ((0 : Int), ()))
def S191 (k : Nat) : CSpec := { params := [.str], res := [(.bool, false)], fresh := true, sem := fun x => F191 k x.1 }
theorem e191 : (fun k => evFn ((T (fun _ _ => ⟨[3], [], [], false⟩) k).cx [(198, S198 k)]) 5 Tryz.f191 (S191 0).params (S191 0).res true) = fun k => (S191 k).sem := by kernel_rfl
theorem ok191 {G : World → Prop} (hG : Lasts G) (k : Nat) : (S191 k).ok Tryz.prog G 191 := fn_ok (T_ok (fun _ _ => ⟨[3], [], [], false⟩) k) hG (calls := [(198, S198 k)]) ⟨ok198 hG k, trivial⟩ 5 rfl (S191 k) (congrFun e191 k)

/-- loop.example/g01402/spec.l3FieldOk -/
def F171 (k : Nat) (a0 : D0) : Option (Bool) :=
  ((F141 k a0.1).bind fun r1 => (bif r1 then ((F181 k a0.1).bind fun r2 => (bif (decide (a0.1 = r2)) then (bif (decide ((a0.1.size : Int) ≤ (24 : Int))) then ((F191 k a0.2).bind fun r3 => (bif r3 then some (decide ((a0.2.size : Int) ≤ (60 : Int))) else some false)) else some false) else some false)) else some false))
def S171 (k : Nat) : CSpec := { params := [U0], res := [(.bool, false)], fresh := true, sem := fun x => F171 k x.1 }
theorem e171 : (fun k => evFn ((T (fun _ _ => ⟨[], [], [], false⟩) k).cx [(141, S141 k), (181, S181 k), (191, S191 k)]) 5 Tryz.f171 (S171 0).params (S171 0).res true) = fun k => (S171 k).sem := by kernel_rfl
theorem ok171 {G : World → Prop} (hG : Lasts G) (k : Nat) : (S171 k).ok Tryz.prog G 171 := fn_ok (T_ok (fun _ _ => ⟨[], [], [], false⟩) k) hG (calls := [(141, S141 k), (181, S181 k), (191, S191 k)]) ⟨ok141 hG k, ok181 hG k, ok191 hG k, trivial⟩ 5 rfl (S171 k) (congrFun e171 k)

/-- loop.example/g01402/spec.FieldsOk -/
def F146 (k : Nat) (a0 : List D0) : Option (Bool) :=
  (iter (σ := Int × Unit) (fun rec5 x4 => (bif (decide (x4.1 < (a0.length : Int))) then (bif (decide (0 ≤ x4.1 ∧ x4.1 < (a0.length : Int))) then ((F171 k (a0.getD x4.1.toNat Z0)).bind fun r6 => (bif (!r6) then some false else (rec5 ((wrap64 (x4.1 + (1 : Int))), ())))) else none) else some (decide ((a0.length : Int) ≤ (12 : Int))))) k ((0 : Int), ()))
def S146 (k : Nat) : CSpec := { params := [(.slice U0)], res := [(.bool, false)], fresh := true, sem := fun x => F146 k x.1 }
theorem e146 : (fun k => evFn ((T (fun _ _ => ⟨[3], [], [], false⟩) k).cx [(171, S171 k)]) 5 Tryz.f146 (S146 0).params (S146 0).res true) = fun k => (S146 k).sem := by kernel_rfl
theorem ok146 {G : World → Prop} (hG : Lasts G) (k : Nat) : (S146 k).ok Tryz.prog G 146 := fn_ok (T_ok (fun _ _ => ⟨[3], [], [], false⟩) k) hG (calls := [(171, S171 k)]) ⟨ok171 hG k, trivial⟩ 5 rfl (S146 k) (congrFun e146 k)

/-- loop.example/g01402/spec.l6Plain -/
def F140 (k : Nat) (a0 : List D0) : Option (Bool) :=
  ((F128 k a0 (ByteArray.mk #[116, 114, 97, 110, 115, 102, 101, 114, 45, 101, 110, 99, 111, 100, 105, 110, 103])).bind fun r1 => ((F128 k a0 (ByteArray.mk #[99, 111, 110, 116, 101, 110, 116, 45, 108, 101, 110, 103, 116, 104])).bind fun r2 => (bif (!r1.2) then (bif (!r2.2) then (bif (decide ((a0.length : Int) < (12 : Int))) then ((F146 k a0).bind fun r3 => some r3) else some false) else some false) else some false)))
def S140 (k : Nat) : CSpec := { params := [(.slice U0)], res := [(.bool, false)], fresh := true, sem := fun x => F140 k x.1 }
theorem e140 : (fun k => evFn ((T (fun _ _ => ⟨[], [], [], false⟩) k).cx [(128, S128 k), (146, S146 k)]) 5 Tryz.f140 (S140 0).params (S140 0).res true) = fun k => (S140 k).sem := by kernel_rfl
theorem ok140 {G : World → Prop} (hG : Lasts G) (k : Nat) : (S140 k).ok Tryz.prog G 140 := fn_ok (T_ok (fun _ _ => ⟨[], [], [], false⟩) k) hG (calls := [(128, S128 k), (146, S146 k)]) ⟨ok128 hG k, ok146 hG k, trivial⟩ 5 rfl (S140 k) (congrFun e140 k)

/-- loop.example/g01402/spec.ResponseOk -/
def F92 (k : Nat) (a0 : D1) : Option (Bool) :=
  ((F83 k a0.1 (200 : Int) (599 : Int)).bind fun r1 => (bif r1 then ((F140 k a0.2.1).bind fun r2 => (bif r2 then (bif (decide ((a0.2.2.size : Int) ≤ (60 : Int))) then (bif (!decide (a0.1 = (204 : Int))) then (bif (!decide (a0.1 = (304 : Int))) then some true else some (decide (a0.2.2 = (ByteArray.mk #[])))) else some (decide (a0.2.2 = (ByteArray.mk #[])))) else some false) else some false)) else some false))
def S92 (k : Nat) : CSpec := { params := [U1], res := [(.bool, false)], fresh := true, sem := fun x => F92 k x.1 }
theorem e92 : (fun k => evFn ((T (fun _ _ => ⟨[], [], [], false⟩) k).cx [(83, S83 k), (140, S140 k)]) 5 Tryz.f92 (S92 0).params (S92 0).res true) = fun k => (S92 k).sem := by kernel_rfl
theorem ok92 {G : World → Prop} (hG : Lasts G) (k : Nat) : (S92 k).ok Tryz.prog G 92 := fn_ok (T_ok (fun _ _ => ⟨[], [], [], false⟩) k) hG (calls := [(83, S83 k), (140, S140 k)]) ⟨ok83 hG k, ok140 hG k, trivial⟩ 5 rfl (S92 k) (congrFun e92 k)

/-- loop.example/g01402/spec.StoredOk -/
def F35 (k : Nat) (a0 : D2) : Option (Bool) :=
  ((F91 k a0.1).bind fun r1 => (bif r1 then ((F92 k a0.2.2.1).bind fun r2 => (bif r2 then ((F83 k a0.2.2.2.1 (0 : Int) (2000000000 : Int)).bind fun r3 => (bif r3 then ((F83 k a0.2.2.2.2 a0.2.2.2.1 (2000000000 : Int)).bind fun r4 => (bif r4 then some (decide ((a0.2.1.length : Int) ≤ (12 : Int))) else some false)) else some false)) else some false)) else some false))
def S35 (k : Nat) : CSpec := { params := [U2], res := [(.bool, false)], fresh := true, sem := fun x => F35 k x.1 }
theorem e35 : (fun k => evFn ((T (fun _ _ => ⟨[], [], [], false⟩) k).cx [(83, S83 k), (91, S91 k), (92, S92 k)]) 5 Tryz.f35 (S35 0).params (S35 0).res true) = fun k => (S35 k).sem := by kernel_rfl
theorem ok35 {G : World → Prop} (hG : Lasts G) (k : Nat) : (S35 k).ok Tryz.prog G 35 := fn_ok (T_ok (fun _ _ => ⟨[], [], [], false⟩) k) hG (calls := [(83, S83 k), (91, S91 k), (92, S92 k)]) ⟨ok83 hG k, ok91 hG k, ok92 hG k, trivial⟩ 5 rfl (S35 k) (congrFun e35 k)

/-- loop.example/g01402/spec.Var -/
def F37 (k : Nat) (a0 : Int) : Option (ByteArray) :=
  ((F83 k a0 (0 : Int) (562949953421311 : Int)).bind fun r1 => (bif (!r1) then some (ByteArray.mk #[]) else (iter (σ := Int × List Int × Unit) (fun rec5 x4 => (bif (decide ((128 : Int) ≤ x4.1)) then (bif (decide ((128 : Int) = 0)) then none else (bif (decide (x4.2.1.length + ([(wr .u8 ((wrap64 ((128 : Int) + (x4.1.tmod (128 : Int))))))] : List Int).length < most)) then (bif (decide ((128 : Int) = 0)) then none else (rec5 ((wrap64 (x4.1.tdiv (128 : Int))), (x4.2.1 ++ ([(wr .u8 ((wrap64 ((128 : Int) + (x4.1.tmod (128 : Int))))))] : List Int)), ()))) else none)) else (bif (decide (x4.2.1.length + ([(wr .u8 (x4.1))] : List Int).length < most)) then some (strOf (x4.2.1 ++ ([(wr .u8 (x4.1))] : List Int))) else none))) k (a0, ([] : List Int), ()))))
def S37 (k : Nat) : CSpec := { params := [(.int .i64)], res := [(.str, false)], fresh := true, sem := fun x => F37 k x.1 }
theorem e37 : (fun k => evFn ((T (fun _ _ => ⟨[0, 3], [], [0], false⟩) k).cx [(83, S83 k)]) 5 Tryz.f37 (S37 0).params (S37 0).res true) = fun k => (S37 k).sem := by kernel_rfl
theorem ok37 {G : World → Prop} (hG : Lasts G) (k : Nat) : (S37 k).ok Tryz.prog G 37 := fn_ok (T_ok (fun _ _ => ⟨[0, 3], [], [0], false⟩) k) hG (calls := [(83, S83 k)]) ⟨ok83 hG k, trivial⟩ 5 rfl (S37 k) (congrFun e37 k)

/-- loop.example/g01402/spec.l25Text -/
def F36 (k : Nat) (a0 : ByteArray) : Option (ByteArray) :=
  ((F37 k (a0.size : Int)).bind fun r1 => (bif (decide (r1.size + a0.size < mostText)) then some (r1 ++ a0) else none))
def S36 (k : Nat) : CSpec := { params := [.str], res := [(.str, false)], fresh := true, sem := fun x => F36 k x.1 }
theorem e36 : (fun k => evFn ((T (fun _ _ => ⟨[], [], [], false⟩) k).cx [(37, S37 k)]) 5 Tryz.f36 (S36 0).params (S36 0).res true) = fun k => (S36 k).sem := by kernel_rfl
theorem ok36 {G : World → Prop} (hG : Lasts G) (k : Nat) : (S36 k).ok Tryz.prog G 36 := fn_ok (T_ok (fun _ _ => ⟨[], [], [], false⟩) k) hG (calls := [(37, S37 k)]) ⟨ok37 hG k, trivial⟩ 5 rfl (S36 k) (congrFun e36 k)

/-- loop.example/g01402/spec.FieldDrop -/
def F145 (k : Nat) (a0 : List D0) (a1 : ByteArray) : Option ((List D0)) :=
  (iter (σ := Int × List D0 × Unit) (fun rec4 x3 => (bif (decide (x3.1 < (a0.length : Int))) then (bif (decide (0 ≤ x3.1 ∧ x3.1 < (a0.length : Int))) then (bif (!decide ((a0.getD x3.1.toNat Z0).1 = a1)) then (bif (decide (0 ≤ x3.1 ∧ x3.1 < (a0.length : Int))) then (bif (decide (x3.2.1.length + ([(a0.getD x3.1.toNat Z0)] : List D0).length < most)) then (rec4 ((wrap64 (x3.1 + (1 : Int))), (x3.2.1 ++ ([(a0.getD x3.1.toNat Z0)] : List D0)), ())) else none) else none) else (rec4 ((wrap64 (x3.1 + (1 : Int))), x3.2.1, ()))) else none) else some x3.2.1)) k ((0 : Int), ([] : List D0), ()))
def S145 (k : Nat) : CSpec := { params := [(.slice U0), .str], res := [((.slice U0), true)], fresh := true, sem := fun x => F145 k x.1 x.2.1 }
theorem e145 : (fun k => evFn ((T (fun _ _ => ⟨[5, 6], [], [1], false⟩) k).cx []) 5 Tryz.f145 (S145 0).params (S145 0).res true) = fun k => (S145 k).sem := by kernel_rfl
theorem ok145 {G : World → Prop} (hG : Lasts G) (k : Nat) : (S145 k).ok Tryz.prog G 145 := fn_ok (T_ok (fun _ _ => ⟨[5, 6], [], [1], false⟩) k) hG (calls := []) trivial 5 rfl (S145 k) (congrFun e145 k)

/-- loop.example/g01402/spec.Dec -/
def F49 (k : Nat) (a0 : Int) : Option (ByteArray) :=
  (bif (decide (a0 = (0 : Int))) then some (ByteArray.mk #[48]) else (iter (σ := Int × ByteArray × Unit) (fun rec4 x3 => (bif (!decide (x3.1 = (0 : Int))) then (bif (decide ((10 : Int) = 0)) then none else (bif (decide ((x3.1.tmod (10 : Int)) < (0 : Int))) then (bif (decide ((strOf ([(wr .u8 ((wrap64 ((48 : Int) + (wrap64 (-(x3.1.tmod (10 : Int))))))))] : List Int)).size + x3.2.1.size < mostText)) then (bif (decide ((10 : Int) = 0)) then none else (rec4 ((wrap64 (x3.1.tdiv (10 : Int))), ((strOf ([(wr .u8 ((wrap64 ((48 : Int) + (wrap64 (-(x3.1.tmod (10 : Int))))))))] : List Int)) ++ x3.2.1), ()))) else none) else (bif (decide ((strOf ([(wr .u8 ((wrap64 ((48 : Int) + (x3.1.tmod (10 : Int))))))] : List Int)).size + x3.2.1.size < mostText)) then (bif (decide ((10 : Int) = 0)) then none else (rec4 ((wrap64 (x3.1.tdiv (10 : Int))), ((strOf ([(wr .u8 ((wrap64 ((48 : Int) + (x3.1.tmod (10 : Int))))))] : List Int)) ++ x3.2.1), ()))) else none))) else (bif (decide (a0 < (0 : Int))) then (bif (decide ((ByteArray.mk #[45]).size + x3.2.1.size < mostText)) then some ((ByteArray.mk #[45]) ++ x3.2.1) else none) else some x3.2.1))) k (a0, (ByteArray.mk #[]), ())))
def S49 (k : Nat) : CSpec := { params := [(.int .i64)], res := [(.str, false)], fresh := true, sem := fun x => F49 k x.1 }
theorem e49 : (fun k => evFn ((T (fun _ _ => ⟨[0, 3], [], [], false⟩) k).cx []) 5 Tryz.f49 (S49 0).params (S49 0).res true) = fun k => (S49 k).sem := by kernel_rfl
theorem ok49 {G : World → Prop} (hG : Lasts G) (k : Nat) : (S49 k).ok Tryz.prog G 49 := fn_ok (T_ok (fun _ _ => ⟨[0, 3], [], [], false⟩) k) hG (calls := []) trivial 5 rfl (S49 k) (congrFun e49 k)

/-- loop.example/g01402/spec.l6Framed -/
def F93 (k : Nat) (a0 : List D0) (a1 : ByteArray) : Option ((List D0)) :=
  ((F145 k a0 (ByteArray.mk #[116, 114, 97, 110, 115, 102, 101, 114, 45, 101, 110, 99, 111, 100, 105, 110, 103])).bind fun r1 => ((F145 k r1 (ByteArray.mk #[99, 111, 110, 116, 101, 110, 116, 45, 108, 101, 110, 103, 116, 104])).bind fun r2 => ((F49 k (a1.size : Int)).bind fun r3 => (bif (decide (r2.length + ([((ByteArray.mk #[99, 111, 110, 116, 101, 110, 116, 45, 108, 101, 110, 103, 116, 104]), r3)] : List D0).length < most)) then some (r2 ++ ([((ByteArray.mk #[99, 111, 110, 116, 101, 110, 116, 45, 108, 101, 110, 103, 116, 104]), r3)] : List D0)) else none))))
def S93 (k : Nat) : CSpec := { params := [(.slice U0), .str], res := [((.slice U0), true)], fresh := true, sem := fun x => F93 k x.1 x.2.1 }
theorem e93 : (fun k => evFn ((T (fun _ _ => ⟨[], [], [], false⟩) k).cx [(49, S49 k), (145, S145 k)]) 5 Tryz.f93 (S93 0).params (S93 0).res true) = fun k => (S93 k).sem := by kernel_rfl
theorem ok93 {G : World → Prop} (hG : Lasts G) (k : Nat) : (S93 k).ok Tryz.prog G 93 := fn_ok (T_ok (fun _ _ => ⟨[], [], [], false⟩) k) hG (calls := [(49, S49 k), (145, S145 k)]) ⟨ok49 hG k, ok145 hG k, trivial⟩ 5 rfl (S93 k) (congrFun e93 k)

/-- loop.example/g01402/spec.Reason -/
def F94 (k : Nat) (a0 : Int) : Option (ByteArray) :=
  (iter (σ := Int × Unit) (fun rec4 x3 => (bif (decide (x3.1 < (([(200 : Int), (203 : Int), (204 : Int), (300 : Int), (301 : Int), (304 : Int), (400 : Int), (404 : Int), (410 : Int), (502 : Int), (504 : Int)] : List Int).length : Int))) then (bif (decide (0 ≤ x3.1 ∧ x3.1 < (([(200 : Int), (203 : Int), (204 : Int), (300 : Int), (301 : Int), (304 : Int), (400 : Int), (404 : Int), (410 : Int), (502 : Int), (504 : Int)] : List Int).length : Int))) then (bif (decide ((([(200 : Int), (203 : Int), (204 : Int), (300 : Int), (301 : Int), (304 : Int), (400 : Int), (404 : Int), (410 : Int), (502 : Int), (504 : Int)] : List Int).getD x3.1.toNat (0 : Int)) = a0)) then (bif (decide (0 ≤ x3.1 ∧ x3.1 < (([(ByteArray.mk #[79, 75]), (ByteArray.mk #[78, 111, 110, 45, 65, 117, 116, 104, 111, 114, 105, 116, 97, 116, 105, 118, 101, 32, 73, 110, 102, 111, 114, 109, 97, 116, 105, 111, 110]), (ByteArray.mk #[78, 111, 32, 67, 111, 110, 116, 101, 110, 116]), (ByteArray.mk #[77, 117, 108, 116, 105, 112, 108, 101, 32, 67, 104, 111, 105, 99, 101, 115]), (ByteArray.mk #[77, 111, 118, 101, 100, 32, 80, 101, 114, 109, 97, 110, 101, 110, 116, 108, 121]), (ByteArray.mk #[78, 111, 116, 32, 77, 111, 100, 105, 102, 105, 101, 100]), (ByteArray.mk #[66, 97, 100, 32, 82, 101, 113, 117, 101, 115, 116]), (ByteArray.mk #[78, 111, 116, 32, 70, 111, 117, 110, 100]), (ByteArray.mk #[71, 111, 110, 101]), (ByteArray.mk #[66, 97, 100, 32, 71, 97, 116, 101, 119, 97, 121]), (ByteArray.mk #[71, 97, 116, 101, 119, 97, 121, 32, 84, 105, 109, 101, 111, 117, 116])] : List ByteArray).length : Int))) then some (([(ByteArray.mk #[79, 75]), (ByteArray.mk #[78, 111, 110, 45, 65, 117, 116, 104, 111, 114, 105, 116, 97, 116, 105, 118, 101, 32, 73, 110, 102, 111, 114, 109, 97, 116, 105, 111, 110]), (ByteArray.mk #[78, 111, 32, 67, 111, 110, 116, 101, 110, 116]), (ByteArray.mk #[77, 117, 108, 116, 105, 112, 108, 101, 32, 67, 104, 111, 105, 99, 101, 115]), (ByteArray.mk #[77, 111, 118, 101, 100, 32, 80, 101, 114, 109, 97, 110, 101, 110, 116, 108, 121]), (ByteArray.mk #[78, 111, 116, 32, 77, 111, 100, 105, 102, 105, 101, 100]), (ByteArray.mk #[66, 97, 100, 32, 82, 101, 113, 117, 101, 115, 116]), (ByteArray.mk #[78, 111, 116, 32, 70, 111, 117, 110, 100]), (ByteArray.mk #[71, 111, 110, 101]), (ByteArray.mk #[66, 97, 100, 32, 71, 97, 116, 101, 119, 97, 121]), (ByteArray.mk #[71, 97, 116, 101, 119, 97, 121, 32, 84, 105, 109, 101, 111, 117, 116])] : List ByteArray).getD x3.1.toNat (ByteArray.mk #[])) else none) else (rec4 ((wrap64 (x3.1 + (1 : Int))), ()))) else none) else some (ByteArray.mk #[83, 116, 97, 116, 117, 115]))) k ((0 : Int), ()))
def S94 (k : Nat) : CSpec := { params := [(.int .i64)], res := [(.str, false)], fresh := true, sem := fun x => F94 k x.1 }
theorem e94 : (fun k => evFn ((T (fun _ _ => ⟨[5], [], [], false⟩) k).cx []) 5 Tryz.f94 (S94 0).params (S94 0).res true) = fun k => (S94 k).sem := by kernel_rfl
theorem ok94 {G : World → Prop} (hG : Lasts G) (k : Nat) : (S94 k).ok Tryz.prog G 94 := fn_ok (T_ok (fun _ _ => ⟨[5], [], [], false⟩) k) hG (calls := []) trivial 5 rfl (S94 k) (congrFun e94 k)

/-- loop.example/g01402/spec.ShowFields -/
def F95 (k : Nat) (a0 : List D0) : Option (ByteArray) :=
  ((F146 k a0).bind fun r1 => (bif (!r1) then some (ByteArray.mk #[]) else (iter (σ := ByteArray × Int × Unit) (fun rec5 x4 => (bif (decide (x4.2.1 < (a0.length : Int))) then (bif (decide (0 ≤ x4.2.1 ∧ x4.2.1 < (a0.length : Int))) then (bif (decide (x4.1.size + (a0.getD x4.2.1.toNat Z0).1.size < mostText)) then (bif (decide ((x4.1 ++ (a0.getD x4.2.1.toNat Z0).1).size + (ByteArray.mk #[58, 32]).size < mostText)) then (bif (decide (0 ≤ x4.2.1 ∧ x4.2.1 < (a0.length : Int))) then (bif (decide (((x4.1 ++ (a0.getD x4.2.1.toNat Z0).1) ++ (ByteArray.mk #[58, 32])).size + (a0.getD x4.2.1.toNat Z0).2.size < mostText)) then (bif (decide ((((x4.1 ++ (a0.getD x4.2.1.toNat Z0).1) ++ (ByteArray.mk #[58, 32])) ++ (a0.getD x4.2.1.toNat Z0).2).size + (ByteArray.mk #[13, 10]).size < mostText)) then (rec5 (((((x4.1 ++ (a0.getD x4.2.1.toNat Z0).1) ++ (ByteArray.mk #[58, 32])) ++ (a0.getD x4.2.1.toNat Z0).2) ++ (ByteArray.mk #[13, 10])), (wrap64 (x4.2.1 + (1 : Int))), ())) else none) else none) else none) else none) else none) else none) else (bif (decide (x4.1.size + (ByteArray.mk #[13, 10]).size < mostText)) then some (x4.1 ++ (ByteArray.mk #[13, 10])) else none))) k ((ByteArray.mk #[]), (0 : Int), ()))))
def S95 (k : Nat) : CSpec := { params := [(.slice U0)], res := [(.str, false)], fresh := true, sem := fun x => F95 k x.1 }
theorem e95 : (fun k => evFn ((T (fun _ _ => ⟨[3, 4], [], [], false⟩) k).cx [(146, S146 k)]) 5 Tryz.f95 (S95 0).params (S95 0).res true) = fun k => (S95 k).sem := by kernel_rfl
theorem ok95 {G : World → Prop} (hG : Lasts G) (k : Nat) : (S95 k).ok Tryz.prog G 95 := fn_ok (T_ok (fun _ _ => ⟨[3, 4], [], [], false⟩) k) hG (calls := [(146, S146 k)]) ⟨ok146 hG k, trivial⟩ 5 rfl (S95 k) (congrFun e95 k)

/-- loop.example/g01402/spec.ShowResponse -/
def F38 (k : Nat) (a0 : D1) : Option (ByteArray) :=
  ((F92 k a0).bind fun r1 => (bif (!r1) then some (ByteArray.mk #[]) else (bif (!decide (a0.1 = (204 : Int))) then (bif (!decide (a0.1 = (304 : Int))) then ((F93 k a0.2.1 a0.2.2).bind fun r2 => ((F49 k a0.1).bind fun r3 => (bif (decide ((ByteArray.mk #[72, 84, 84, 80, 47, 49, 46, 49, 32]).size + r3.size < mostText)) then (bif (decide (((ByteArray.mk #[72, 84, 84, 80, 47, 49, 46, 49, 32]) ++ r3).size + (ByteArray.mk #[32]).size < mostText)) then ((F94 k a0.1).bind fun r4 => (bif (decide ((((ByteArray.mk #[72, 84, 84, 80, 47, 49, 46, 49, 32]) ++ r3) ++ (ByteArray.mk #[32])).size + r4.size < mostText)) then (bif (decide (((((ByteArray.mk #[72, 84, 84, 80, 47, 49, 46, 49, 32]) ++ r3) ++ (ByteArray.mk #[32])) ++ r4).size + (ByteArray.mk #[13, 10]).size < mostText)) then ((F95 k r2).bind fun r5 => (bif (decide ((((((ByteArray.mk #[72, 84, 84, 80, 47, 49, 46, 49, 32]) ++ r3) ++ (ByteArray.mk #[32])) ++ r4) ++ (ByteArray.mk #[13, 10])).size + r5.size < mostText)) then (bif (decide (((((((ByteArray.mk #[72, 84, 84, 80, 47, 49, 46, 49, 32]) ++ r3) ++ (ByteArray.mk #[32])) ++ r4) ++ (ByteArray.mk #[13, 10])) ++ r5).size + a0.2.2.size < mostText)) then some (((((((ByteArray.mk #[72, 84, 84, 80, 47, 49, 46, 49, 32]) ++ r3) ++ (ByteArray.mk #[32])) ++ r4) ++ (ByteArray.mk #[13, 10])) ++ r5) ++ a0.2.2) else none) else none)) else none) else none)) else none) else none))) else ((F49 k a0.1).bind fun r6 => (bif (decide ((ByteArray.mk #[72, 84, 84, 80, 47, 49, 46, 49, 32]).size + r6.size < mostText)) then (bif (decide (((ByteArray.mk #[72, 84, 84, 80, 47, 49, 46, 49, 32]) ++ r6).size + (ByteArray.mk #[32]).size < mostText)) then ((F94 k a0.1).bind fun r7 => (bif (decide ((((ByteArray.mk #[72, 84, 84, 80, 47, 49, 46, 49, 32]) ++ r6) ++ (ByteArray.mk #[32])).size + r7.size < mostText)) then (bif (decide (((((ByteArray.mk #[72, 84, 84, 80, 47, 49, 46, 49, 32]) ++ r6) ++ (ByteArray.mk #[32])) ++ r7).size + (ByteArray.mk #[13, 10]).size < mostText)) then ((F95 k a0.2.1).bind fun r8 => (bif (decide ((((((ByteArray.mk #[72, 84, 84, 80, 47, 49, 46, 49, 32]) ++ r6) ++ (ByteArray.mk #[32])) ++ r7) ++ (ByteArray.mk #[13, 10])).size + r8.size < mostText)) then (bif (decide (((((((ByteArray.mk #[72, 84, 84, 80, 47, 49, 46, 49, 32]) ++ r6) ++ (ByteArray.mk #[32])) ++ r7) ++ (ByteArray.mk #[13, 10])) ++ r8).size + a0.2.2.size < mostText)) then some (((((((ByteArray.mk #[72, 84, 84, 80, 47, 49, 46, 49, 32]) ++ r6) ++ (ByteArray.mk #[32])) ++ r7) ++ (ByteArray.mk #[13, 10])) ++ r8) ++ a0.2.2) else none) else none)) else none) else none)) else none) else none))) else ((F49 k a0.1).bind fun r9 => (bif (decide ((ByteArray.mk #[72, 84, 84, 80, 47, 49, 46, 49, 32]).size + r9.size < mostText)) then (bif (decide (((ByteArray.mk #[72, 84, 84, 80, 47, 49, 46, 49, 32]) ++ r9).size + (ByteArray.mk #[32]).size < mostText)) then ((F94 k a0.1).bind fun r10 => (bif (decide ((((ByteArray.mk #[72, 84, 84, 80, 47, 49, 46, 49, 32]) ++ r9) ++ (ByteArray.mk #[32])).size + r10.size < mostText)) then (bif (decide (((((ByteArray.mk #[72, 84, 84, 80, 47, 49, 46, 49, 32]) ++ r9) ++ (ByteArray.mk #[32])) ++ r10).size + (ByteArray.mk #[13, 10]).size < mostText)) then ((F95 k a0.2.1).bind fun r11 => (bif (decide ((((((ByteArray.mk #[72, 84, 84, 80, 47, 49, 46, 49, 32]) ++ r9) ++ (ByteArray.mk #[32])) ++ r10) ++ (ByteArray.mk #[13, 10])).size + r11.size < mostText)) then (bif (decide (((((((ByteArray.mk #[72, 84, 84, 80, 47, 49, 46, 49, 32]) ++ r9) ++ (ByteArray.mk #[32])) ++ r10) ++ (ByteArray.mk #[13, 10])) ++ r11).size + a0.2.2.size < mostText)) then some (((((((ByteArray.mk #[72, 84, 84, 80, 47, 49, 46, 49, 32]) ++ r9) ++ (ByteArray.mk #[32])) ++ r10) ++ (ByteArray.mk #[13, 10])) ++ r11) ++ a0.2.2) else none) else none)) else none) else none)) else none) else none)))))
def S38 (k : Nat) : CSpec := { params := [U1], res := [(.str, false)], fresh := true, sem := fun x => F38 k x.1 }
theorem e38 : (fun k => evFn ((T (fun _ _ => ⟨[], [], [], false⟩) k).cx [(49, S49 k), (92, S92 k), (93, S93 k), (94, S94 k), (95, S95 k)]) 5 Tryz.f38 (S38 0).params (S38 0).res true) = fun k => (S38 k).sem := by kernel_rfl
theorem ok38 {G : World → Prop} (hG : Lasts G) (k : Nat) : (S38 k).ok Tryz.prog G 38 := fn_ok (T_ok (fun _ _ => ⟨[], [], [], false⟩) k) hG (calls := [(49, S49 k), (92, S92 k), (93, S93 k), (94, S94 k), (95, S95 k)]) ⟨ok49 hG k, ok92 hG k, ok93 hG k, ok94 hG k, ok95 hG k, trivial⟩ 5 rfl (S38 k) (congrFun e38 k)

/-- loop.example/g01402/spec.ShowStored -/
def F9 (k : Nat) (a0 : D2) : Option (ByteArray) :=
  ((F35 k a0).bind fun r1 => (bif (!r1) then some (ByteArray.mk #[]) else ((F36 k a0.1).bind fun r2 => ((F37 k (a0.2.1.length : Int)).bind fun r3 => (bif (decide (r2.size + r3.size < mostText)) then (iter (σ := ByteArray × Int × Unit) (fun rec9 x8 => (bif (decide (x8.2.1 < (a0.2.1.length : Int))) then (bif (decide (0 ≤ x8.2.1 ∧ x8.2.1 < (a0.2.1.length : Int))) then ((F36 k (a0.2.1.getD x8.2.1.toNat Z0).1).bind fun r10 => (bif (decide (x8.1.size + r10.size < mostText)) then (bif (decide (0 ≤ x8.2.1 ∧ x8.2.1 < (a0.2.1.length : Int))) then ((F36 k (a0.2.1.getD x8.2.1.toNat Z0).2).bind fun r11 => (bif (decide ((x8.1 ++ r10).size + r11.size < mostText)) then (rec9 (((x8.1 ++ r10) ++ r11), (wrap64 (x8.2.1 + (1 : Int))), ())) else none)) else none) else none)) else none) else ((F38 k a0.2.2.1).bind fun r12 => ((F36 k r12).bind fun r13 => (bif (decide (x8.1.size + r13.size < mostText)) then ((F37 k a0.2.2.2.1).bind fun r14 => (bif (decide ((x8.1 ++ r13).size + r14.size < mostText)) then ((F37 k a0.2.2.2.2).bind fun r15 => (bif (decide (((x8.1 ++ r13) ++ r14).size + r15.size < mostText)) then some (((x8.1 ++ r13) ++ r14) ++ r15) else none)) else none)) else none))))) k ((r2 ++ r3), (0 : Int), ())) else none)))))
def S9 (k : Nat) : CSpec := { params := [U2], res := [(.str, false)], fresh := true, sem := fun x => F9 k x.1 }
theorem e9 : (fun k => evFn ((T (fun _ _ => ⟨[3, 4], [], [], false⟩) k).cx [(35, S35 k), (36, S36 k), (37, S37 k), (38, S38 k)]) 5 Tryz.f9 (S9 0).params (S9 0).res true) = fun k => (S9 k).sem := by kernel_rfl
theorem ok9 {G : World → Prop} (hG : Lasts G) (k : Nat) : (S9 k).ok Tryz.prog G 9 := fn_ok (T_ok (fun _ _ => ⟨[3, 4], [], [], false⟩) k) hG (calls := [(35, S35 k), (36, S36 k), (37, S37 k), (38, S38 k)]) ⟨ok35 hG k, ok36 hG k, ok37 hG k, ok38 hG k, trivial⟩ 5 rfl (S9 k) (congrFun e9 k)

/-- loop.example/g01402/impl.in -/
def F86 (k : Nat) (a0 : Int) (a1 : Int) (a2 : Int) : Option (Bool) :=
  (bif (decide (a1 ≤ a0)) then some (decide (a0 ≤ a2)) else some false)
def S86 (k : Nat) : CSpec := { params := [(.int .i64), (.int .i64), (.int .i64)], res := [(.bool, false)], fresh := true, sem := fun x => F86 k x.1 x.2.1 x.2.2.1 }
theorem e86 : (fun k => evFn ((T (fun _ _ => ⟨[], [], [], false⟩) k).cx []) 5 Tryz.f86 (S86 0).params (S86 0).res true) = fun k => (S86 k).sem := by kernel_rfl
theorem ok86 {G : World → Prop} (hG : Lasts G) (k : Nat) : (S86 k).ok Tryz.prog G 86 := fn_ok (T_ok (fun _ _ => ⟨[], [], [], false⟩) k) hG (calls := []) trivial 5 rfl (S86 k) (congrFun e86 k)

/-- loop.example/g01402/impl.UriOk -/
def F97 (k : Nat) (a0 : ByteArray) : Option (Bool) :=
  (iter (σ := Int × Unit) (fun rec4 x3 => (bif (decide (x3.1 < (a0.size : Int))) then (bif (decide (0 ≤ x3.1 ∧ x3.1 < (a0.size : Int))) then (bif (decide ((bt a0 x3.1) < (33 : Int))) then some false else (bif (decide (0 ≤ x3.1 ∧ x3.1 < (a0.size : Int))) then (bif (decide ((126 : Int) < (bt a0 x3.1))) then some false else (rec4 ((wrap64 (x3.1 + (1 : Int))), ()))) else none)) else none) else ((F86 k (a0.size : Int) (1 : Int) (20 : Int)).bind fun r5 => (bif r5 then (bif (decide (0 ≤ (0 : Int) ∧ (0 : Int) < (a0.size : Int))) then some (decide ((bt a0 (0 : Int)) = (47 : Int))) else none) else some false)))) k ((0 : Int), ()))
def S97 (k : Nat) : CSpec := { params := [.str], res := [(.bool, false)], fresh := true, sem := fun x => F97 k x.1 }
theorem e97 : (fun k => evFn ((T (fun _ _ => ⟨[6], [], [], false⟩) k).cx [(86, S86 k)]) 5 Tryz.f97 (S97 0).params (S97 0).res true) = fun k => (S97 k).sem := by kernel_rfl
theorem ok97 {G : World → Prop} (hG : Lasts G) (k : Nat) : (S97 k).ok Tryz.prog G 97 := fn_ok (T_ok (fun _ _ => ⟨[6], [], [], false⟩) k) hG (calls := [(86, S86 k)]) ⟨ok86 hG k, trivial⟩ 5 rfl (S97 k) (congrFun e97 k)

/-- loop.example/g01402/impl.isLetterOrDigit -/
def F189 (k : Nat) (a0 : Int) : Option (Bool) :=
  (bif (decide ((97 : Int) ≤ a0)) then (bif (decide (a0 ≤ (122 : Int))) then some true else (bif (decide ((65 : Int) ≤ a0)) then (bif (decide (a0 ≤ (90 : Int))) then some true else (bif (decide ((48 : Int) ≤ a0)) then some (decide (a0 ≤ (57 : Int))) else some false)) else (bif (decide ((48 : Int) ≤ a0)) then some (decide (a0 ≤ (57 : Int))) else some false))) else (bif (decide ((65 : Int) ≤ a0)) then (bif (decide (a0 ≤ (90 : Int))) then some true else (bif (decide ((48 : Int) ≤ a0)) then some (decide (a0 ≤ (57 : Int))) else some false)) else (bif (decide ((48 : Int) ≤ a0)) then some (decide (a0 ≤ (57 : Int))) else some false)))
def S189 (k : Nat) : CSpec := { params := [(.int .u8)], res := [(.bool, false)], fresh := true, sem := fun x => F189 k x.1 }
theorem e189 : (fun k => evFn ((T (fun _ _ => ⟨[], [], [], false⟩) k).cx []) 5 Tryz.f189 (S189 0).params (S189 0).res true) = fun k => (S189 k).sem := by kernel_rfl
theorem ok189 {G : World → Prop} (hG : Lasts G) (k : Nat) : (S189 k).ok Tryz.prog G 189 := fn_ok (T_ok (fun _ _ => ⟨[], [], [], false⟩) k) hG (calls := []) trivial 5 rfl (S189 k) (congrFun e189 k)

/-- strings.IndexByte -/
def S190 (k : Nat) : CSpec := { params := [.str, (.int .u8)], res := [((.int .i64), false)], fresh := true, sem := fun x => semIndexByte x.1 x.2.1 }
theorem ok190 {G : World → Prop} (hG : Lasts G) (k : Nat) : (S190 k).ok Tryz.prog G 190 := ok_IndexByte Tryz.func190 (by kernel_rfl) (by kernel_rfl) Tryz.strings_IndexByte

/-- loop.example/g01402/impl.IsTokenText -/
def F170 (k : Nat) (a0 : ByteArray) : Option (Bool) :=
  (iter (σ := Int × Unit) (fun rec6 x5 => (bif (decide (x5.1 < (a0.size : Int))) then (bif (decide (0 ≤ x5.1 ∧ x5.1 < (a0.size : Int))) then ((F189 k (bt a0 x5.1)).bind fun r7 => (bif (!r7) then (bif (decide (0 ≤ x5.1 ∧ x5.1 < (a0.size : Int))) then ((semIndexByte (ByteArray.mk #[33, 35, 36, 37, 38, 39, 42, 43, 45, 46, 94, 95, 124, 126, 96]) (bt a0 x5.1)).bind fun r8 => (bif (decide (r8 < (0 : Int))) then some false else (rec6 ((wrap64 (x5.1 + (1 : Int))), ())))) else none) else (rec6 ((wrap64 (x5.1 + (1 : Int))), ())))) else none) else some (!decide (a0 = (ByteArray.mk #[]))))) k ((0 : Int), ()))
def S170 (k : Nat) : CSpec := { params := [.str], res := [(.bool, false)], fresh := true, sem := fun x => F170 k x.1 }
theorem e170 : (fun k => evFn ((T (fun _ _ => ⟨[6], [], [], false⟩) k).cx [(189, S189 k), (190, S190 k)]) 5 Tryz.f170 (S170 0).params (S170 0).res true) = fun k => (S170 k).sem := by kernel_rfl
theorem ok170 {G : World → Prop} (hG : Lasts G) (k : Nat) : (S170 k).ok Tryz.prog G 170 := fn_ok (T_ok (fun _ _ => ⟨[6], [], [], false⟩) k) hG (calls := [(189, S189 k), (190, S190 k)]) ⟨ok189 hG k, ok190 hG k, trivial⟩ 5 rfl (S170 k) (congrFun e170 k)

/-- loop.example/g01402/impl.Lower -/
def F187 (k : Nat) (a0 : ByteArray) : Option (ByteArray) :=
  (iter (σ := Int × List Int × Unit) (fun rec4 x3 => (bif (decide (x3.1 < ((bytesOf a0).length : Int))) then (bif (decide (0 ≤ x3.1 ∧ x3.1 < (x3.2.1.length : Int))) then (bif (decide ((65 : Int) ≤ (x3.2.1.getD x3.1.toNat (0 : Int)))) then (bif (decide ((x3.2.1.getD x3.1.toNat (0 : Int)) ≤ (90 : Int))) then (bif (decide (0 ≤ x3.1 ∧ x3.1 < (x3.2.1.length : Int))) then (rec4 ((wrap64 (x3.1 + (1 : Int))), (x3.2.1.set x3.1.toNat (wr .u8 ((wr .u8 ((x3.2.1.getD x3.1.toNat (0 : Int)) + (97 : Int))) - (65 : Int)))), ())) else none) else (rec4 ((wrap64 (x3.1 + (1 : Int))), x3.2.1, ()))) else (rec4 ((wrap64 (x3.1 + (1 : Int))), x3.2.1, ()))) else none) else some (strOf x3.2.1))) k ((0 : Int), (bytesOf a0), ()))
def S187 (k : Nat) : CSpec := { params := [.str], res := [(.str, false)], fresh := true, sem := fun x => F187 k x.1 }
theorem e187 : (fun k => evFn ((T (fun _ _ => ⟨[10], [0], [], false⟩) k).cx []) 5 Tryz.f187 (S187 0).params (S187 0).res true) = fun k => (S187 k).sem := by kernel_rfl
theorem ok187 {G : World → Prop} (hG : Lasts G) (k : Nat) : (S187 k).ok Tryz.prog G 187 := fn_ok (T_ok (fun _ _ => ⟨[10], [0], [], false⟩) k) hG (calls := []) trivial 5 rfl (S187 k) (congrFun e187 k)

/-- strings.Trim -/
def S209 (k : Nat) : CSpec := { params := [.str, .str], res := [(.str, false)], fresh := true, sem := fun x => semTrim x.1 x.2.1 }
theorem ok209 {G : World → Prop} (hG : Lasts G) (k : Nat) : (S209 k).ok Tryz.prog G 209 := ok_Trim Tryz.func209 (by kernel_rfl) (by kernel_rfl) (fun s cs w h1 h2 h3 => Any.strings_Trim_laid Tryz.laysT160 (by kernel_rfl) s cs w h1 h2 h3)

/-- loop.example/g01402/impl.Trim -/
def F200 (k : Nat) (a0 : ByteArray) : Option (ByteArray) :=
  ((semTrim a0 (ByteArray.mk #[32, 9])).bind fun r1 => some r1)
def S200 (k : Nat) : CSpec := { params := [.str], res := [(.str, false)], fresh := true, sem := fun x => F200 k x.1 }
theorem e200 : (fun k => evFn ((T (fun _ _ => ⟨[], [], [], false⟩) k).cx [(209, S209 k)]) 5 Tryz.f200 (S200 0).params (S200 0).res true) = fun k => (S200 k).sem := by kernel_rfl
theorem ok200 {G : World → Prop} (hG : Lasts G) (k : Nat) : (S200 k).ok Tryz.prog G 200 := fn_ok (T_ok (fun _ _ => ⟨[], [], [], false⟩) k) hG (calls := [(209, S209 k)]) ⟨ok209 hG k, trivial⟩ 5 rfl (S200 k) (congrFun e200 k)

/-- loop.example/g01402/impl.IsValueText -/
def F193 (k : Nat) (a0 : ByteArray) : Option (Bool) :=
  (iter (σ := Int × Unit) (fun rec4 x3 => (bif (decide (x3.1 < (a0.size : Int))) then (bif (decide (0 ≤ x3.1 ∧ x3.1 < (a0.size : Int))) then (bif (decide ((bt a0 x3.1) < (32 : Int))) then (bif (decide (0 ≤ x3.1 ∧ x3.1 < (a0.size : Int))) then (bif (!decide ((bt a0 x3.1) = (9 : Int))) then some false else (bif (decide (0 ≤ x3.1 ∧ x3.1 < (a0.size : Int))) then (bif (decide ((bt a0 x3.1) = (127 : Int))) then some false else (rec4 ((wrap64 (x3.1 + (1 : Int))), ()))) else none)) else none) else (bif (decide (0 ≤ x3.1 ∧ x3.1 < (a0.size : Int))) then (bif (decide ((bt a0 x3.1) = (127 : Int))) then some false else (rec4 ((wrap64 (x3.1 + (1 : Int))), ()))) else none)) else none) else ((F200 k a0).bind fun r5 => some (decide (r5 = a0))))) k ((0 : Int), ()))
def S193 (k : Nat) : CSpec := { params := [.str], res := [(.bool, false)], fresh := true, sem := fun x => F193 k x.1 }
theorem e193 : (fun k => evFn ((T (fun _ _ => ⟨[6], [], [], false⟩) k).cx [(200, S200 k)]) 5 Tryz.f193 (S193 0).params (S193 0).res true) = fun k => (S193 k).sem := by kernel_rfl
theorem ok193 {G : World → Prop} (hG : Lasts G) (k : Nat) : (S193 k).ok Tryz.prog G 193 := fn_ok (T_ok (fun _ _ => ⟨[6], [], [], false⟩) k) hG (calls := [(200, S200 k)]) ⟨ok200 hG k, trivial⟩ 5 rfl (S193 k) (congrFun e193 k)

/-- loop.example/g01402/impl.fieldOk -/
def F174 (k : Nat) (a0 : D0) : Option (Bool) :=
  ((F170 k a0.1).bind fun r1 => (bif r1 then (bif (decide ((a0.1.size : Int) ≤ (24 : Int))) then ((F187 k a0.1).bind fun r2 => (bif (decide (r2 = a0.1)) then ((F193 k a0.2).bind fun r3 => (bif r3 then some (decide ((a0.2.size : Int) ≤ (60 : Int))) else some false)) else some false)) else some false) else some false))
def S174 (k : Nat) : CSpec := { params := [U0], res := [(.bool, false)], fresh := true, sem := fun x => F174 k x.1 }
theorem e174 : (fun k => evFn ((T (fun _ _ => ⟨[], [], [], false⟩) k).cx [(170, S170 k), (187, S187 k), (193, S193 k)]) 5 Tryz.f174 (S174 0).params (S174 0).res true) = fun k => (S174 k).sem := by kernel_rfl
theorem ok174 {G : World → Prop} (hG : Lasts G) (k : Nat) : (S174 k).ok Tryz.prog G 174 := fn_ok (T_ok (fun _ _ => ⟨[], [], [], false⟩) k) hG (calls := [(170, S170 k), (187, S187 k), (193, S193 k)]) ⟨ok170 hG k, ok187 hG k, ok193 hG k, trivial⟩ 5 rfl (S174 k) (congrFun e174 k)

/-- loop.example/g01402/impl.FieldsOk$1 -/
def F173 (k : Nat) (a0 : D0) : Option (Bool) :=
  ((F174 k a0).bind fun r1 => some (!r1))
def S173 (k : Nat) : CSpec := { params := [U0], res := [(.bool, false)], fresh := true, sem := fun x => F173 k x.1 }
theorem e173 : (fun k => evFn ((T (fun _ _ => ⟨[], [], [], false⟩) k).cx [(174, S174 k)]) 5 Tryz.f173 (S173 0).params (S173 0).res true) = fun k => (S173 k).sem := by kernel_rfl
theorem ok173 {G : World → Prop} (hG : Lasts G) (k : Nat) : (S173 k).ok Tryz.prog G 173 := fn_ok (T_ok (fun _ _ => ⟨[], [], [], false⟩) k) hG (calls := [(174, S174 k)]) ⟨ok174 hG k, trivial⟩ 5 rfl (S173 k) (congrFun e173 k)

/-- loop.example/g01402/impl.FieldsOk -/
def F148 (k : Nat) (a0 : List D0) : Option (Bool) :=
  (bif (decide ((a0.length : Int) ≤ (12 : Int))) then (iter (σ := Int × Unit) (fun rec5 x4 => (bif (decide (x4.1 < (a0.length : Int))) then (bif (decide (0 ≤ x4.1 ∧ x4.1 < (a0.length : Int))) then ((F173 k (a0.getD x4.1.toNat Z0)).bind fun r6 => (bif r6 then some (!(decide ((0 : Int) ≤ x4.1))) else (rec5 ((wrap64 (x4.1 + (1 : Int))), ())))) else none) else some (!(decide ((0 : Int) ≤ (-1 : Int)))))) k ((0 : Int), ())) else some false)
def S148 (k : Nat) : CSpec := { params := [(.slice U0)], res := [(.bool, false)], fresh := true, sem := fun x => F148 k x.1 }
theorem e148 : (fun k => evFn ((T (fun _ _ => ⟨[8], [], [], false⟩) k).cx [(173, S173 k)]) 5 Tryz.f148 (S148 0).params (S148 0).res true) = fun k => (S148 k).sem := by kernel_rfl
theorem ok148 {G : World → Prop} (hG : Lasts G) (k : Nat) : (S148 k).ok Tryz.prog G 148 := fn_ok (T_ok (fun _ _ => ⟨[8], [], [], false⟩) k) hG (calls := [(173, S173 k)]) ⟨ok173 hG k, trivial⟩ 5 rfl (S148 k) (congrFun e148 k)

/-- strings.Join -/
def S53 (k : Nat) : CSpec := { params := [(.slice .str), .str], res := [(.str, false)], fresh := true, sem := fun x => semJoin x.1 x.2.1 }
theorem ok53 {G : World → Prop} (hG : Lasts G) (k : Nat) : (S53 k).ok Tryz.prog G 53 := ok_Join Tryz.func53 (by kernel_rfl) (by kernel_rfl) Tryz.strings_Join_none Tryz.strings_Join

/-- loop.example/g01402/impl.FieldGet -/
def F162 (k : Nat) (a0 : List D0) (a1 : ByteArray) : Option (ByteArray × Bool) :=
  (iter (σ := Int × List ByteArray × Unit) (fun rec4 x3 => (bif (decide (x3.1 < (a0.length : Int))) then (bif (decide (0 ≤ x3.1 ∧ x3.1 < (a0.length : Int))) then (bif (decide ((a0.getD x3.1.toNat Z0).1 = a1)) then (bif (decide (x3.2.1.length + ([(a0.getD x3.1.toNat Z0).2] : List ByteArray).length < most)) then (rec4 ((wrap64 (x3.1 + (1 : Int))), (x3.2.1 ++ ([(a0.getD x3.1.toNat Z0).2] : List ByteArray)), ())) else none) else (rec4 ((wrap64 (x3.1 + (1 : Int))), x3.2.1, ()))) else none) else ((semJoin x3.2.1 (ByteArray.mk #[44, 32])).bind fun r5 => some (r5, (decide ((0 : Int) < (x3.2.1.length : Int))))))) k ((0 : Int), ([] : List ByteArray), ()))
def S162 (k : Nat) : CSpec := { params := [(.slice U0), .str], res := [(.str, false), (.bool, false)], fresh := true, sem := fun x => F162 k x.1 x.2.1 }
theorem e162 : (fun k => evFn ((T (fun _ _ => ⟨[6, 12], [], [0], false⟩) k).cx [(53, S53 k)]) 5 Tryz.f162 (S162 0).params (S162 0).res true) = fun k => (S162 k).sem := by kernel_rfl
theorem ok162 {G : World → Prop} (hG : Lasts G) (k : Nat) : (S162 k).ok Tryz.prog G 162 := fn_ok (T_ok (fun _ _ => ⟨[6, 12], [], [0], false⟩) k) hG (calls := [(53, S53 k)]) ⟨ok53 hG k, trivial⟩ 5 rfl (S162 k) (congrFun e162 k)

/-- loop.example/g01402/impl.hasField -/
def F134 (k : Nat) (a0 : List D0) (a1 : ByteArray) : Option (Bool) :=
  ((F162 k a0 a1).bind fun r1 => some r1.2)
def S134 (k : Nat) : CSpec := { params := [(.slice U0), .str], res := [(.bool, false)], fresh := true, sem := fun x => F134 k x.1 x.2.1 }
theorem e134 : (fun k => evFn ((T (fun _ _ => ⟨[], [], [], false⟩) k).cx [(162, S162 k)]) 5 Tryz.f134 (S134 0).params (S134 0).res true) = fun k => (S134 k).sem := by kernel_rfl
theorem ok134 {G : World → Prop} (hG : Lasts G) (k : Nat) : (S134 k).ok Tryz.prog G 134 := fn_ok (T_ok (fun _ _ => ⟨[], [], [], false⟩) k) hG (calls := [(162, S162 k)]) ⟨ok162 hG k, trivial⟩ 5 rfl (S134 k) (congrFun e134 k)

/-- loop.example/g01402/impl.bodyFields -/
def F169 (k : Nat) (a0 : List D0) : Option (Bool) :=
  ((F134 k a0 (ByteArray.mk #[99, 111, 110, 116, 101, 110, 116, 45, 108, 101, 110, 103, 116, 104])).bind fun r1 => (bif r1 then some true else ((F134 k a0 (ByteArray.mk #[116, 114, 97, 110, 115, 102, 101, 114, 45, 101, 110, 99, 111, 100, 105, 110, 103])).bind fun r2 => some r2)))
def S169 (k : Nat) : CSpec := { params := [(.slice U0)], res := [(.bool, false)], fresh := true, sem := fun x => F169 k x.1 }
theorem e169 : (fun k => evFn ((T (fun _ _ => ⟨[], [], [], false⟩) k).cx [(134, S134 k)]) 5 Tryz.f169 (S169 0).params (S169 0).res true) = fun k => (S169 k).sem := by kernel_rfl
theorem ok169 {G : World → Prop} (hG : Lasts G) (k : Nat) : (S169 k).ok Tryz.prog G 169 := fn_ok (T_ok (fun _ _ => ⟨[], [], [], false⟩) k) hG (calls := [(134, S134 k)]) ⟨ok134 hG k, trivial⟩ 5 rfl (S169 k) (congrFun e169 k)

/-- loop.example/g01402/impl.ownFields -/
def F142 (k : Nat) (a0 : List D0) : Option (Bool) :=
  ((F148 k a0).bind fun r1 => (bif r1 then (bif (decide ((a0.length : Int) < (12 : Int))) then ((F169 k a0).bind fun r2 => some (!r2)) else some false) else some false))
def S142 (k : Nat) : CSpec := { params := [(.slice U0)], res := [(.bool, false)], fresh := true, sem := fun x => F142 k x.1 }
theorem e142 : (fun k => evFn ((T (fun _ _ => ⟨[], [], [], false⟩) k).cx [(148, S148 k), (169, S169 k)]) 5 Tryz.f142 (S142 0).params (S142 0).res true) = fun k => (S142 k).sem := by kernel_rfl
theorem ok142 {G : World → Prop} (hG : Lasts G) (k : Nat) : (S142 k).ok Tryz.prog G 142 := fn_ok (T_ok (fun _ _ => ⟨[], [], [], false⟩) k) hG (calls := [(148, S148 k), (169, S169 k)]) ⟨ok148 hG k, ok169 hG k, trivial⟩ 5 rfl (S142 k) (congrFun e142 k)

/-- loop.example/g01402/impl.bodiless -/
def F99 (k : Nat) (a0 : Int) : Option (Bool) :=
  (bif (decide (a0 = (204 : Int))) then some true else some (decide (a0 = (304 : Int))))
def S99 (k : Nat) : CSpec := { params := [(.int .i64)], res := [(.bool, false)], fresh := true, sem := fun x => F99 k x.1 }
theorem e99 : (fun k => evFn ((T (fun _ _ => ⟨[], [], [], false⟩) k).cx []) 5 Tryz.f99 (S99 0).params (S99 0).res true) = fun k => (S99 k).sem := by kernel_rfl
theorem ok99 {G : World → Prop} (hG : Lasts G) (k : Nat) : (S99 k).ok Tryz.prog G 99 := fn_ok (T_ok (fun _ _ => ⟨[], [], [], false⟩) k) hG (calls := []) trivial 5 rfl (S99 k) (congrFun e99 k)

/-- loop.example/g01402/impl.ResponseOk -/
def F98 (k : Nat) (a0 : D1) : Option (Bool) :=
  ((F86 k a0.1 (200 : Int) (599 : Int)).bind fun r1 => (bif r1 then ((F142 k a0.2.1).bind fun r2 => (bif r2 then (bif (decide ((a0.2.2.size : Int) ≤ (60 : Int))) then (bif (decide (a0.2.2 = (ByteArray.mk #[]))) then some true else ((F99 k a0.1).bind fun r3 => some (!r3))) else some false) else some false)) else some false))
def S98 (k : Nat) : CSpec := { params := [U1], res := [(.bool, false)], fresh := true, sem := fun x => F98 k x.1 }
theorem e98 : (fun k => evFn ((T (fun _ _ => ⟨[], [], [], false⟩) k).cx [(86, S86 k), (99, S99 k), (142, S142 k)]) 5 Tryz.f98 (S98 0).params (S98 0).res true) = fun k => (S98 k).sem := by kernel_rfl
theorem ok98 {G : World → Prop} (hG : Lasts G) (k : Nat) : (S98 k).ok Tryz.prog G 98 := fn_ok (T_ok (fun _ _ => ⟨[], [], [], false⟩) k) hG (calls := [(86, S86 k), (99, S99 k), (142, S142 k)]) ⟨ok86 hG k, ok99 hG k, ok142 hG k, trivial⟩ 5 rfl (S98 k) (congrFun e98 k)

/-- loop.example/g01402/impl.StoredOk -/
def F41 (k : Nat) (a0 : D2) : Option (Bool) :=
  ((F97 k a0.1).bind fun r1 => (bif r1 then ((F98 k a0.2.2.1).bind fun r2 => (bif r2 then ((F86 k a0.2.2.2.1 (0 : Int) (2000000000 : Int)).bind fun r3 => (bif r3 then ((F86 k a0.2.2.2.2 a0.2.2.2.1 (2000000000 : Int)).bind fun r4 => (bif r4 then some (decide ((a0.2.1.length : Int) ≤ (12 : Int))) else some false)) else some false)) else some false)) else some false))
def S41 (k : Nat) : CSpec := { params := [U2], res := [(.bool, false)], fresh := true, sem := fun x => F41 k x.1 }
theorem e41 : (fun k => evFn ((T (fun _ _ => ⟨[], [], [], false⟩) k).cx [(86, S86 k), (97, S97 k), (98, S98 k)]) 5 Tryz.f41 (S41 0).params (S41 0).res true) = fun k => (S41 k).sem := by kernel_rfl
theorem ok41 {G : World → Prop} (hG : Lasts G) (k : Nat) : (S41 k).ok Tryz.prog G 41 := fn_ok (T_ok (fun _ _ => ⟨[], [], [], false⟩) k) hG (calls := [(86, S86 k), (97, S97 k), (98, S98 k)]) ⟨ok86 hG k, ok97 hG k, ok98 hG k, trivial⟩ 5 rfl (S41 k) (congrFun e41 k)

/-- loop.example/g01402/impl.Var -/
def F43 (k : Nat) (a0 : Int) : Option (ByteArray) :=
  ((F86 k a0 (0 : Int) (562949953421311 : Int)).bind fun r1 => (bif (!r1) then some (ByteArray.mk #[]) else (iter (σ := Int × List Int × Unit) (fun rec5 x4 => (bif (decide ((127 : Int) < x4.1)) then (bif (decide (x4.2.1.length + ([(wr .u8 ((bitsOr .i64 (bitsAnd .i64 x4.1 (127 : Int)) (128 : Int))))] : List Int).length < most)) then (bif (decide (0 ≤ (7 : Int))) then (rec5 ((shiftR .i64 x4.1 (7 : Int)), (x4.2.1 ++ ([(wr .u8 ((bitsOr .i64 (bitsAnd .i64 x4.1 (127 : Int)) (128 : Int))))] : List Int)), ())) else none) else none) else (bif (decide (x4.2.1.length + ([(wr .u8 (x4.1))] : List Int).length < most)) then some (strOf (x4.2.1 ++ ([(wr .u8 (x4.1))] : List Int))) else none))) k (a0, ([] : List Int), ()))))
def S43 (k : Nat) : CSpec := { params := [(.int .i64)], res := [(.str, false)], fresh := true, sem := fun x => F43 k x.1 }
theorem e43 : (fun k => evFn ((T (fun _ _ => ⟨[0, 3], [], [0], false⟩) k).cx [(86, S86 k)]) 5 Tryz.f43 (S43 0).params (S43 0).res true) = fun k => (S43 k).sem := by kernel_rfl
theorem ok43 {G : World → Prop} (hG : Lasts G) (k : Nat) : (S43 k).ok Tryz.prog G 43 := fn_ok (T_ok (fun _ _ => ⟨[0, 3], [], [0], false⟩) k) hG (calls := [(86, S86 k)]) ⟨ok86 hG k, trivial⟩ 5 rfl (S43 k) (congrFun e43 k)

/-- loop.example/g01402/impl.sized -/
def F42 (k : Nat) (a0 : ByteArray) : Option (ByteArray) :=
  ((F43 k (a0.size : Int)).bind fun r1 => (bif (decide (r1.size + a0.size < mostText)) then some (r1 ++ a0) else none))
def S42 (k : Nat) : CSpec := { params := [.str], res := [(.str, false)], fresh := true, sem := fun x => F42 k x.1 }
theorem e42 : (fun k => evFn ((T (fun _ _ => ⟨[], [], [], false⟩) k).cx [(43, S43 k)]) 5 Tryz.f42 (S42 0).params (S42 0).res true) = fun k => (S42 k).sem := by kernel_rfl
theorem ok42 {G : World → Prop} (hG : Lasts G) (k : Nat) : (S42 k).ok Tryz.prog G 42 := fn_ok (T_ok (fun _ _ => ⟨[], [], [], false⟩) k) hG (calls := [(43, S43 k)]) ⟨ok43 hG k, trivial⟩ 5 rfl (S42 k) (congrFun e42 k)

/-- slices.Clone[[]loop.example/g01402/impl.Field,loop.example/g01402/impl.Field] -/
def S147 (k : Nat) : CSpec := { params := [.slice U0], res := [(.slice U0, true)], fresh := true, sem := fun x => semClone x.1 }
theorem ok147 {G : World → Prop} (hG : Lasts G) (k : Nat) : (S147 k).ok Tryz.prog G 147 := ok_Clone Tryz.lClone147 Tryz.func147 (by kernel_rfl) (by kernel_rfl) (by kernel_rfl)

/-- strconv.Itoa -/
def S113 (k : Nat) : CSpec := { params := [(.int .i64)], res := [(.str, false)], fresh := true, sem := fun x => semItoa x.1 }
theorem ok113 {G : World → Prop} (hG : GoodW Tryz.prog G) (k : Nat) : (S113 k).ok Tryz.prog G 113 := ok_Itoa Tryz.func113 (by kernel_rfl) (by kernel_rfl) hG Tryz.strconv_Itoa

/-- loop.example/g01402/impl.Dec -/
def F52 (k : Nat) (a0 : Int) : Option (ByteArray) :=
  ((semItoa a0).bind fun r1 => some r1)
def S52 (k : Nat) : CSpec := { params := [(.int .i64)], res := [(.str, false)], fresh := true, sem := fun x => F52 k x.1 }
theorem e52 : (fun k => evFn ((T (fun _ _ => ⟨[], [], [], false⟩) k).cx [(113, S113 k)]) 5 Tryz.f52 (S52 0).params (S52 0).res true) = fun k => (S52 k).sem := by kernel_rfl
theorem ok52 {G : World → Prop} (hG : GoodW Tryz.prog G) (k : Nat) : (S52 k).ok Tryz.prog G 52 := fn_ok (T_ok (fun _ _ => ⟨[], [], [], false⟩) k) hG.lasts (calls := [(113, S113 k)]) ⟨ok113 hG k, trivial⟩ 5 rfl (S52 k) (congrFun e52 k)

/-- loop.example/g01402/impl.withLength -/
def F100 (k : Nat) (a0 : List D0) (a1 : ByteArray) : Option ((List D0)) :=
  ((semClone a0).bind fun r1 => ((F52 k (a1.size : Int)).bind fun r2 => (bif (decide (r1.length + ([((ByteArray.mk #[99, 111, 110, 116, 101, 110, 116, 45, 108, 101, 110, 103, 116, 104]), r2)] : List D0).length < most)) then some (r1 ++ ([((ByteArray.mk #[99, 111, 110, 116, 101, 110, 116, 45, 108, 101, 110, 103, 116, 104]), r2)] : List D0)) else none)))
def S100 (k : Nat) : CSpec := { params := [(.slice U0), .str], res := [((.slice U0), true)], fresh := true, sem := fun x => F100 k x.1 x.2.1 }
theorem e100 : (fun k => evFn ((T (fun _ _ => ⟨[], [], [], false⟩) k).cx [(52, S52 k), (147, S147 k)]) 5 Tryz.f100 (S100 0).params (S100 0).res true) = fun k => (S100 k).sem := by kernel_rfl
theorem ok100 {G : World → Prop} (hG : GoodW Tryz.prog G) (k : Nat) : (S100 k).ok Tryz.prog G 100 := fn_ok (T_ok (fun _ _ => ⟨[], [], [], false⟩) k) hG.lasts (calls := [(52, S52 k), (147, S147 k)]) ⟨ok52 hG k, ok147 hG.lasts k, trivial⟩ 5 rfl (S100 k) (congrFun e100 k)

/-- loop.example/g01402/impl.Reason -/
def F101 (k : Nat) (a0 : Int) : Option (ByteArray) :=
  (bif (decide (a0 = (200 : Int))) then some (ByteArray.mk #[79, 75]) else (bif (decide (a0 = (203 : Int))) then some (ByteArray.mk #[78, 111, 110, 45, 65, 117, 116, 104, 111, 114, 105, 116, 97, 116, 105, 118, 101, 32, 73, 110, 102, 111, 114, 109, 97, 116, 105, 111, 110]) else (bif (decide (a0 = (204 : Int))) then some (ByteArray.mk #[78, 111, 32, 67, 111, 110, 116, 101, 110, 116]) else (bif (decide (a0 = (300 : Int))) then some (ByteArray.mk #[77, 117, 108, 116, 105, 112, 108, 101, 32, 67, 104, 111, 105, 99, 101, 115]) else (bif (decide (a0 = (301 : Int))) then some (ByteArray.mk #[77, 111, 118, 101, 100, 32, 80, 101, 114, 109, 97, 110, 101, 110, 116, 108, 121]) else (bif (decide (a0 = (304 : Int))) then some (ByteArray.mk #[78, 111, 116, 32, 77, 111, 100, 105, 102, 105, 101, 100]) else (bif (decide (a0 = (400 : Int))) then some (ByteArray.mk #[66, 97, 100, 32, 82, 101, 113, 117, 101, 115, 116]) else (bif (decide (a0 = (404 : Int))) then some (ByteArray.mk #[78, 111, 116, 32, 70, 111, 117, 110, 100]) else (bif (decide (a0 = (410 : Int))) then some (ByteArray.mk #[71, 111, 110, 101]) else (bif (decide (a0 = (502 : Int))) then some (ByteArray.mk #[66, 97, 100, 32, 71, 97, 116, 101, 119, 97, 121]) else (bif (decide (a0 = (504 : Int))) then some (ByteArray.mk #[71, 97, 116, 101, 119, 97, 121, 32, 84, 105, 109, 101, 111, 117, 116]) else some (ByteArray.mk #[83, 116, 97, 116, 117, 115]))))))))))))
def S101 (k : Nat) : CSpec := { params := [(.int .i64)], res := [(.str, false)], fresh := true, sem := fun x => F101 k x.1 }
theorem e101 : (fun k => evFn ((T (fun _ _ => ⟨[], [], [], false⟩) k).cx []) 5 Tryz.f101 (S101 0).params (S101 0).res true) = fun k => (S101 k).sem := by kernel_rfl
theorem ok101 {G : World → Prop} (hG : Lasts G) (k : Nat) : (S101 k).ok Tryz.prog G 101 := fn_ok (T_ok (fun _ _ => ⟨[], [], [], false⟩) k) hG (calls := []) trivial 5 rfl (S101 k) (congrFun e101 k)

/-- loop.example/g01402/impl.ShowFields -/
def F102 (k : Nat) (a0 : List D0) : Option (ByteArray) :=
  ((F148 k a0).bind fun r1 => (bif (!r1) then some (ByteArray.mk #[]) else (iter (σ := ByteArray × Int × Unit) (fun rec5 x4 => (bif (decide (x4.2.1 < (a0.length : Int))) then (bif (decide (0 ≤ x4.2.1 ∧ x4.2.1 < (a0.length : Int))) then (bif (decide ((a0.getD x4.2.1.toNat Z0).1.size + (ByteArray.mk #[58, 32]).size < mostText)) then (bif (decide (((a0.getD x4.2.1.toNat Z0).1 ++ (ByteArray.mk #[58, 32])).size + (a0.getD x4.2.1.toNat Z0).2.size < mostText)) then (bif (decide ((((a0.getD x4.2.1.toNat Z0).1 ++ (ByteArray.mk #[58, 32])) ++ (a0.getD x4.2.1.toNat Z0).2).size + (ByteArray.mk #[13, 10]).size < mostText)) then (bif (decide (x4.1.size + ((((a0.getD x4.2.1.toNat Z0).1 ++ (ByteArray.mk #[58, 32])) ++ (a0.getD x4.2.1.toNat Z0).2) ++ (ByteArray.mk #[13, 10])).size < mostText)) then (rec5 ((x4.1 ++ ((((a0.getD x4.2.1.toNat Z0).1 ++ (ByteArray.mk #[58, 32])) ++ (a0.getD x4.2.1.toNat Z0).2) ++ (ByteArray.mk #[13, 10]))), (wrap64 (x4.2.1 + (1 : Int))), ())) else none) else none) else none) else none) else none) else (bif (decide (x4.1.size + (ByteArray.mk #[13, 10]).size < mostText)) then some (x4.1 ++ (ByteArray.mk #[13, 10])) else none))) k ((ByteArray.mk #[]), (0 : Int), ()))))
def S102 (k : Nat) : CSpec := { params := [(.slice U0)], res := [(.str, false)], fresh := true, sem := fun x => F102 k x.1 }
theorem e102 : (fun k => evFn ((T (fun _ _ => ⟨[3, 11], [], [], false⟩) k).cx [(148, S148 k)]) 5 Tryz.f102 (S102 0).params (S102 0).res true) = fun k => (S102 k).sem := by kernel_rfl
theorem ok102 {G : World → Prop} (hG : Lasts G) (k : Nat) : (S102 k).ok Tryz.prog G 102 := fn_ok (T_ok (fun _ _ => ⟨[3, 11], [], [], false⟩) k) hG (calls := [(148, S148 k)]) ⟨ok148 hG k, trivial⟩ 5 rfl (S102 k) (congrFun e102 k)

/-- loop.example/g01402/impl.ShowResponse -/
def F44 (k : Nat) (a0 : D1) : Option (ByteArray) :=
  ((F98 k a0).bind fun r1 => (bif (!r1) then some (ByteArray.mk #[]) else ((F99 k a0.1).bind fun r2 => (bif (!r2) then ((F100 k a0.2.1 a0.2.2).bind fun r3 => ((F52 k a0.1).bind fun r4 => (bif (decide ((ByteArray.mk #[72, 84, 84, 80, 47, 49, 46, 49, 32]).size + r4.size < mostText)) then (bif (decide (((ByteArray.mk #[72, 84, 84, 80, 47, 49, 46, 49, 32]) ++ r4).size + (ByteArray.mk #[32]).size < mostText)) then ((F101 k a0.1).bind fun r5 => (bif (decide ((((ByteArray.mk #[72, 84, 84, 80, 47, 49, 46, 49, 32]) ++ r4) ++ (ByteArray.mk #[32])).size + r5.size < mostText)) then (bif (decide (((((ByteArray.mk #[72, 84, 84, 80, 47, 49, 46, 49, 32]) ++ r4) ++ (ByteArray.mk #[32])) ++ r5).size + (ByteArray.mk #[13, 10]).size < mostText)) then ((F102 k r3).bind fun r6 => (bif (decide ((((((ByteArray.mk #[72, 84, 84, 80, 47, 49, 46, 49, 32]) ++ r4) ++ (ByteArray.mk #[32])) ++ r5) ++ (ByteArray.mk #[13, 10])).size + r6.size < mostText)) then (bif (decide (((((((ByteArray.mk #[72, 84, 84, 80, 47, 49, 46, 49, 32]) ++ r4) ++ (ByteArray.mk #[32])) ++ r5) ++ (ByteArray.mk #[13, 10])) ++ r6).size + a0.2.2.size < mostText)) then some (((((((ByteArray.mk #[72, 84, 84, 80, 47, 49, 46, 49, 32]) ++ r4) ++ (ByteArray.mk #[32])) ++ r5) ++ (ByteArray.mk #[13, 10])) ++ r6) ++ a0.2.2) else none) else none)) else none) else none)) else none) else none))) else ((F52 k a0.1).bind fun r7 => (bif (decide ((ByteArray.mk #[72, 84, 84, 80, 47, 49, 46, 49, 32]).size + r7.size < mostText)) then (bif (decide (((ByteArray.mk #[72, 84, 84, 80, 47, 49, 46, 49, 32]) ++ r7).size + (ByteArray.mk #[32]).size < mostText)) then ((F101 k a0.1).bind fun r8 => (bif (decide ((((ByteArray.mk #[72, 84, 84, 80, 47, 49, 46, 49, 32]) ++ r7) ++ (ByteArray.mk #[32])).size + r8.size < mostText)) then (bif (decide (((((ByteArray.mk #[72, 84, 84, 80, 47, 49, 46, 49, 32]) ++ r7) ++ (ByteArray.mk #[32])) ++ r8).size + (ByteArray.mk #[13, 10]).size < mostText)) then ((F102 k a0.2.1).bind fun r9 => (bif (decide ((((((ByteArray.mk #[72, 84, 84, 80, 47, 49, 46, 49, 32]) ++ r7) ++ (ByteArray.mk #[32])) ++ r8) ++ (ByteArray.mk #[13, 10])).size + r9.size < mostText)) then (bif (decide (((((((ByteArray.mk #[72, 84, 84, 80, 47, 49, 46, 49, 32]) ++ r7) ++ (ByteArray.mk #[32])) ++ r8) ++ (ByteArray.mk #[13, 10])) ++ r9).size + a0.2.2.size < mostText)) then some (((((((ByteArray.mk #[72, 84, 84, 80, 47, 49, 46, 49, 32]) ++ r7) ++ (ByteArray.mk #[32])) ++ r8) ++ (ByteArray.mk #[13, 10])) ++ r9) ++ a0.2.2) else none) else none)) else none) else none)) else none) else none))))))
def S44 (k : Nat) : CSpec := { params := [U1], res := [(.str, false)], fresh := true, sem := fun x => F44 k x.1 }
theorem e44 : (fun k => evFn ((T (fun _ _ => ⟨[], [], [], false⟩) k).cx [(52, S52 k), (98, S98 k), (99, S99 k), (100, S100 k), (101, S101 k), (102, S102 k)]) 5 Tryz.f44 (S44 0).params (S44 0).res true) = fun k => (S44 k).sem := by kernel_rfl
theorem ok44 {G : World → Prop} (hG : GoodW Tryz.prog G) (k : Nat) : (S44 k).ok Tryz.prog G 44 := fn_ok (T_ok (fun _ _ => ⟨[], [], [], false⟩) k) hG.lasts (calls := [(52, S52 k), (98, S98 k), (99, S99 k), (100, S100 k), (101, S101 k), (102, S102 k)]) ⟨ok52 hG k, ok98 hG.lasts k, ok99 hG.lasts k, ok100 hG k, ok101 hG.lasts k, ok102 hG.lasts k, trivial⟩ 5 rfl (S44 k) (congrFun e44 k)

/-- loop.example/g01402/impl.ShowStored -/
def F11 (k : Nat) (a0 : D2) : Option (ByteArray) :=
  ((F41 k a0).bind fun r1 => (bif (!r1) then some (ByteArray.mk #[]) else ((F42 k a0.1).bind fun r2 => ((F43 k (a0.2.1.length : Int)).bind fun r3 => (bif (decide (r2.size + r3.size < mostText)) then (iter (σ := ByteArray × Int × Unit) (fun rec9 x8 => (bif (decide (x8.2.1 < (a0.2.1.length : Int))) then (bif (decide (0 ≤ x8.2.1 ∧ x8.2.1 < (a0.2.1.length : Int))) then ((F42 k (a0.2.1.getD x8.2.1.toNat Z0).1).bind fun r10 => ((F42 k (a0.2.1.getD x8.2.1.toNat Z0).2).bind fun r11 => (bif (decide (r10.size + r11.size < mostText)) then (bif (decide (x8.1.size + (r10 ++ r11).size < mostText)) then (rec9 ((x8.1 ++ (r10 ++ r11)), (wrap64 (x8.2.1 + (1 : Int))), ())) else none) else none))) else none) else ((F44 k a0.2.2.1).bind fun r12 => ((F42 k r12).bind fun r13 => (bif (decide (x8.1.size + r13.size < mostText)) then ((F43 k a0.2.2.2.1).bind fun r14 => (bif (decide ((x8.1 ++ r13).size + r14.size < mostText)) then ((F43 k a0.2.2.2.2).bind fun r15 => (bif (decide (((x8.1 ++ r13) ++ r14).size + r15.size < mostText)) then some (((x8.1 ++ r13) ++ r14) ++ r15) else none)) else none)) else none))))) k ((r2 ++ r3), (0 : Int), ())) else none)))))
def S11 (k : Nat) : CSpec := { params := [U2], res := [(.str, false)], fresh := true, sem := fun x => F11 k x.1 }
theorem e11 : (fun k => evFn ((T (fun _ _ => ⟨[3, 20], [], [], false⟩) k).cx [(41, S41 k), (42, S42 k), (43, S43 k), (44, S44 k)]) 5 Tryz.f11 (S11 0).params (S11 0).res true) = fun k => (S11 k).sem := by kernel_rfl
theorem ok11 {G : World → Prop} (hG : GoodW Tryz.prog G) (k : Nat) : (S11 k).ok Tryz.prog G 11 := fn_ok (T_ok (fun _ _ => ⟨[3, 20], [], [], false⟩) k) hG.lasts (calls := [(41, S41 k), (42, S42 k), (43, S43 k), (44, S44 k)]) ⟨ok41 hG.lasts k, ok42 hG.lasts k, ok43 hG.lasts k, ok44 hG k, trivial⟩ 5 rfl (S11 k) (congrFun e11 k)

/-- loop.example/g01402/laws.eqField -/
def F103 (k : Nat) (a0 : D0) (a1 : D0) : Option (Bool) :=
  (bif (!decide (a0.1 = a1.1)) then some false else (bif (!decide (a0.2 = a1.2)) then some false else some true))
def S103 (k : Nat) : CSpec := { params := [U0, U0], res := [(.bool, false)], fresh := true, sem := fun x => F103 k x.1 x.2.1 }
theorem e103 : (fun k => evFn ((T (fun _ _ => ⟨[], [], [], false⟩) k).cx []) 5 Tryz.f103 (S103 0).params (S103 0).res true) = fun k => (S103 k).sem := by kernel_rfl
theorem ok103 {G : World → Prop} (hG : Lasts G) (k : Nat) : (S103 k).ok Tryz.prog G 103 := fn_ok (T_ok (fun _ _ => ⟨[], [], [], false⟩) k) hG (calls := []) trivial 5 rfl (S103 k) (congrFun e103 k)

/-- loop.example/g01402/laws.eqFieldS -/
def F45 (k : Nat) (a0 : List D0) (a1 : List D0) : Option (Bool) :=
  (bif (!decide ((a0.length : Int) = (a1.length : Int))) then some false else (iter (σ := Int × Unit) (fun rec5 x4 => (bif (decide (x4.1 < (a0.length : Int))) then (bif (decide (0 ≤ x4.1 ∧ x4.1 < (a0.length : Int))) then (bif (decide (0 ≤ x4.1 ∧ x4.1 < (a1.length : Int))) then ((F103 k (a0.getD x4.1.toNat Z0) (a1.getD x4.1.toNat Z0)).bind fun r6 => (bif (!r6) then some false else (rec5 ((wrap64 (x4.1 + (1 : Int))), ())))) else none) else none) else some true)) k ((0 : Int), ())))
def S45 (k : Nat) : CSpec := { params := [(.slice U0), (.slice U0)], res := [(.bool, false)], fresh := true, sem := fun x => F45 k x.1 x.2.1 }
theorem e45 : (fun k => evFn ((T (fun _ _ => ⟨[5], [], [], false⟩) k).cx [(103, S103 k)]) 5 Tryz.f45 (S45 0).params (S45 0).res true) = fun k => (S45 k).sem := by kernel_rfl
theorem ok45 {G : World → Prop} (hG : Lasts G) (k : Nat) : (S45 k).ok Tryz.prog G 45 := fn_ok (T_ok (fun _ _ => ⟨[5], [], [], false⟩) k) hG (calls := [(103, S103 k)]) ⟨ok103 hG k, trivial⟩ 5 rfl (S45 k) (congrFun e45 k)

/-- loop.example/g01402/laws.eqResponse -/
def F46 (k : Nat) (a0 : D1) (a1 : D1) : Option (Bool) :=
  (bif (!decide (a0.1 = a1.1)) then some false else ((F45 k a0.2.1 a1.2.1).bind fun r1 => (bif (!r1) then some false else (bif (!decide (a0.2.2 = a1.2.2)) then some false else some true))))
def S46 (k : Nat) : CSpec := { params := [U1, U1], res := [(.bool, false)], fresh := true, sem := fun x => F46 k x.1 x.2.1 }
theorem e46 : (fun k => evFn ((T (fun _ _ => ⟨[], [], [], false⟩) k).cx [(45, S45 k)]) 5 Tryz.f46 (S46 0).params (S46 0).res true) = fun k => (S46 k).sem := by kernel_rfl
theorem ok46 {G : World → Prop} (hG : Lasts G) (k : Nat) : (S46 k).ok Tryz.prog G 46 := fn_ok (T_ok (fun _ _ => ⟨[], [], [], false⟩) k) hG (calls := [(45, S45 k)]) ⟨ok45 hG k, trivial⟩ 5 rfl (S46 k) (congrFun e46 k)

/-- loop.example/g01402/laws.eqStored -/
def F12 (k : Nat) (a0 : D2) (a1 : D2) : Option (Bool) :=
  (bif (!decide (a0.1 = a1.1)) then some false else ((F45 k a0.2.1 a1.2.1).bind fun r1 => (bif (!r1) then some false else ((F46 k a0.2.2.1 a1.2.2.1).bind fun r2 => (bif (!r2) then some false else (bif (!decide (a0.2.2.2.1 = a1.2.2.2.1)) then some false else (bif (!decide (a0.2.2.2.2 = a1.2.2.2.2)) then some false else some true)))))))
def S12 (k : Nat) : CSpec := { params := [U2, U2], res := [(.bool, false)], fresh := true, sem := fun x => F12 k x.1 x.2.1 }
theorem e12 : (fun k => evFn ((T (fun _ _ => ⟨[], [], [], false⟩) k).cx [(45, S45 k), (46, S46 k)]) 5 Tryz.f12 (S12 0).params (S12 0).res true) = fun k => (S12 k).sem := by kernel_rfl
theorem ok12 {G : World → Prop} (hG : Lasts G) (k : Nat) : (S12 k).ok Tryz.prog G 12 := fn_ok (T_ok (fun _ _ => ⟨[], [], [], false⟩) k) hG (calls := [(45, S45 k), (46, S46 k)]) ⟨ok45 hG k, ok46 hG k, trivial⟩ 5 rfl (S12 k) (congrFun e12 k)

/-- loop.example/g01402/laws.FnExactShowStored -/
def F3 (k : Nat) (a0 : D2) : Option (Bool) :=
  ((F8 k a0 (1048576 : Int)).bind fun r1 => (bif (decide (r1 < (0 : Int))) then some true else ((F10 k a0).bind fun r2 => ((F9 k r2).bind fun r3 => ((F10 k a0).bind fun r4 => ((F11 k r4).bind fun r5 => (bif (!decide (r5 = r3)) then some false else ((F10 k a0).bind fun r6 => ((F12 k r4 r6).bind fun r7 => (bif (!r7) then some false else some true))))))))))
def S3 (k : Nat) : CSpec := { params := [U2], res := [(.bool, false)], fresh := true, sem := fun x => F3 k x.1 }
theorem e3 : (fun k => evFn ((T (fun _ _ => ⟨[], [], [], false⟩) k).cx [(8, S8 k), (9, S9 k), (10, S10 k), (11, S11 k), (12, S12 k)]) 5 Tryz.f3 (S3 0).params (S3 0).res true) = fun k => (S3 k).sem := by kernel_rfl
theorem ok3 {G : World → Prop} (hG : GoodW Tryz.prog G) (k : Nat) : (S3 k).ok Tryz.prog G 3 := fn_ok (T_ok (fun _ _ => ⟨[], [], [], false⟩) k) hG.lasts (calls := [(8, S8 k), (9, S9 k), (10, S10 k), (11, S11 k), (12, S12 k)]) ⟨ok8 hG.lasts k, ok9 hG.lasts k, ok10 hG.lasts k, ok11 hG k, ok12 hG.lasts k, trivial⟩ 5 rfl (S3 k) (congrFun e3 k)

/-- loop.example/g01402/laws.szSlot -/
def F104 (k : Nat) (a0 : D3) (a1 : Int) : Option (Int) :=
  ((F8 k a0.1 a1).bind fun r1 => (bif (decide (r1 < (0 : Int))) then some (-1 : Int) else some r1))
def S104 (k : Nat) : CSpec := { params := [U3, (.int .i64)], res := [((.int .i64), false)], fresh := true, sem := fun x => F104 k x.1 x.2.1 }
theorem e104 : (fun k => evFn ((T (fun _ _ => ⟨[], [], [], false⟩) k).cx [(8, S8 k)]) 5 Tryz.f104 (S104 0).params (S104 0).res true) = fun k => (S104 k).sem := by kernel_rfl
theorem ok104 {G : World → Prop} (hG : Lasts G) (k : Nat) : (S104 k).ok Tryz.prog G 104 := fn_ok (T_ok (fun _ _ => ⟨[], [], [], false⟩) k) hG (calls := [(8, S8 k)]) ⟨ok8 hG k, trivial⟩ 5 rfl (S104 k) (congrFun e104 k)

/-- loop.example/g01402/laws.szSlotS -/
def F47 (k : Nat) (a0 : List D3) (a1 : Int) : Option (Int) :=
  (bif (decide ((wrap64 (a1 - (a0.length : Int))) < (0 : Int))) then some (-1 : Int) else (iter (σ := Int × Int × Unit) (fun rec5 x4 => (bif (decide (x4.2.1 < (a0.length : Int))) then (bif (decide (0 ≤ x4.2.1 ∧ x4.2.1 < (a0.length : Int))) then ((F104 k (a0.getD x4.2.1.toNat Z3) x4.1).bind fun r6 => (bif (decide (r6 < (0 : Int))) then some (-1 : Int) else (rec5 (r6, (wrap64 (x4.2.1 + (1 : Int))), ())))) else none) else some x4.1)) k ((wrap64 (a1 - (a0.length : Int))), (0 : Int), ())))
def S47 (k : Nat) : CSpec := { params := [(.slice U3), (.int .i64)], res := [((.int .i64), false)], fresh := true, sem := fun x => F47 k x.1 x.2.1 }
theorem e47 : (fun k => evFn ((T (fun _ _ => ⟨[1, 5], [], [], false⟩) k).cx [(104, S104 k)]) 5 Tryz.f47 (S47 0).params (S47 0).res true) = fun k => (S47 k).sem := by kernel_rfl
theorem ok47 {G : World → Prop} (hG : Lasts G) (k : Nat) : (S47 k).ok Tryz.prog G 47 := fn_ok (T_ok (fun _ _ => ⟨[1, 5], [], [], false⟩) k) hG (calls := [(104, S104 k)]) ⟨ok104 hG k, trivial⟩ 5 rfl (S47 k) (congrFun e47 k)

/-- loop.example/g01402/laws.szShard -/
def F13 (k : Nat) (a0 : D4) (a1 : Int) : Option (Int) :=
  ((F47 k a0.2.2.1 a1).bind fun r1 => (bif (decide (r1 < (0 : Int))) then some (-1 : Int) else some r1))
def S13 (k : Nat) : CSpec := { params := [U4, (.int .i64)], res := [((.int .i64), false)], fresh := true, sem := fun x => F13 k x.1 x.2.1 }
theorem e13 : (fun k => evFn ((T (fun _ _ => ⟨[], [], [], false⟩) k).cx [(47, S47 k)]) 5 Tryz.f13 (S13 0).params (S13 0).res true) = fun k => (S13 k).sem := by kernel_rfl
theorem ok13 {G : World → Prop} (hG : Lasts G) (k : Nat) : (S13 k).ok Tryz.prog G 13 := fn_ok (T_ok (fun _ _ => ⟨[], [], [], false⟩) k) hG (calls := [(47, S47 k)]) ⟨ok47 hG k, trivial⟩ 5 rfl (S13 k) (congrFun e13 k)

/-- loop.example/g01402/laws.toSlot -/
def F107 (k : Nat) (a0 : D3) : Option (D3) :=
  ((F10 k a0.1).bind fun r1 => some (r1, a0.2))
def S107 (k : Nat) : CSpec := { params := [U3], res := [(U3, false)], fresh := true, sem := fun x => F107 k x.1 }
theorem e107 : (fun k => evFn ((T (fun _ _ => ⟨[], [], [], false⟩) k).cx [(10, S10 k)]) 5 Tryz.f107 (S107 0).params (S107 0).res true) = fun k => (S107 k).sem := by kernel_rfl
theorem ok107 {G : World → Prop} (hG : Lasts G) (k : Nat) : (S107 k).ok Tryz.prog G 107 := fn_ok (T_ok (fun _ _ => ⟨[], [], [], false⟩) k) hG (calls := [(10, S10 k)]) ⟨ok10 hG k, trivial⟩ 5 rfl (S107 k) (congrFun e107 k)

/-- loop.example/g01402/laws.toSlotS -/
def F50 (k : Nat) (a0 : List D3) : Option ((List D3)) :=
  (bif (decide (0 ≤ (a0.length : Int) ∧ (a0.length : Int) = (a0.length : Int) ∧ (a0.length : Int) < (most : Int))) then (iter (σ := Int × List D3 × Unit) (fun rec5 x4 => (bif (decide (x4.1 < (a0.length : Int))) then (bif (decide (0 ≤ x4.1 ∧ x4.1 < (a0.length : Int))) then ((F107 k (a0.getD x4.1.toNat Z3)).bind fun r6 => (bif (decide (0 ≤ x4.1 ∧ x4.1 < (x4.2.1.length : Int))) then (rec5 ((wrap64 (x4.1 + (1 : Int))), (x4.2.1.set x4.1.toNat r6), ())) else none)) else none) else some x4.2.1)) k ((0 : Int), (List.replicate (a0.length : Int).toNat Z3), ())) else none)
def S50 (k : Nat) : CSpec := { params := [(.slice U3)], res := [((.slice U3), true)], fresh := true, sem := fun x => F50 k x.1 }
theorem e50 : (fun k => evFn ((T (fun _ _ => ⟨[4], [1], [], false⟩) k).cx [(107, S107 k)]) 5 Tryz.f50 (S50 0).params (S50 0).res true) = fun k => (S50 k).sem := by kernel_rfl
theorem ok50 {G : World → Prop} (hG : Lasts G) (k : Nat) : (S50 k).ok Tryz.prog G 50 := fn_ok (T_ok (fun _ _ => ⟨[4], [1], [], false⟩) k) hG (calls := [(107, S107 k)]) ⟨ok107 hG k, trivial⟩ 5 rfl (S50 k) (congrFun e50 k)

/-- loop.example/g01402/laws.toShard -/
def F15 (k : Nat) (a0 : D4) : Option (D4) :=
  ((F50 k a0.2.2.1).bind fun r1 => some (a0.1, a0.2.1, r1, a0.2.2.2))
def S15 (k : Nat) : CSpec := { params := [U4], res := [(U4, false)], fresh := true, sem := fun x => F15 k x.1 }
theorem e15 : (fun k => evFn ((T (fun _ _ => ⟨[], [], [], false⟩) k).cx [(50, S50 k)]) 5 Tryz.f15 (S15 0).params (S15 0).res true) = fun k => (S15 k).sem := by kernel_rfl
theorem ok15 {G : World → Prop} (hG : Lasts G) (k : Nat) : (S15 k).ok Tryz.prog G 15 := fn_ok (T_ok (fun _ _ => ⟨[], [], [], false⟩) k) hG (calls := [(50, S50 k)]) ⟨ok50 hG k, trivial⟩ 5 rfl (S15 k) (congrFun e15 k)

/-- loop.example/g01402/spec.l12Filled -/
def F105 (k : Nat) (a0 : D4) : Option (Int) :=
  (iter (σ := Int × Int × Unit) (fun rec4 x3 => (bif (decide (x3.2.1 < (a0.2.2.1.length : Int))) then (bif (decide (0 ≤ x3.2.1 ∧ x3.2.1 < (a0.2.2.1.length : Int))) then (rec4 ((wrap64 (x3.1 + ((a0.2.2.1.getD x3.2.1.toNat Z3).1.2.2.1.2.2.size : Int))), (wrap64 (x3.2.1 + (1 : Int))), ())) else none) else some x3.1)) k ((0 : Int), (0 : Int), ()))
def S105 (k : Nat) : CSpec := { params := [U4], res := [((.int .i64), false)], fresh := true, sem := fun x => F105 k x.1 }
theorem e105 : (fun k => evFn ((T (fun _ _ => ⟨[3, 4], [], [], false⟩) k).cx []) 5 Tryz.f105 (S105 0).params (S105 0).res true) = fun k => (S105 k).sem := by kernel_rfl
theorem ok105 {G : World → Prop} (hG : Lasts G) (k : Nat) : (S105 k).ok Tryz.prog G 105 := fn_ok (T_ok (fun _ _ => ⟨[3, 4], [], [], false⟩) k) hG (calls := []) trivial 5 rfl (S105 k) (congrFun e105 k)

/-- loop.example/g01402/spec.SameFields -/
def F149 (k : Nat) (a0 : List D0) (a1 : List D0) : Option (Bool) :=
  (bif (!decide ((a0.length : Int) = (a1.length : Int))) then some false else (iter (σ := Int × Unit) (fun rec4 x3 => (bif (decide (x3.1 < (a0.length : Int))) then (bif (decide (0 ≤ x3.1 ∧ x3.1 < (a0.length : Int))) then (bif (decide (0 ≤ x3.1 ∧ x3.1 < (a1.length : Int))) then (bif (!((decide ((a0.getD x3.1.toNat Z0).1 = (a1.getD x3.1.toNat Z0).1)) && (decide ((a0.getD x3.1.toNat Z0).2 = (a1.getD x3.1.toNat Z0).2)))) then some false else (rec4 ((wrap64 (x3.1 + (1 : Int))), ()))) else none) else none) else some true)) k ((0 : Int), ())))
def S149 (k : Nat) : CSpec := { params := [(.slice U0), (.slice U0)], res := [(.bool, false)], fresh := true, sem := fun x => F149 k x.1 x.2.1 }
theorem e149 : (fun k => evFn ((T (fun _ _ => ⟨[5], [], [], false⟩) k).cx []) 5 Tryz.f149 (S149 0).params (S149 0).res true) = fun k => (S149 k).sem := by kernel_rfl
theorem ok149 {G : World → Prop} (hG : Lasts G) (k : Nat) : (S149 k).ok Tryz.prog G 149 := fn_ok (T_ok (fun _ _ => ⟨[5], [], [], false⟩) k) hG (calls := []) trivial 5 rfl (S149 k) (congrFun e149 k)

/-- loop.example/g01402/spec.l12Same -/
def F106 (k : Nat) (a0 : D2) (a1 : D2) : Option (Bool) :=
  (bif (decide (a0.1 = a1.1)) then ((F149 k a0.2.1 a1.2.1).bind fun r1 => some r1) else some false)
def S106 (k : Nat) : CSpec := { params := [U2, U2], res := [(.bool, false)], fresh := true, sem := fun x => F106 k x.1 x.2.1 }
theorem e106 : (fun k => evFn ((T (fun _ _ => ⟨[], [], [], false⟩) k).cx [(149, S149 k)]) 5 Tryz.f106 (S106 0).params (S106 0).res true) = fun k => (S106 k).sem := by kernel_rfl
theorem ok106 {G : World → Prop} (hG : Lasts G) (k : Nat) : (S106 k).ok Tryz.prog G 106 := fn_ok (T_ok (fun _ _ => ⟨[], [], [], false⟩) k) hG (calls := [(149, S149 k)]) ⟨ok149 hG k, trivial⟩ 5 rfl (S106 k) (congrFun e106 k)

/-- loop.example/g01402/spec.ShardOk -/
def F48 (k : Nat) (a0 : D4) : Option (Bool) :=
  ((F83 k a0.1 (1 : Int) (8 : Int)).bind fun r1 => (bif (!r1) then some false else ((F83 k a0.2.1 (0 : Int) (500 : Int)).bind fun r2 => (bif (!r2) then some false else (bif (decide (a0.1 < (a0.2.2.1.length : Int))) then some false else ((F105 k a0).bind fun r3 => (bif (decide (a0.2.1 < r3)) then some false else (bif (!decide (a0.2.2.2 = (0 : Int))) then ((F83 k a0.2.2.2 (0 : Int) (wrap64 ((a0.2.2.1.length : Int) - (1 : Int)))).bind fun r4 => (bif (!r4) then some false else (iter (σ := Int × Unit) (fun rec15 x14 => (bif (decide (x14.1 < (a0.2.2.1.length : Int))) then (bif (decide (0 ≤ x14.1 ∧ x14.1 < (a0.2.2.1.length : Int))) then ((F35 k (a0.2.2.1.getD x14.1.toNat Z3).1).bind fun r16 => (bif (!r16) then some false else (iter (σ := Int × Unit) (fun rec21 x20 => (bif (decide (x20.1 < x14.1)) then (bif (decide (0 ≤ x20.1 ∧ x20.1 < (a0.2.2.1.length : Int))) then (bif (decide (0 ≤ x14.1 ∧ x14.1 < (a0.2.2.1.length : Int))) then ((F106 k (a0.2.2.1.getD x20.1.toNat Z3).1 (a0.2.2.1.getD x14.1.toNat Z3).1).bind fun r22 => (bif r22 then some false else (rec21 ((wrap64 (x20.1 + (1 : Int))), ())))) else none) else none) else (rec15 ((wrap64 (x14.1 + (1 : Int))), ())))) k ((0 : Int), ())))) else none) else some true)) k ((0 : Int), ())))) else (iter (σ := Int × Unit) (fun rec33 x32 => (bif (decide (x32.1 < (a0.2.2.1.length : Int))) then (bif (decide (0 ≤ x32.1 ∧ x32.1 < (a0.2.2.1.length : Int))) then ((F35 k (a0.2.2.1.getD x32.1.toNat Z3).1).bind fun r34 => (bif (!r34) then some false else (iter (σ := Int × Unit) (fun rec39 x38 => (bif (decide (x38.1 < x32.1)) then (bif (decide (0 ≤ x38.1 ∧ x38.1 < (a0.2.2.1.length : Int))) then (bif (decide (0 ≤ x32.1 ∧ x32.1 < (a0.2.2.1.length : Int))) then ((F106 k (a0.2.2.1.getD x38.1.toNat Z3).1 (a0.2.2.1.getD x32.1.toNat Z3).1).bind fun r40 => (bif r40 then some false else (rec39 ((wrap64 (x38.1 + (1 : Int))), ())))) else none) else none) else (rec33 ((wrap64 (x32.1 + (1 : Int))), ())))) k ((0 : Int), ())))) else none) else some true)) k ((0 : Int), ()))))))))))
def S48 (k : Nat) : CSpec := { params := [U4], res := [(.bool, false)], fresh := true, sem := fun x => F48 k x.1 }
theorem e48 : (fun k => evFn ((T (kp [(([], 6), ⟨[3], [], [], false⟩), (([], 11), ⟨[4], [], [], false⟩)]) k).cx [(35, S35 k), (83, S83 k), (105, S105 k), (106, S106 k)]) 5 Tryz.f48 (S48 0).params (S48 0).res true) = fun k => (S48 k).sem := by kernel_rfl
theorem ok48 {G : World → Prop} (hG : Lasts G) (k : Nat) : (S48 k).ok Tryz.prog G 48 := fn_ok (T_ok (kp [(([], 6), ⟨[3], [], [], false⟩), (([], 11), ⟨[4], [], [], false⟩)]) k) hG (calls := [(35, S35 k), (83, S83 k), (105, S105 k), (106, S106 k)]) ⟨ok35 hG k, ok83 hG k, ok105 hG k, ok106 hG k, trivial⟩ 5 rfl (S48 k) (congrFun e48 k)

/-- loop.example/g01402/spec.ShowShard -/
def F14 (k : Nat) (a0 : D4) : Option (ByteArray) :=
  ((F48 k a0).bind fun r1 => (bif (!r1) then some (ByteArray.mk #[]) else (iter (σ := ByteArray × Int × Unit) (fun rec7 x6 => (bif (decide (x6.2.1 < (a0.2.2.1.length : Int))) then (bif (decide ((a0.2.2.1.length : Int) = 0)) then none else (bif (decide (0 ≤ ((wrap64 (a0.2.2.2 + x6.2.1)).tmod (a0.2.2.1.length : Int)) ∧ ((wrap64 (a0.2.2.2 + x6.2.1)).tmod (a0.2.2.1.length : Int)) < (a0.2.2.1.length : Int))) then (bif (decide ((0 : Int) < x6.2.1)) then (bif (decide (x6.1.size + (ByteArray.mk #[32]).size < mostText)) then (bif (decide ((x6.1 ++ (ByteArray.mk #[32])).size + (a0.2.2.1.getD ((wrap64 (a0.2.2.2 + x6.2.1)).tmod (a0.2.2.1.length : Int)).toNat Z3).1.1.size < mostText)) then (bif (decide (((x6.1 ++ (ByteArray.mk #[32])) ++ (a0.2.2.1.getD ((wrap64 (a0.2.2.2 + x6.2.1)).tmod (a0.2.2.1.length : Int)).toNat Z3).1.1).size + (ByteArray.mk #[58]).size < mostText)) then ((F49 k ((a0.2.2.1.getD ((wrap64 (a0.2.2.2 + x6.2.1)).tmod (a0.2.2.1.length : Int)).toNat Z3).1.2.2.1.2.2.size : Int)).bind fun r8 => (bif (decide ((((x6.1 ++ (ByteArray.mk #[32])) ++ (a0.2.2.1.getD ((wrap64 (a0.2.2.2 + x6.2.1)).tmod (a0.2.2.1.length : Int)).toNat Z3).1.1) ++ (ByteArray.mk #[58])).size + r8.size < mostText)) then (bif (a0.2.2.1.getD ((wrap64 (a0.2.2.2 + x6.2.1)).tmod (a0.2.2.1.length : Int)).toNat Z3).2 then (bif (decide (((((x6.1 ++ (ByteArray.mk #[32])) ++ (a0.2.2.1.getD ((wrap64 (a0.2.2.2 + x6.2.1)).tmod (a0.2.2.1.length : Int)).toNat Z3).1.1) ++ (ByteArray.mk #[58])) ++ r8).size + (ByteArray.mk #[42]).size < mostText)) then (rec7 ((((((x6.1 ++ (ByteArray.mk #[32])) ++ (a0.2.2.1.getD ((wrap64 (a0.2.2.2 + x6.2.1)).tmod (a0.2.2.1.length : Int)).toNat Z3).1.1) ++ (ByteArray.mk #[58])) ++ r8) ++ (ByteArray.mk #[42])), (wrap64 (x6.2.1 + (1 : Int))), ())) else none) else (rec7 (((((x6.1 ++ (ByteArray.mk #[32])) ++ (a0.2.2.1.getD ((wrap64 (a0.2.2.2 + x6.2.1)).tmod (a0.2.2.1.length : Int)).toNat Z3).1.1) ++ (ByteArray.mk #[58])) ++ r8), (wrap64 (x6.2.1 + (1 : Int))), ()))) else none)) else none) else none) else none) else (bif (decide (x6.1.size + (a0.2.2.1.getD ((wrap64 (a0.2.2.2 + x6.2.1)).tmod (a0.2.2.1.length : Int)).toNat Z3).1.1.size < mostText)) then (bif (decide ((x6.1 ++ (a0.2.2.1.getD ((wrap64 (a0.2.2.2 + x6.2.1)).tmod (a0.2.2.1.length : Int)).toNat Z3).1.1).size + (ByteArray.mk #[58]).size < mostText)) then ((F49 k ((a0.2.2.1.getD ((wrap64 (a0.2.2.2 + x6.2.1)).tmod (a0.2.2.1.length : Int)).toNat Z3).1.2.2.1.2.2.size : Int)).bind fun r9 => (bif (decide (((x6.1 ++ (a0.2.2.1.getD ((wrap64 (a0.2.2.2 + x6.2.1)).tmod (a0.2.2.1.length : Int)).toNat Z3).1.1) ++ (ByteArray.mk #[58])).size + r9.size < mostText)) then (bif (a0.2.2.1.getD ((wrap64 (a0.2.2.2 + x6.2.1)).tmod (a0.2.2.1.length : Int)).toNat Z3).2 then (bif (decide ((((x6.1 ++ (a0.2.2.1.getD ((wrap64 (a0.2.2.2 + x6.2.1)).tmod (a0.2.2.1.length : Int)).toNat Z3).1.1) ++ (ByteArray.mk #[58])) ++ r9).size + (ByteArray.mk #[42]).size < mostText)) then (rec7 (((((x6.1 ++ (a0.2.2.1.getD ((wrap64 (a0.2.2.2 + x6.2.1)).tmod (a0.2.2.1.length : Int)).toNat Z3).1.1) ++ (ByteArray.mk #[58])) ++ r9) ++ (ByteArray.mk #[42])), (wrap64 (x6.2.1 + (1 : Int))), ())) else none) else (rec7 ((((x6.1 ++ (a0.2.2.1.getD ((wrap64 (a0.2.2.2 + x6.2.1)).tmod (a0.2.2.1.length : Int)).toNat Z3).1.1) ++ (ByteArray.mk #[58])) ++ r9), (wrap64 (x6.2.1 + (1 : Int))), ()))) else none)) else none) else none)) else none)) else some x6.1)) k ((ByteArray.mk #[]), (0 : Int), ()))))
def S14 (k : Nat) : CSpec := { params := [U4], res := [(.str, false)], fresh := true, sem := fun x => F14 k x.1 }
theorem e14 : (fun k => evFn ((T (fun _ _ => ⟨[3, 4], [], [], false⟩) k).cx [(48, S48 k), (49, S49 k)]) 5 Tryz.f14 (S14 0).params (S14 0).res true) = fun k => (S14 k).sem := by kernel_rfl
theorem ok14 {G : World → Prop} (hG : Lasts G) (k : Nat) : (S14 k).ok Tryz.prog G 14 := fn_ok (T_ok (fun _ _ => ⟨[3, 4], [], [], false⟩) k) hG (calls := [(48, S48 k), (49, S49 k)]) ⟨ok48 hG k, ok49 hG k, trivial⟩ 5 rfl (S14 k) (congrFun e14 k)

/-- loop.example/g01402/impl.shardSizes -/
def F108 (k : Nat) (a0 : Int) (a1 : Int) : Option (Bool) :=
  ((F86 k a0 (1 : Int) (8 : Int)).bind fun r1 => (bif r1 then ((F86 k a1 (0 : Int) (500 : Int)).bind fun r2 => some r2) else some false))
def S108 (k : Nat) : CSpec := { params := [(.int .i64), (.int .i64)], res := [(.bool, false)], fresh := true, sem := fun x => F108 k x.1 x.2.1 }
theorem e108 : (fun k => evFn ((T (fun _ _ => ⟨[], [], [], false⟩) k).cx [(86, S86 k)]) 5 Tryz.f108 (S108 0).params (S108 0).res true) = fun k => (S108 k).sem := by kernel_rfl
theorem ok108 {G : World → Prop} (hG : Lasts G) (k : Nat) : (S108 k).ok Tryz.prog G 108 := fn_ok (T_ok (fun _ _ => ⟨[], [], [], false⟩) k) hG (calls := [(86, S86 k)]) ⟨ok86 hG k, trivial⟩ 5 rfl (S108 k) (congrFun e108 k)

/-- slices.Equal[[]loop.example/g01402/impl.Field,loop.example/g01402/impl.Field] -/
def F175 (k : Nat) (a0 : List D0) (a1 : List D0) : Option (Bool) :=
  (bif (!decide ((a0.length : Int) = (a1.length : Int))) then some false else (iter (σ := Int × Unit) (fun rec4 x3 => (bif (decide (x3.1 < (a0.length : Int))) then (bif (decide (0 ≤ x3.1 ∧ x3.1 < (a0.length : Int))) then (bif (decide (0 ≤ x3.1 ∧ x3.1 < (a1.length : Int))) then (bif (!((decide ((a0.getD x3.1.toNat Z0).1 = (a1.getD x3.1.toNat Z0).1)) && (decide ((a0.getD x3.1.toNat Z0).2 = (a1.getD x3.1.toNat Z0).2)))) then some false else (rec4 ((wrap64 (x3.1 + (1 : Int))), ()))) else none) else none) else some true)) k ((0 : Int), ())))
def S175 (k : Nat) : CSpec := { params := [(.slice U0), (.slice U0)], res := [(.bool, false)], fresh := true, sem := fun x => F175 k x.1 x.2.1 }
theorem e175 : (fun k => evFn ((T (fun _ _ => ⟨[13], [], [], false⟩) k).cx []) 5 Tryz.f175 (S175 0).params (S175 0).res true) = fun k => (S175 k).sem := by kernel_rfl
theorem ok175 {G : World → Prop} (hG : Lasts G) (k : Nat) : (S175 k).ok Tryz.prog G 175 := fn_ok (T_ok (fun _ _ => ⟨[13], [], [], false⟩) k) hG (calls := []) trivial 5 rfl (S175 k) (congrFun e175 k)

/-- loop.example/g01402/impl.SameFields -/
def F151 (k : Nat) (a0 : List D0) (a1 : List D0) : Option (Bool) :=
  ((F175 k a0 a1).bind fun r1 => some r1)
def S151 (k : Nat) : CSpec := { params := [(.slice U0), (.slice U0)], res := [(.bool, false)], fresh := true, sem := fun x => F151 k x.1 x.2.1 }
theorem e151 : (fun k => evFn ((T (fun _ _ => ⟨[], [], [], false⟩) k).cx [(175, S175 k)]) 5 Tryz.f151 (S151 0).params (S151 0).res true) = fun k => (S151 k).sem := by kernel_rfl
theorem ok151 {G : World → Prop} (hG : Lasts G) (k : Nat) : (S151 k).ok Tryz.prog G 151 := fn_ok (T_ok (fun _ _ => ⟨[], [], [], false⟩) k) hG (calls := [(175, S175 k)]) ⟨ok175 hG k, trivial⟩ 5 rfl (S151 k) (congrFun e151 k)

/-- loop.example/g01402/impl.standAlike -/
def F111 (k : Nat) (a0 : D2) (a1 : D2) : Option (Bool) :=
  (bif (decide (a0.1 = a1.1)) then ((F151 k a0.2.1 a1.2.1).bind fun r1 => some r1) else some false)
def S111 (k : Nat) : CSpec := { params := [U2, U2], res := [(.bool, false)], fresh := true, sem := fun x => F111 k x.1 x.2.1 }
theorem e111 : (fun k => evFn ((T (fun _ _ => ⟨[], [], [], false⟩) k).cx [(151, S151 k)]) 5 Tryz.f111 (S111 0).params (S111 0).res true) = fun k => (S111 k).sem := by kernel_rfl
theorem ok111 {G : World → Prop} (hG : Lasts G) (k : Nat) : (S111 k).ok Tryz.prog G 111 := fn_ok (T_ok (fun _ _ => ⟨[], [], [], false⟩) k) hG (calls := [(151, S151 k)]) ⟨ok151 hG k, trivial⟩ 5 rfl (S111 k) (congrFun e111 k)

/-- loop.example/g01402/impl.bodies -/
def F112 (k : Nat) (a0 : List D3) : Option (Int) :=
  (iter (σ := Int × Int × Unit) (fun rec4 x3 => (bif (decide (x3.2.1 < (a0.length : Int))) then (bif (decide (0 ≤ x3.2.1 ∧ x3.2.1 < (a0.length : Int))) then (rec4 ((wrap64 (x3.1 + ((a0.getD x3.2.1.toNat Z3).1.2.2.1.2.2.size : Int))), (wrap64 (x3.2.1 + (1 : Int))), ())) else none) else some x3.1)) k ((0 : Int), (0 : Int), ()))
def S112 (k : Nat) : CSpec := { params := [(.slice U3)], res := [((.int .i64), false)], fresh := true, sem := fun x => F112 k x.1 }
theorem e112 : (fun k => evFn ((T (fun _ _ => ⟨[3, 8], [], [], false⟩) k).cx []) 5 Tryz.f112 (S112 0).params (S112 0).res true) = fun k => (S112 k).sem := by kernel_rfl
theorem ok112 {G : World → Prop} (hG : Lasts G) (k : Nat) : (S112 k).ok Tryz.prog G 112 := fn_ok (T_ok (fun _ _ => ⟨[3, 8], [], [], false⟩) k) hG (calls := []) trivial 5 rfl (S112 k) (congrFun e112 k)

/-- loop.example/g01402/impl.ShardOk -/
def F51 (k : Nat) (a0 : D4) : Option (Bool) :=
  ((F108 k a0.1 a0.2.1).bind fun r1 => (bif (!r1) then some false else (bif (decide (a0.1 < (a0.2.2.1.length : Int))) then some false else (bif (!decide (a0.2.2.2 = (0 : Int))) then ((F86 k a0.2.2.2 (0 : Int) (wrap64 ((a0.2.2.1.length : Int) - (1 : Int)))).bind fun r2 => (bif (!r2) then some false else (iter (σ := Int × Unit) (fun rec13 x12 => (bif (decide (x12.1 < (a0.2.2.1.length : Int))) then (bif (decide (0 ≤ x12.1 ∧ x12.1 < (a0.2.2.1.length : Int))) then ((F41 k (a0.2.2.1.getD x12.1.toNat Z3).1).bind fun r14 => (bif (!r14) then some false else (bif (decide (0 ≤ (0 : Int) ∧ (0 : Int) ≤ x12.1 ∧ x12.1 ≤ (a0.2.2.1.length : Int))) then (iter (σ := Int × Unit) (fun rec19 x18 => (bif (decide (x18.1 < (((a0.2.2.1.drop (0 : Int).toNat).take (x12.1 - (0 : Int)).toNat).length : Int))) then (bif (decide (0 ≤ x18.1 ∧ x18.1 < (((a0.2.2.1.drop (0 : Int).toNat).take (x12.1 - (0 : Int)).toNat).length : Int))) then ((F111 k (a0.2.2.1.getD x12.1.toNat Z3).1 (((a0.2.2.1.drop (0 : Int).toNat).take (x12.1 - (0 : Int)).toNat).getD x18.1.toNat Z3).1).bind fun r20 => (bif r20 then (bif (decide ((0 : Int) ≤ x18.1)) then some false else (rec13 ((wrap64 (x12.1 + (1 : Int))), ()))) else (rec19 ((wrap64 (x18.1 + (1 : Int))), ())))) else none) else (bif (decide ((0 : Int) ≤ (-1 : Int))) then some false else (rec13 ((wrap64 (x12.1 + (1 : Int))), ()))))) k ((0 : Int), ())) else none))) else none) else ((F112 k a0.2.2.1).bind fun r21 => some (decide (r21 ≤ a0.2.1))))) k ((0 : Int), ())))) else (iter (σ := Int × Unit) (fun rec32 x31 => (bif (decide (x31.1 < (a0.2.2.1.length : Int))) then (bif (decide (0 ≤ x31.1 ∧ x31.1 < (a0.2.2.1.length : Int))) then ((F41 k (a0.2.2.1.getD x31.1.toNat Z3).1).bind fun r33 => (bif (!r33) then some false else (bif (decide (0 ≤ (0 : Int) ∧ (0 : Int) ≤ x31.1 ∧ x31.1 ≤ (a0.2.2.1.length : Int))) then (iter (σ := Int × Unit) (fun rec38 x37 => (bif (decide (x37.1 < (((a0.2.2.1.drop (0 : Int).toNat).take (x31.1 - (0 : Int)).toNat).length : Int))) then (bif (decide (0 ≤ x37.1 ∧ x37.1 < (((a0.2.2.1.drop (0 : Int).toNat).take (x31.1 - (0 : Int)).toNat).length : Int))) then ((F111 k (a0.2.2.1.getD x31.1.toNat Z3).1 (((a0.2.2.1.drop (0 : Int).toNat).take (x31.1 - (0 : Int)).toNat).getD x37.1.toNat Z3).1).bind fun r39 => (bif r39 then (bif (decide ((0 : Int) ≤ x37.1)) then some false else (rec32 ((wrap64 (x31.1 + (1 : Int))), ()))) else (rec38 ((wrap64 (x37.1 + (1 : Int))), ())))) else none) else (bif (decide ((0 : Int) ≤ (-1 : Int))) then some false else (rec32 ((wrap64 (x31.1 + (1 : Int))), ()))))) k ((0 : Int), ())) else none))) else none) else ((F112 k a0.2.2.1).bind fun r40 => some (decide (r40 ≤ a0.2.1))))) k ((0 : Int), ()))))))
def S51 (k : Nat) : CSpec := { params := [U4], res := [(.bool, false)], fresh := true, sem := fun x => F51 k x.1 }
theorem e51 : (fun k => evFn ((T (kp [(([], 4), ⟨[37], [], [], false⟩), (([7, 52], 2), ⟨[8], [], [], false⟩)]) k).cx [(41, S41 k), (86, S86 k), (108, S108 k), (111, S111 k), (112, S112 k)]) 5 Tryz.f51 (S51 0).params (S51 0).res true) = fun k => (S51 k).sem := by kernel_rfl
theorem ok51 {G : World → Prop} (hG : Lasts G) (k : Nat) : (S51 k).ok Tryz.prog G 51 := fn_ok (T_ok (kp [(([], 4), ⟨[37], [], [], false⟩), (([7, 52], 2), ⟨[8], [], [], false⟩)]) k) hG (calls := [(41, S41 k), (86, S86 k), (108, S108 k), (111, S111 k), (112, S112 k)]) ⟨ok41 hG k, ok86 hG k, ok108 hG k, ok111 hG k, ok112 hG k, trivial⟩ 5 rfl (S51 k) (congrFun e51 k)

/-- loop.example/g01402/impl.ShowShard -/
def F16 (k : Nat) (a0 : D4) : Option (ByteArray) :=
  ((F51 k a0).bind fun r1 => (bif (!r1) then some (ByteArray.mk #[]) else (iter (σ := Int × List ByteArray × Unit) (fun rec6 x5 => (bif (decide (x5.1 < (a0.2.2.1.length : Int))) then (bif (decide ((a0.2.2.1.length : Int) = 0)) then none else (bif (decide (0 ≤ ((wrap64 (a0.2.2.2 + x5.1)).tmod (a0.2.2.1.length : Int)) ∧ ((wrap64 (a0.2.2.2 + x5.1)).tmod (a0.2.2.1.length : Int)) < (a0.2.2.1.length : Int))) then (bif (decide ((a0.2.2.1.getD ((wrap64 (a0.2.2.2 + x5.1)).tmod (a0.2.2.1.length : Int)).toNat Z3).1.1.size + (ByteArray.mk #[58]).size < mostText)) then ((F52 k ((a0.2.2.1.getD ((wrap64 (a0.2.2.2 + x5.1)).tmod (a0.2.2.1.length : Int)).toNat Z3).1.2.2.1.2.2.size : Int)).bind fun r7 => (bif (decide (((a0.2.2.1.getD ((wrap64 (a0.2.2.2 + x5.1)).tmod (a0.2.2.1.length : Int)).toNat Z3).1.1 ++ (ByteArray.mk #[58])).size + r7.size < mostText)) then (bif (a0.2.2.1.getD ((wrap64 (a0.2.2.2 + x5.1)).tmod (a0.2.2.1.length : Int)).toNat Z3).2 then (bif (decide ((((a0.2.2.1.getD ((wrap64 (a0.2.2.2 + x5.1)).tmod (a0.2.2.1.length : Int)).toNat Z3).1.1 ++ (ByteArray.mk #[58])) ++ r7).size + (ByteArray.mk #[42]).size < mostText)) then (bif (decide (x5.2.1.length + ([((((a0.2.2.1.getD ((wrap64 (a0.2.2.2 + x5.1)).tmod (a0.2.2.1.length : Int)).toNat Z3).1.1 ++ (ByteArray.mk #[58])) ++ r7) ++ (ByteArray.mk #[42]))] : List ByteArray).length < most)) then (rec6 ((wrap64 (x5.1 + (1 : Int))), (x5.2.1 ++ ([((((a0.2.2.1.getD ((wrap64 (a0.2.2.2 + x5.1)).tmod (a0.2.2.1.length : Int)).toNat Z3).1.1 ++ (ByteArray.mk #[58])) ++ r7) ++ (ByteArray.mk #[42]))] : List ByteArray)), ())) else none) else none) else (bif (decide (x5.2.1.length + ([(((a0.2.2.1.getD ((wrap64 (a0.2.2.2 + x5.1)).tmod (a0.2.2.1.length : Int)).toNat Z3).1.1 ++ (ByteArray.mk #[58])) ++ r7)] : List ByteArray).length < most)) then (rec6 ((wrap64 (x5.1 + (1 : Int))), (x5.2.1 ++ ([(((a0.2.2.1.getD ((wrap64 (a0.2.2.2 + x5.1)).tmod (a0.2.2.1.length : Int)).toNat Z3).1.1 ++ (ByteArray.mk #[58])) ++ r7)] : List ByteArray)), ())) else none)) else none)) else none) else none)) else ((semJoin x5.2.1 (ByteArray.mk #[32])).bind fun r8 => some r8))) k ((0 : Int), ([] : List ByteArray), ()))))
def S16 (k : Nat) : CSpec := { params := [U4], res := [(.str, false)], fresh := true, sem := fun x => F16 k x.1 }
theorem e16 : (fun k => evFn ((T (fun _ _ => ⟨[3, 14], [], [1], false⟩) k).cx [(51, S51 k), (52, S52 k), (53, S53 k)]) 5 Tryz.f16 (S16 0).params (S16 0).res true) = fun k => (S16 k).sem := by kernel_rfl
theorem ok16 {G : World → Prop} (hG : GoodW Tryz.prog G) (k : Nat) : (S16 k).ok Tryz.prog G 16 := fn_ok (T_ok (fun _ _ => ⟨[3, 14], [], [1], false⟩) k) hG.lasts (calls := [(51, S51 k), (52, S52 k), (53, S53 k)]) ⟨ok51 hG.lasts k, ok52 hG k, ok53 hG.lasts k, trivial⟩ 5 rfl (S16 k) (congrFun e16 k)

/-- loop.example/g01402/laws.eqSlot -/
def F117 (k : Nat) (a0 : D3) (a1 : D3) : Option (Bool) :=
  ((F12 k a0.1 a1.1).bind fun r1 => (bif (!r1) then some false else (bif (!(a0.2 == a1.2)) then some false else some true)))
def S117 (k : Nat) : CSpec := { params := [U3, U3], res := [(.bool, false)], fresh := true, sem := fun x => F117 k x.1 x.2.1 }
theorem e117 : (fun k => evFn ((T (fun _ _ => ⟨[], [], [], false⟩) k).cx [(12, S12 k)]) 5 Tryz.f117 (S117 0).params (S117 0).res true) = fun k => (S117 k).sem := by kernel_rfl
theorem ok117 {G : World → Prop} (hG : Lasts G) (k : Nat) : (S117 k).ok Tryz.prog G 117 := fn_ok (T_ok (fun _ _ => ⟨[], [], [], false⟩) k) hG (calls := [(12, S12 k)]) ⟨ok12 hG k, trivial⟩ 5 rfl (S117 k) (congrFun e117 k)

/-- loop.example/g01402/laws.eqSlotS -/
def F54 (k : Nat) (a0 : List D3) (a1 : List D3) : Option (Bool) :=
  (bif (!decide ((a0.length : Int) = (a1.length : Int))) then some false else (iter (σ := Int × Unit) (fun rec5 x4 => (bif (decide (x4.1 < (a0.length : Int))) then (bif (decide (0 ≤ x4.1 ∧ x4.1 < (a0.length : Int))) then (bif (decide (0 ≤ x4.1 ∧ x4.1 < (a1.length : Int))) then ((F117 k (a0.getD x4.1.toNat Z3) (a1.getD x4.1.toNat Z3)).bind fun r6 => (bif (!r6) then some false else (rec5 ((wrap64 (x4.1 + (1 : Int))), ())))) else none) else none) else some true)) k ((0 : Int), ())))
def S54 (k : Nat) : CSpec := { params := [(.slice U3), (.slice U3)], res := [(.bool, false)], fresh := true, sem := fun x => F54 k x.1 x.2.1 }
theorem e54 : (fun k => evFn ((T (fun _ _ => ⟨[5], [], [], false⟩) k).cx [(117, S117 k)]) 5 Tryz.f54 (S54 0).params (S54 0).res true) = fun k => (S54 k).sem := by kernel_rfl
theorem ok54 {G : World → Prop} (hG : Lasts G) (k : Nat) : (S54 k).ok Tryz.prog G 54 := fn_ok (T_ok (fun _ _ => ⟨[5], [], [], false⟩) k) hG (calls := [(117, S117 k)]) ⟨ok117 hG k, trivial⟩ 5 rfl (S54 k) (congrFun e54 k)

/-- loop.example/g01402/laws.eqShard -/
def F17 (k : Nat) (a0 : D4) (a1 : D4) : Option (Bool) :=
  (bif (!decide (a0.1 = a1.1)) then some false else (bif (!decide (a0.2.1 = a1.2.1)) then some false else ((F54 k a0.2.2.1 a1.2.2.1).bind fun r1 => (bif (!r1) then some false else (bif (!decide (a0.2.2.2 = a1.2.2.2)) then some false else some true)))))
def S17 (k : Nat) : CSpec := { params := [U4, U4], res := [(.bool, false)], fresh := true, sem := fun x => F17 k x.1 x.2.1 }
theorem e17 : (fun k => evFn ((T (fun _ _ => ⟨[], [], [], false⟩) k).cx [(54, S54 k)]) 5 Tryz.f17 (S17 0).params (S17 0).res true) = fun k => (S17 k).sem := by kernel_rfl
theorem ok17 {G : World → Prop} (hG : Lasts G) (k : Nat) : (S17 k).ok Tryz.prog G 17 := fn_ok (T_ok (fun _ _ => ⟨[], [], [], false⟩) k) hG (calls := [(54, S54 k)]) ⟨ok54 hG k, trivial⟩ 5 rfl (S17 k) (congrFun e17 k)

/-- loop.example/g01402/laws.FnExactShowShard -/
def F4 (k : Nat) (a0 : D4) : Option (Bool) :=
  ((F13 k a0 (1048576 : Int)).bind fun r1 => (bif (decide (r1 < (0 : Int))) then some true else ((F15 k a0).bind fun r2 => ((F14 k r2).bind fun r3 => ((F15 k a0).bind fun r4 => ((F16 k r4).bind fun r5 => (bif (!decide (r5 = r3)) then some false else ((F15 k a0).bind fun r6 => ((F17 k r4 r6).bind fun r7 => (bif (!r7) then some false else some true))))))))))
def S4 (k : Nat) : CSpec := { params := [U4], res := [(.bool, false)], fresh := true, sem := fun x => F4 k x.1 }
theorem e4 : (fun k => evFn ((T (fun _ _ => ⟨[], [], [], false⟩) k).cx [(13, S13 k), (14, S14 k), (15, S15 k), (16, S16 k), (17, S17 k)]) 5 Tryz.f4 (S4 0).params (S4 0).res true) = fun k => (S4 k).sem := by kernel_rfl
theorem ok4 {G : World → Prop} (hG : GoodW Tryz.prog G) (k : Nat) : (S4 k).ok Tryz.prog G 4 := fn_ok (T_ok (fun _ _ => ⟨[], [], [], false⟩) k) hG.lasts (calls := [(13, S13 k), (14, S14 k), (15, S15 k), (16, S16 k), (17, S17 k)]) ⟨ok13 hG.lasts k, ok14 hG.lasts k, ok15 hG.lasts k, ok16 hG k, ok17 hG.lasts k, trivial⟩ 5 rfl (S4 k) (congrFun e4 k)

/-- loop.example/g01402/laws.szShardS -/
def F55 (k : Nat) (a0 : List D4) (a1 : Int) : Option (Int) :=
  (bif (decide ((wrap64 (a1 - (a0.length : Int))) < (0 : Int))) then some (-1 : Int) else (iter (σ := Int × Int × Unit) (fun rec5 x4 => (bif (decide (x4.2.1 < (a0.length : Int))) then (bif (decide (0 ≤ x4.2.1 ∧ x4.2.1 < (a0.length : Int))) then ((F13 k (a0.getD x4.2.1.toNat Z4) x4.1).bind fun r6 => (bif (decide (r6 < (0 : Int))) then some (-1 : Int) else (rec5 (r6, (wrap64 (x4.2.1 + (1 : Int))), ())))) else none) else some x4.1)) k ((wrap64 (a1 - (a0.length : Int))), (0 : Int), ())))
def S55 (k : Nat) : CSpec := { params := [(.slice U4), (.int .i64)], res := [((.int .i64), false)], fresh := true, sem := fun x => F55 k x.1 x.2.1 }
theorem e55 : (fun k => evFn ((T (fun _ _ => ⟨[1, 5], [], [], false⟩) k).cx [(13, S13 k)]) 5 Tryz.f55 (S55 0).params (S55 0).res true) = fun k => (S55 k).sem := by kernel_rfl
theorem ok55 {G : World → Prop} (hG : Lasts G) (k : Nat) : (S55 k).ok Tryz.prog G 55 := fn_ok (T_ok (fun _ _ => ⟨[1, 5], [], [], false⟩) k) hG (calls := [(13, S13 k)]) ⟨ok13 hG k, trivial⟩ 5 rfl (S55 k) (congrFun e55 k)

/-- loop.example/g01402/laws.szGenRow -/
def F118 (k : Nat) (a0 : D5) (a1 : Int) : Option (Int) :=
  (bif (decide ((wrap64 (a1 - (a0.1.size : Int))) < (0 : Int))) then some (-1 : Int) else some (wrap64 (a1 - (a0.1.size : Int))))
def S118 (k : Nat) : CSpec := { params := [U5, (.int .i64)], res := [((.int .i64), false)], fresh := true, sem := fun x => F118 k x.1 x.2.1 }
theorem e118 : (fun k => evFn ((T (fun _ _ => ⟨[], [], [], false⟩) k).cx []) 5 Tryz.f118 (S118 0).params (S118 0).res true) = fun k => (S118 k).sem := by kernel_rfl
theorem ok118 {G : World → Prop} (hG : Lasts G) (k : Nat) : (S118 k).ok Tryz.prog G 118 := fn_ok (T_ok (fun _ _ => ⟨[], [], [], false⟩) k) hG (calls := []) trivial 5 rfl (S118 k) (congrFun e118 k)

/-- loop.example/g01402/laws.szGenRowS -/
def F56 (k : Nat) (a0 : List D5) (a1 : Int) : Option (Int) :=
  (bif (decide ((wrap64 (a1 - (a0.length : Int))) < (0 : Int))) then some (-1 : Int) else (iter (σ := Int × Int × Unit) (fun rec5 x4 => (bif (decide (x4.2.1 < (a0.length : Int))) then (bif (decide (0 ≤ x4.2.1 ∧ x4.2.1 < (a0.length : Int))) then ((F118 k (a0.getD x4.2.1.toNat Z5) x4.1).bind fun r6 => (bif (decide (r6 < (0 : Int))) then some (-1 : Int) else (rec5 (r6, (wrap64 (x4.2.1 + (1 : Int))), ())))) else none) else some x4.1)) k ((wrap64 (a1 - (a0.length : Int))), (0 : Int), ())))
def S56 (k : Nat) : CSpec := { params := [(.slice U5), (.int .i64)], res := [((.int .i64), false)], fresh := true, sem := fun x => F56 k x.1 x.2.1 }
theorem e56 : (fun k => evFn ((T (fun _ _ => ⟨[1, 5], [], [], false⟩) k).cx [(118, S118 k)]) 5 Tryz.f56 (S56 0).params (S56 0).res true) = fun k => (S56 k).sem := by kernel_rfl
theorem ok56 {G : World → Prop} (hG : Lasts G) (k : Nat) : (S56 k).ok Tryz.prog G 56 := fn_ok (T_ok (fun _ _ => ⟨[1, 5], [], [], false⟩) k) hG (calls := [(118, S118 k)]) ⟨ok118 hG k, trivial⟩ 5 rfl (S56 k) (congrFun e56 k)

/-- loop.example/g01402/laws.szCache -/
def F18 (k : Nat) (a0 : D6) (a1 : Int) : Option (Int) :=
  ((F55 k a0.1 a1).bind fun r1 => (bif (decide (r1 < (0 : Int))) then some (-1 : Int) else ((F56 k a0.2 r1).bind fun r2 => (bif (decide (r2 < (0 : Int))) then some (-1 : Int) else some r2))))
def S18 (k : Nat) : CSpec := { params := [U6, (.int .i64)], res := [((.int .i64), false)], fresh := true, sem := fun x => F18 k x.1 x.2.1 }
theorem e18 : (fun k => evFn ((T (fun _ _ => ⟨[], [], [], false⟩) k).cx [(55, S55 k), (56, S56 k)]) 5 Tryz.f18 (S18 0).params (S18 0).res true) = fun k => (S18 k).sem := by kernel_rfl
theorem ok18 {G : World → Prop} (hG : Lasts G) (k : Nat) : (S18 k).ok Tryz.prog G 18 := fn_ok (T_ok (fun _ _ => ⟨[], [], [], false⟩) k) hG (calls := [(55, S55 k), (56, S56 k)]) ⟨ok55 hG k, ok56 hG k, trivial⟩ 5 rfl (S18 k) (congrFun e18 k)

/-- loop.example/g01402/laws.toShardS -/
def F58 (k : Nat) (a0 : List D4) : Option ((List D4)) :=
  (bif (decide (0 ≤ (a0.length : Int) ∧ (a0.length : Int) = (a0.length : Int) ∧ (a0.length : Int) < (most : Int))) then (iter (σ := Int × List D4 × Unit) (fun rec5 x4 => (bif (decide (x4.1 < (a0.length : Int))) then (bif (decide (0 ≤ x4.1 ∧ x4.1 < (a0.length : Int))) then ((F15 k (a0.getD x4.1.toNat Z4)).bind fun r6 => (bif (decide (0 ≤ x4.1 ∧ x4.1 < (x4.2.1.length : Int))) then (rec5 ((wrap64 (x4.1 + (1 : Int))), (x4.2.1.set x4.1.toNat r6), ())) else none)) else none) else some x4.2.1)) k ((0 : Int), (List.replicate (a0.length : Int).toNat Z4), ())) else none)
def S58 (k : Nat) : CSpec := { params := [(.slice U4)], res := [((.slice U4), true)], fresh := true, sem := fun x => F58 k x.1 }
theorem e58 : (fun k => evFn ((T (fun _ _ => ⟨[4], [1], [], false⟩) k).cx [(15, S15 k)]) 5 Tryz.f58 (S58 0).params (S58 0).res true) = fun k => (S58 k).sem := by kernel_rfl
theorem ok58 {G : World → Prop} (hG : Lasts G) (k : Nat) : (S58 k).ok Tryz.prog G 58 := fn_ok (T_ok (fun _ _ => ⟨[4], [1], [], false⟩) k) hG (calls := [(15, S15 k)]) ⟨ok15 hG k, trivial⟩ 5 rfl (S58 k) (congrFun e58 k)

/-- loop.example/g01402/laws.toGenRow -/
def F120 (k : Nat) (a0 : D5) : Option (D5) :=
  some a0
def S120 (k : Nat) : CSpec := { params := [U5], res := [(U5, false)], fresh := true, sem := fun x => F120 k x.1 }
theorem e120 : (fun k => evFn ((T (fun _ _ => ⟨[], [], [], false⟩) k).cx []) 5 Tryz.f120 (S120 0).params (S120 0).res true) = fun k => (S120 k).sem := by kernel_rfl
theorem ok120 {G : World → Prop} (hG : Lasts G) (k : Nat) : (S120 k).ok Tryz.prog G 120 := fn_ok (T_ok (fun _ _ => ⟨[], [], [], false⟩) k) hG (calls := []) trivial 5 rfl (S120 k) (congrFun e120 k)

/-- loop.example/g01402/laws.toGenRowS -/
def F59 (k : Nat) (a0 : List D5) : Option ((List D5)) :=
  (bif (decide (0 ≤ (a0.length : Int) ∧ (a0.length : Int) = (a0.length : Int) ∧ (a0.length : Int) < (most : Int))) then (iter (σ := Int × List D5 × Unit) (fun rec5 x4 => (bif (decide (x4.1 < (a0.length : Int))) then (bif (decide (0 ≤ x4.1 ∧ x4.1 < (a0.length : Int))) then ((F120 k (a0.getD x4.1.toNat Z5)).bind fun r6 => (bif (decide (0 ≤ x4.1 ∧ x4.1 < (x4.2.1.length : Int))) then (rec5 ((wrap64 (x4.1 + (1 : Int))), (x4.2.1.set x4.1.toNat r6), ())) else none)) else none) else some x4.2.1)) k ((0 : Int), (List.replicate (a0.length : Int).toNat Z5), ())) else none)
def S59 (k : Nat) : CSpec := { params := [(.slice U5)], res := [((.slice U5), true)], fresh := true, sem := fun x => F59 k x.1 }
theorem e59 : (fun k => evFn ((T (fun _ _ => ⟨[4], [1], [], false⟩) k).cx [(120, S120 k)]) 5 Tryz.f59 (S59 0).params (S59 0).res true) = fun k => (S59 k).sem := by kernel_rfl
theorem ok59 {G : World → Prop} (hG : Lasts G) (k : Nat) : (S59 k).ok Tryz.prog G 59 := fn_ok (T_ok (fun _ _ => ⟨[4], [1], [], false⟩) k) hG (calls := [(120, S120 k)]) ⟨ok120 hG k, trivial⟩ 5 rfl (S59 k) (congrFun e59 k)

/-- loop.example/g01402/laws.toCache -/
def F20 (k : Nat) (a0 : D6) : Option (D6) :=
  ((F58 k a0.1).bind fun r1 => ((F59 k a0.2).bind fun r2 => some (r1, r2)))
def S20 (k : Nat) : CSpec := { params := [U6], res := [(U6, false)], fresh := true, sem := fun x => F20 k x.1 }
theorem e20 : (fun k => evFn ((T (fun _ _ => ⟨[], [], [], false⟩) k).cx [(58, S58 k), (59, S59 k)]) 5 Tryz.f20 (S20 0).params (S20 0).res true) = fun k => (S20 k).sem := by kernel_rfl
theorem ok20 {G : World → Prop} (hG : Lasts G) (k : Nat) : (S20 k).ok Tryz.prog G 20 := fn_ok (T_ok (fun _ _ => ⟨[], [], [], false⟩) k) hG (calls := [(58, S58 k), (59, S59 k)]) ⟨ok58 hG k, ok59 hG k, trivial⟩ 5 rfl (S20 k) (congrFun e20 k)

/-- loop.example/g01402/spec.Fnv -/
def F155 (k : Nat) (a0 : ByteArray) : Option (Int) :=
  (iter (σ := Int × Int × Unit) (fun rec4 x3 => (bif (decide (x3.2.1 < (a0.size : Int))) then (bif (decide (0 ≤ x3.2.1 ∧ x3.2.1 < (a0.size : Int))) then (bif (decide ((4294967296 : Int) = 0)) then none else (rec4 (((wrap64 ((bitsXor .i64 x3.1 (wrap64 ((bt a0 x3.2.1)))) * (16777619 : Int))).tmod (4294967296 : Int)), (wrap64 (x3.2.1 + (1 : Int))), ()))) else none) else some x3.1)) k ((2166136261 : Int), (0 : Int), ()))
def S155 (k : Nat) : CSpec := { params := [.str], res := [((.int .i64), false)], fresh := true, sem := fun x => F155 k x.1 }
theorem e155 : (fun k => evFn ((T (fun _ _ => ⟨[3, 4], [], [], false⟩) k).cx []) 5 Tryz.f155 (S155 0).params (S155 0).res true) = fun k => (S155 k).sem := by kernel_rfl
theorem ok155 {G : World → Prop} (hG : Lasts G) (k : Nat) : (S155 k).ok Tryz.prog G 155 := fn_ok (T_ok (fun _ _ => ⟨[3, 4], [], [], false⟩) k) hG (calls := []) trivial 5 rfl (S155 k) (congrFun e155 k)

/-- loop.example/g01402/spec.ShardOf -/
def F119 (k : Nat) (a0 : D6) (a1 : ByteArray) : Option (Int) :=
  (bif (decide ((a0.1.length : Int) = (0 : Int))) then some (-1 : Int) else ((F155 k a1).bind fun r1 => (bif (decide ((a0.1.length : Int) = 0)) then none else some (r1.tmod (a0.1.length : Int)))))
def S119 (k : Nat) : CSpec := { params := [U6, .str], res := [((.int .i64), false)], fresh := true, sem := fun x => F119 k x.1 x.2.1 }
theorem e119 : (fun k => evFn ((T (fun _ _ => ⟨[], [], [], false⟩) k).cx [(155, S155 k)]) 5 Tryz.f119 (S119 0).params (S119 0).res true) = fun k => (S119 k).sem := by kernel_rfl
theorem ok119 {G : World → Prop} (hG : Lasts G) (k : Nat) : (S119 k).ok Tryz.prog G 119 := fn_ok (T_ok (fun _ _ => ⟨[], [], [], false⟩) k) hG (calls := [(155, S155 k)]) ⟨ok155 hG k, trivial⟩ 5 rfl (S119 k) (congrFun e119 k)

/-- loop.example/g01402/spec.CacheOk -/
def F57 (k : Nat) (a0 : D6) : Option (Bool) :=
  ((F83 k (a0.1.length : Int) (1 : Int) (4 : Int)).bind fun r1 => (bif (!r1) then some false else (iter (σ := Int × Unit) (fun rec12 x11 => (bif (decide (x11.1 < (a0.1.length : Int))) then (bif (decide (0 ≤ x11.1 ∧ x11.1 < (a0.1.length : Int))) then ((F48 k (a0.1.getD x11.1.toNat Z4)).bind fun r13 => (bif (!r13) then some false else (iter (σ := Int × Unit) (fun rec18 x17 => (bif (decide (0 ≤ x11.1 ∧ x11.1 < (a0.1.length : Int))) then (bif (decide (x17.1 < ((a0.1.getD x11.1.toNat Z4).2.2.1.length : Int))) then (bif (decide (0 ≤ x11.1 ∧ x11.1 < (a0.1.length : Int))) then (bif (decide (0 ≤ x17.1 ∧ x17.1 < ((a0.1.getD x11.1.toNat Z4).2.2.1.length : Int))) then ((F119 k a0 ((a0.1.getD x11.1.toNat Z4).2.2.1.getD x17.1.toNat Z3).1.1).bind fun r19 => (bif (!decide (r19 = x11.1)) then some false else (rec18 ((wrap64 (x17.1 + (1 : Int))), ())))) else none) else none) else (rec12 ((wrap64 (x11.1 + (1 : Int))), ()))) else none)) k ((0 : Int), ())))) else none) else (iter (σ := Int × Unit) (fun rec25 x24 => (bif (decide (x24.1 < (a0.2.length : Int))) then (bif (decide (0 ≤ x24.1 ∧ x24.1 < (a0.2.length : Int))) then ((F91 k (a0.2.getD x24.1.toNat Z5).1).bind fun r26 => (bif (!r26) then some false else (bif (decide (0 ≤ x24.1 ∧ x24.1 < (a0.2.length : Int))) then ((F83 k (a0.2.getD x24.1.toNat Z5).2 (1 : Int) (1000000 : Int)).bind fun r27 => (bif (!r27) then some false else (bif (decide ((0 : Int) < x24.1)) then (bif (decide (0 ≤ x24.1 ∧ x24.1 < (a0.2.length : Int))) then (bif (decide (0 ≤ (wrap64 (x24.1 - (1 : Int))) ∧ (wrap64 (x24.1 - (1 : Int))) < (a0.2.length : Int))) then (bif (lessText (a0.2.getD x24.1.toNat Z5).1 (a0.2.getD (wrap64 (x24.1 - (1 : Int))).toNat Z5).1 || decide ((a0.2.getD x24.1.toNat Z5).1 = (a0.2.getD (wrap64 (x24.1 - (1 : Int))).toNat Z5).1)) then some false else (rec25 ((wrap64 (x24.1 + (1 : Int))), ()))) else none) else none) else (rec25 ((wrap64 (x24.1 + (1 : Int))), ()))))) else none))) else none) else some true)) k ((0 : Int), ())))) k ((0 : Int), ()))))
def S57 (k : Nat) : CSpec := { params := [U6], res := [(.bool, false)], fresh := true, sem := fun x => F57 k x.1 }
theorem e57 : (fun k => evFn ((T (kp [(([], 4), ⟨[3], [], [], false⟩), (([], 9), ⟨[4], [], [], false⟩), (([], 14), ⟨[5], [], [], false⟩)]) k).cx [(48, S48 k), (83, S83 k), (91, S91 k), (119, S119 k)]) 5 Tryz.f57 (S57 0).params (S57 0).res true) = fun k => (S57 k).sem := by kernel_rfl
theorem ok57 {G : World → Prop} (hG : Lasts G) (k : Nat) : (S57 k).ok Tryz.prog G 57 := fn_ok (T_ok (kp [(([], 4), ⟨[3], [], [], false⟩), (([], 9), ⟨[4], [], [], false⟩), (([], 14), ⟨[5], [], [], false⟩)]) k) hG (calls := [(48, S48 k), (83, S83 k), (91, S91 k), (119, S119 k)]) ⟨ok48 hG k, ok83 hG k, ok91 hG k, ok119 hG k, trivial⟩ 5 rfl (S57 k) (congrFun e57 k)

/-- loop.example/g01402/spec.ShowCache -/
def F19 (k : Nat) (a0 : D6) : Option (ByteArray) :=
  ((F57 k a0).bind fun r1 => (bif (!r1) then some (ByteArray.mk #[]) else ((F37 k (a0.1.length : Int)).bind fun r2 => (iter (σ := ByteArray × Int × Unit) (fun rec26 x25 => (bif (decide (x25.2.1 < (a0.1.length : Int))) then (bif (decide (0 ≤ x25.2.1 ∧ x25.2.1 < (a0.1.length : Int))) then ((F37 k (a0.1.getD x25.2.1.toNat Z4).1).bind fun r27 => (bif (decide (x25.1.size + r27.size < mostText)) then ((F37 k (a0.1.getD x25.2.1.toNat Z4).2.1).bind fun r28 => (bif (decide ((x25.1 ++ r27).size + r28.size < mostText)) then ((F37 k (a0.1.getD x25.2.1.toNat Z4).2.2.2).bind fun r29 => (bif (decide (((x25.1 ++ r27) ++ r28).size + r29.size < mostText)) then ((F37 k ((a0.1.getD x25.2.1.toNat Z4).2.2.1.length : Int)).bind fun r30 => (bif (decide ((((x25.1 ++ r27) ++ r28) ++ r29).size + r30.size < mostText)) then (iter (σ := ByteArray × Int × Unit) (fun rec40 x39 => (bif (decide (x39.2.1 < ((a0.1.getD x25.2.1.toNat Z4).2.2.1.length : Int))) then (bif (decide (0 ≤ x39.2.1 ∧ x39.2.1 < ((a0.1.getD x25.2.1.toNat Z4).2.2.1.length : Int))) then (bif ((a0.1.getD x25.2.1.toNat Z4).2.2.1.getD x39.2.1.toNat Z3).2 then ((F37 k (1 : Int)).bind fun r41 => (bif (decide (x39.1.size + r41.size < mostText)) then (bif (decide (0 ≤ x39.2.1 ∧ x39.2.1 < ((a0.1.getD x25.2.1.toNat Z4).2.2.1.length : Int))) then ((F9 k ((a0.1.getD x25.2.1.toNat Z4).2.2.1.getD x39.2.1.toNat Z3).1).bind fun r42 => ((F36 k r42).bind fun r43 => (bif (decide ((x39.1 ++ r41).size + r43.size < mostText)) then (rec40 (((x39.1 ++ r41) ++ r43), (wrap64 (x39.2.1 + (1 : Int))), ())) else none))) else none) else none)) else ((F37 k (0 : Int)).bind fun r44 => (bif (decide (x39.1.size + r44.size < mostText)) then (bif (decide (0 ≤ x39.2.1 ∧ x39.2.1 < ((a0.1.getD x25.2.1.toNat Z4).2.2.1.length : Int))) then ((F9 k ((a0.1.getD x25.2.1.toNat Z4).2.2.1.getD x39.2.1.toNat Z3).1).bind fun r45 => ((F36 k r45).bind fun r46 => (bif (decide ((x39.1 ++ r44).size + r46.size < mostText)) then (rec40 (((x39.1 ++ r44) ++ r46), (wrap64 (x39.2.1 + (1 : Int))), ())) else none))) else none) else none))) else none) else (rec26 (x39.1, (wrap64 (x25.2.1 + (1 : Int))), ())))) k (((((x25.1 ++ r27) ++ r28) ++ r29) ++ r30), (0 : Int), ())) else none)) else none)) else none)) else none)) else none) else ((F37 k (a0.2.length : Int)).bind fun r47 => (bif (decide (x25.1.size + r47.size < mostText)) then (iter (σ := ByteArray × Int × Unit) (fun rec53 x52 => (bif (decide (x52.2.1 < (a0.2.length : Int))) then (bif (decide (0 ≤ x52.2.1 ∧ x52.2.1 < (a0.2.length : Int))) then ((F36 k (a0.2.getD x52.2.1.toNat Z5).1).bind fun r54 => (bif (decide (x52.1.size + r54.size < mostText)) then (bif (decide (0 ≤ x52.2.1 ∧ x52.2.1 < (a0.2.length : Int))) then ((F37 k (a0.2.getD x52.2.1.toNat Z5).2).bind fun r55 => (bif (decide ((x52.1 ++ r54).size + r55.size < mostText)) then (rec53 (((x52.1 ++ r54) ++ r55), (wrap64 (x52.2.1 + (1 : Int))), ())) else none)) else none) else none)) else none) else (bif (decide ((20000 : Int) < (x52.1.size : Int))) then some (ByteArray.mk #[]) else some x52.1))) k ((x25.1 ++ r47), (0 : Int), ())) else none)))) k (r2, (0 : Int), ())))))
def S19 (k : Nat) : CSpec := { params := [U6], res := [(.str, false)], fresh := true, sem := fun x => F19 k x.1 }
theorem e19 : (fun k => evFn ((T (kp [(([], 5), ⟨[3, 4], [], [], false⟩), (([], 10), ⟨[3, 6], [], [], false⟩), (([], 18), ⟨[3, 8], [], [], false⟩)]) k).cx [(9, S9 k), (36, S36 k), (37, S37 k), (57, S57 k)]) 5 Tryz.f19 (S19 0).params (S19 0).res true) = fun k => (S19 k).sem := by kernel_rfl
theorem ok19 {G : World → Prop} (hG : Lasts G) (k : Nat) : (S19 k).ok Tryz.prog G 19 := fn_ok (T_ok (kp [(([], 5), ⟨[3, 4], [], [], false⟩), (([], 10), ⟨[3, 6], [], [], false⟩), (([], 18), ⟨[3, 8], [], [], false⟩)]) k) hG (calls := [(9, S9 k), (36, S36 k), (37, S37 k), (57, S57 k)]) ⟨ok9 hG k, ok36 hG k, ok37 hG k, ok57 hG k, trivial⟩ 5 rfl (S19 k) (congrFun e19 k)

/-- loop.example/g01402/impl.Fnv -/
def F156 (k : Nat) (a0 : ByteArray) : Option (Int) :=
  (iter (σ := Int × Int × Unit) (fun rec4 x3 => (bif (decide (x3.2.1 < (a0.size : Int))) then (bif (decide (0 ≤ x3.2.1 ∧ x3.2.1 < (a0.size : Int))) then (bif (decide ((4294967296 : Int) = 0)) then none else (rec4 (((wrap64 ((bitsXor .i64 x3.1 (wrap64 ((bt a0 x3.2.1)))) * (16777619 : Int))).tmod (4294967296 : Int)), (wrap64 (x3.2.1 + (1 : Int))), ()))) else none) else some x3.1)) k ((2166136261 : Int), (0 : Int), ()))
def S156 (k : Nat) : CSpec := { params := [.str], res := [((.int .i64), false)], fresh := true, sem := fun x => F156 k x.1 }
theorem e156 : (fun k => evFn ((T (fun _ _ => ⟨[3, 7], [], [], false⟩) k).cx []) 5 Tryz.f156 (S156 0).params (S156 0).res true) = fun k => (S156 k).sem := by kernel_rfl
theorem ok156 {G : World → Prop} (hG : Lasts G) (k : Nat) : (S156 k).ok Tryz.prog G 156 := fn_ok (T_ok (fun _ _ => ⟨[3, 7], [], [], false⟩) k) hG (calls := []) trivial 5 rfl (S156 k) (congrFun e156 k)

/-- loop.example/g01402/impl.ShardOf -/
def F122 (k : Nat) (a0 : D6) (a1 : ByteArray) : Option (Int) :=
  (bif (decide ((a0.1.length : Int) = (0 : Int))) then some (-1 : Int) else ((F156 k a1).bind fun r1 => (bif (decide ((a0.1.length : Int) = 0)) then none else some (r1.tmod (a0.1.length : Int)))))
def S122 (k : Nat) : CSpec := { params := [U6, .str], res := [((.int .i64), false)], fresh := true, sem := fun x => F122 k x.1 x.2.1 }
theorem e122 : (fun k => evFn ((T (fun _ _ => ⟨[], [], [], false⟩) k).cx [(156, S156 k)]) 5 Tryz.f122 (S122 0).params (S122 0).res true) = fun k => (S122 k).sem := by kernel_rfl
theorem ok122 {G : World → Prop} (hG : Lasts G) (k : Nat) : (S122 k).ok Tryz.prog G 122 := fn_ok (T_ok (fun _ _ => ⟨[], [], [], false⟩) k) hG (calls := [(156, S156 k)]) ⟨ok156 hG k, trivial⟩ 5 rfl (S122 k) (congrFun e122 k)

/-- loop.example/g01402/impl.CacheOk -/
def F60 (k : Nat) (a0 : D6) : Option (Bool) :=
  ((F86 k (a0.1.length : Int) (1 : Int) (4 : Int)).bind fun r1 => (bif (!r1) then some false else (iter (σ := Int × Unit) (fun rec12 x11 => (bif (decide (x11.1 < (a0.1.length : Int))) then (bif (decide (0 ≤ x11.1 ∧ x11.1 < (a0.1.length : Int))) then ((F51 k (a0.1.getD x11.1.toNat Z4)).bind fun r13 => (bif (!r13) then some false else (iter (σ := Int × Unit) (fun rec18 x17 => (bif (decide (x17.1 < ((a0.1.getD x11.1.toNat Z4).2.2.1.length : Int))) then (bif (decide (0 ≤ x17.1 ∧ x17.1 < ((a0.1.getD x11.1.toNat Z4).2.2.1.length : Int))) then ((F122 k a0 ((a0.1.getD x11.1.toNat Z4).2.2.1.getD x17.1.toNat Z3).1.1).bind fun r19 => (bif (!decide (r19 = x11.1)) then (bif (decide ((0 : Int) ≤ x17.1)) then some false else (rec12 ((wrap64 (x11.1 + (1 : Int))), ()))) else (rec18 ((wrap64 (x17.1 + (1 : Int))), ())))) else none) else (bif (decide ((0 : Int) ≤ (-1 : Int))) then some false else (rec12 ((wrap64 (x11.1 + (1 : Int))), ()))))) k ((0 : Int), ())))) else none) else (iter (σ := Int × Unit) (fun rec25 x24 => (bif (decide (x24.1 < (a0.2.length : Int))) then (bif (decide (0 ≤ x24.1 ∧ x24.1 < (a0.2.length : Int))) then ((F97 k (a0.2.getD x24.1.toNat Z5).1).bind fun r26 => (bif (!r26) then some false else ((F86 k (a0.2.getD x24.1.toNat Z5).2 (1 : Int) (1000000 : Int)).bind fun r27 => (bif (!r27) then some false else (bif (decide ((0 : Int) < x24.1)) then (bif (decide (0 ≤ (wrap64 (x24.1 - (1 : Int))) ∧ (wrap64 (x24.1 - (1 : Int))) < (a0.2.length : Int))) then (bif (!lessText (a0.2.getD (wrap64 (x24.1 - (1 : Int))).toNat Z5).1 (a0.2.getD x24.1.toNat Z5).1) then some false else (rec25 ((wrap64 (x24.1 + (1 : Int))), ()))) else none) else (rec25 ((wrap64 (x24.1 + (1 : Int))), ()))))))) else none) else some true)) k ((0 : Int), ())))) k ((0 : Int), ()))))
def S60 (k : Nat) : CSpec := { params := [U6], res := [(.bool, false)], fresh := true, sem := fun x => F60 k x.1 }
theorem e60 : (fun k => evFn ((T (kp [(([], 4), ⟨[15], [], [], false⟩), (([], 10), ⟨[33], [], [], false⟩), (([7, 27], 2), ⟨[8], [], [], false⟩)]) k).cx [(51, S51 k), (86, S86 k), (97, S97 k), (122, S122 k)]) 5 Tryz.f60 (S60 0).params (S60 0).res true) = fun k => (S60 k).sem := by kernel_rfl
theorem ok60 {G : World → Prop} (hG : Lasts G) (k : Nat) : (S60 k).ok Tryz.prog G 60 := fn_ok (T_ok (kp [(([], 4), ⟨[15], [], [], false⟩), (([], 10), ⟨[33], [], [], false⟩), (([7, 27], 2), ⟨[8], [], [], false⟩)]) k) hG (calls := [(51, S51 k), (86, S86 k), (97, S97 k), (122, S122 k)]) ⟨ok51 hG k, ok86 hG k, ok97 hG k, ok122 hG k, trivial⟩ 5 rfl (S60 k) (congrFun e60 k)

/-- loop.example/g01402/impl.shardText -/
def F61 (k : Nat) (a0 : D4) : Option (ByteArray) :=
  ((F43 k a0.1).bind fun r1 => ((F43 k a0.2.1).bind fun r2 => ((F43 k a0.2.2.2).bind fun r3 => ((F43 k (a0.2.2.1.length : Int)).bind fun r4 => (iter (σ := Int × List ByteArray × Unit) (fun rec14 x13 => (bif (decide (x13.1 < (a0.2.2.1.length : Int))) then (bif (decide (0 ≤ x13.1 ∧ x13.1 < (a0.2.2.1.length : Int))) then (bif (a0.2.2.1.getD x13.1.toNat Z3).2 then ((F43 k (1 : Int)).bind fun r15 => ((F11 k (a0.2.2.1.getD x13.1.toNat Z3).1).bind fun r16 => ((F42 k r16).bind fun r17 => (bif (decide (x13.2.1.length + ([r15, r17] : List ByteArray).length < most)) then (rec14 ((wrap64 (x13.1 + (1 : Int))), (x13.2.1 ++ ([r15, r17] : List ByteArray)), ())) else none)))) else ((F43 k (0 : Int)).bind fun r18 => ((F11 k (a0.2.2.1.getD x13.1.toNat Z3).1).bind fun r19 => ((F42 k r19).bind fun r20 => (bif (decide (x13.2.1.length + ([r18, r20] : List ByteArray).length < most)) then (rec14 ((wrap64 (x13.1 + (1 : Int))), (x13.2.1 ++ ([r18, r20] : List ByteArray)), ())) else none))))) else none) else ((semJoin x13.2.1 (ByteArray.mk #[])).bind fun r21 => some r21))) k ((0 : Int), ([r1, r2, r3, r4] : List ByteArray), ()))))))
def S61 (k : Nat) : CSpec := { params := [U4], res := [(.str, false)], fresh := true, sem := fun x => F61 k x.1 }
theorem e61 : (fun k => evFn ((T (fun _ _ => ⟨[3, 24], [], [1], false⟩) k).cx [(11, S11 k), (42, S42 k), (43, S43 k), (53, S53 k)]) 5 Tryz.f61 (S61 0).params (S61 0).res true) = fun k => (S61 k).sem := by kernel_rfl
theorem ok61 {G : World → Prop} (hG : GoodW Tryz.prog G) (k : Nat) : (S61 k).ok Tryz.prog G 61 := fn_ok (T_ok (fun _ _ => ⟨[3, 24], [], [1], false⟩) k) hG.lasts (calls := [(11, S11 k), (42, S42 k), (43, S43 k), (53, S53 k)]) ⟨ok11 hG k, ok42 hG.lasts k, ok43 hG.lasts k, ok53 hG.lasts k, trivial⟩ 5 rfl (S61 k) (congrFun e61 k)

/-- loop.example/g01402/impl.ShowCache -/
def F21 (k : Nat) (a0 : D6) : Option (ByteArray) :=
  ((F60 k a0).bind fun r1 => (bif (!r1) then some (ByteArray.mk #[]) else ((F43 k (a0.1.length : Int)).bind fun r2 => (iter (σ := Int × List ByteArray × Unit) (fun rec7 x6 => (bif (decide (x6.1 < (a0.1.length : Int))) then (bif (decide (0 ≤ x6.1 ∧ x6.1 < (a0.1.length : Int))) then ((F61 k (a0.1.getD x6.1.toNat Z4)).bind fun r8 => (bif (decide (x6.2.1.length + ([r8] : List ByteArray).length < most)) then (rec7 ((wrap64 (x6.1 + (1 : Int))), (x6.2.1 ++ ([r8] : List ByteArray)), ())) else none)) else none) else ((F43 k (a0.2.length : Int)).bind fun r9 => (bif (decide (x6.2.1.length + ([r9] : List ByteArray).length < most)) then (iter (σ := Int × List ByteArray × Unit) (fun rec15 x14 => (bif (decide (x14.1 < (a0.2.length : Int))) then (bif (decide (0 ≤ x14.1 ∧ x14.1 < (a0.2.length : Int))) then ((F42 k (a0.2.getD x14.1.toNat Z5).1).bind fun r16 => ((F43 k (a0.2.getD x14.1.toNat Z5).2).bind fun r17 => (bif (decide (x14.2.1.length + ([r16, r17] : List ByteArray).length < most)) then (rec15 ((wrap64 (x14.1 + (1 : Int))), (x14.2.1 ++ ([r16, r17] : List ByteArray)), ())) else none))) else none) else ((semJoin x14.2.1 (ByteArray.mk #[])).bind fun r18 => (bif (decide ((20000 : Int) < (r18.size : Int))) then some (ByteArray.mk #[]) else some r18)))) k ((0 : Int), (x6.2.1 ++ ([r9] : List ByteArray)), ())) else none)))) k ((0 : Int), ([r2] : List ByteArray), ())))))
def S21 (k : Nat) : CSpec := { params := [U6], res := [(.str, false)], fresh := true, sem := fun x => F21 k x.1 }
theorem e21 : (fun k => evFn ((T (kp [(([], 5), ⟨[3, 20], [], [1], false⟩), (([], 11), ⟨[3, 40], [], [1], false⟩)]) k).cx [(42, S42 k), (43, S43 k), (53, S53 k), (60, S60 k), (61, S61 k)]) 5 Tryz.f21 (S21 0).params (S21 0).res true) = fun k => (S21 k).sem := by kernel_rfl
theorem ok21 {G : World → Prop} (hG : GoodW Tryz.prog G) (k : Nat) : (S21 k).ok Tryz.prog G 21 := fn_ok (T_ok (kp [(([], 5), ⟨[3, 20], [], [1], false⟩), (([], 11), ⟨[3, 40], [], [1], false⟩)]) k) hG.lasts (calls := [(42, S42 k), (43, S43 k), (53, S53 k), (60, S60 k), (61, S61 k)]) ⟨ok42 hG.lasts k, ok43 hG.lasts k, ok53 hG.lasts k, ok60 hG.lasts k, ok61 hG k, trivial⟩ 5 rfl (S21 k) (congrFun e21 k)

/-- loop.example/g01402/laws.eqShardS -/
def F62 (k : Nat) (a0 : List D4) (a1 : List D4) : Option (Bool) :=
  (bif (!decide ((a0.length : Int) = (a1.length : Int))) then some false else (iter (σ := Int × Unit) (fun rec5 x4 => (bif (decide (x4.1 < (a0.length : Int))) then (bif (decide (0 ≤ x4.1 ∧ x4.1 < (a0.length : Int))) then (bif (decide (0 ≤ x4.1 ∧ x4.1 < (a1.length : Int))) then ((F17 k (a0.getD x4.1.toNat Z4) (a1.getD x4.1.toNat Z4)).bind fun r6 => (bif (!r6) then some false else (rec5 ((wrap64 (x4.1 + (1 : Int))), ())))) else none) else none) else some true)) k ((0 : Int), ())))
def S62 (k : Nat) : CSpec := { params := [(.slice U4), (.slice U4)], res := [(.bool, false)], fresh := true, sem := fun x => F62 k x.1 x.2.1 }
theorem e62 : (fun k => evFn ((T (fun _ _ => ⟨[5], [], [], false⟩) k).cx [(17, S17 k)]) 5 Tryz.f62 (S62 0).params (S62 0).res true) = fun k => (S62 k).sem := by kernel_rfl
theorem ok62 {G : World → Prop} (hG : Lasts G) (k : Nat) : (S62 k).ok Tryz.prog G 62 := fn_ok (T_ok (fun _ _ => ⟨[5], [], [], false⟩) k) hG (calls := [(17, S17 k)]) ⟨ok17 hG k, trivial⟩ 5 rfl (S62 k) (congrFun e62 k)

/-- loop.example/g01402/laws.eqGenRow -/
def F123 (k : Nat) (a0 : D5) (a1 : D5) : Option (Bool) :=
  (bif (!decide (a0.1 = a1.1)) then some false else (bif (!decide (a0.2 = a1.2)) then some false else some true))
def S123 (k : Nat) : CSpec := { params := [U5, U5], res := [(.bool, false)], fresh := true, sem := fun x => F123 k x.1 x.2.1 }
theorem e123 : (fun k => evFn ((T (fun _ _ => ⟨[], [], [], false⟩) k).cx []) 5 Tryz.f123 (S123 0).params (S123 0).res true) = fun k => (S123 k).sem := by kernel_rfl
theorem ok123 {G : World → Prop} (hG : Lasts G) (k : Nat) : (S123 k).ok Tryz.prog G 123 := fn_ok (T_ok (fun _ _ => ⟨[], [], [], false⟩) k) hG (calls := []) trivial 5 rfl (S123 k) (congrFun e123 k)

/-- loop.example/g01402/laws.eqGenRowS -/
def F63 (k : Nat) (a0 : List D5) (a1 : List D5) : Option (Bool) :=
  (bif (!decide ((a0.length : Int) = (a1.length : Int))) then some false else (iter (σ := Int × Unit) (fun rec5 x4 => (bif (decide (x4.1 < (a0.length : Int))) then (bif (decide (0 ≤ x4.1 ∧ x4.1 < (a0.length : Int))) then (bif (decide (0 ≤ x4.1 ∧ x4.1 < (a1.length : Int))) then ((F123 k (a0.getD x4.1.toNat Z5) (a1.getD x4.1.toNat Z5)).bind fun r6 => (bif (!r6) then some false else (rec5 ((wrap64 (x4.1 + (1 : Int))), ())))) else none) else none) else some true)) k ((0 : Int), ())))
def S63 (k : Nat) : CSpec := { params := [(.slice U5), (.slice U5)], res := [(.bool, false)], fresh := true, sem := fun x => F63 k x.1 x.2.1 }
theorem e63 : (fun k => evFn ((T (fun _ _ => ⟨[5], [], [], false⟩) k).cx [(123, S123 k)]) 5 Tryz.f63 (S63 0).params (S63 0).res true) = fun k => (S63 k).sem := by kernel_rfl
theorem ok63 {G : World → Prop} (hG : Lasts G) (k : Nat) : (S63 k).ok Tryz.prog G 63 := fn_ok (T_ok (fun _ _ => ⟨[5], [], [], false⟩) k) hG (calls := [(123, S123 k)]) ⟨ok123 hG k, trivial⟩ 5 rfl (S63 k) (congrFun e63 k)

/-- loop.example/g01402/laws.eqCache -/
def F22 (k : Nat) (a0 : D6) (a1 : D6) : Option (Bool) :=
  ((F62 k a0.1 a1.1).bind fun r1 => (bif (!r1) then some false else ((F63 k a0.2 a1.2).bind fun r2 => (bif (!r2) then some false else some true))))
def S22 (k : Nat) : CSpec := { params := [U6, U6], res := [(.bool, false)], fresh := true, sem := fun x => F22 k x.1 x.2.1 }
theorem e22 : (fun k => evFn ((T (fun _ _ => ⟨[], [], [], false⟩) k).cx [(62, S62 k), (63, S63 k)]) 5 Tryz.f22 (S22 0).params (S22 0).res true) = fun k => (S22 k).sem := by kernel_rfl
theorem ok22 {G : World → Prop} (hG : Lasts G) (k : Nat) : (S22 k).ok Tryz.prog G 22 := fn_ok (T_ok (fun _ _ => ⟨[], [], [], false⟩) k) hG (calls := [(62, S62 k), (63, S63 k)]) ⟨ok62 hG k, ok63 hG k, trivial⟩ 5 rfl (S22 k) (congrFun e22 k)

/-- loop.example/g01402/laws.FnExactShowCache -/
def F5 (k : Nat) (a0 : D6) : Option (Bool) :=
  ((F18 k a0 (1048576 : Int)).bind fun r1 => (bif (decide (r1 < (0 : Int))) then some true else ((F20 k a0).bind fun r2 => ((F19 k r2).bind fun r3 => ((F20 k a0).bind fun r4 => ((F21 k r4).bind fun r5 => (bif (!decide (r5 = r3)) then some false else ((F20 k a0).bind fun r6 => ((F22 k r4 r6).bind fun r7 => (bif (!r7) then some false else some true))))))))))
def S5 (k : Nat) : CSpec := { params := [U6], res := [(.bool, false)], fresh := true, sem := fun x => F5 k x.1 }
theorem e5 : (fun k => evFn ((T (fun _ _ => ⟨[], [], [], false⟩) k).cx [(18, S18 k), (19, S19 k), (20, S20 k), (21, S21 k), (22, S22 k)]) 5 Tryz.f5 (S5 0).params (S5 0).res true) = fun k => (S5 k).sem := by kernel_rfl
theorem ok5 {G : World → Prop} (hG : GoodW Tryz.prog G) (k : Nat) : (S5 k).ok Tryz.prog G 5 := fn_ok (T_ok (fun _ _ => ⟨[], [], [], false⟩) k) hG.lasts (calls := [(18, S18 k), (19, S19 k), (20, S20 k), (21, S21 k), (22, S22 k)]) ⟨ok18 hG.lasts k, ok19 hG.lasts k, ok20 hG.lasts k, ok21 hG k, ok22 hG.lasts k, trivial⟩ 5 rfl (S5 k) (congrFun e5 k)

/-- loop.example/g01402/laws.szRequest -/
def F24 (k : Nat) (a0 : D7) (a1 : Int) : Option (Int) :=
  (bif (decide ((wrap64 (a1 - (a0.1.size : Int))) < (0 : Int))) then some (-1 : Int) else (bif (decide ((wrap64 ((wrap64 (a1 - (a0.1.size : Int))) - (a0.2.1.size : Int))) < (0 : Int))) then some (-1 : Int) else ((F33 k a0.2.2.1 (wrap64 ((wrap64 (a1 - (a0.1.size : Int))) - (a0.2.1.size : Int)))).bind fun r1 => (bif (decide (r1 < (0 : Int))) then some (-1 : Int) else (bif (decide ((wrap64 (r1 - (a0.2.2.2.size : Int))) < (0 : Int))) then some (-1 : Int) else some (wrap64 (r1 - (a0.2.2.2.size : Int))))))))
def S24 (k : Nat) : CSpec := { params := [U7, (.int .i64)], res := [((.int .i64), false)], fresh := true, sem := fun x => F24 k x.1 x.2.1 }
theorem e24 : (fun k => evFn ((T (fun _ _ => ⟨[], [], [], false⟩) k).cx [(33, S33 k)]) 5 Tryz.f24 (S24 0).params (S24 0).res true) = fun k => (S24 k).sem := by kernel_rfl
theorem ok24 {G : World → Prop} (hG : Lasts G) (k : Nat) : (S24 k).ok Tryz.prog G 24 := fn_ok (T_ok (fun _ _ => ⟨[], [], [], false⟩) k) hG (calls := [(33, S33 k)]) ⟨ok33 hG k, trivial⟩ 5 rfl (S24 k) (congrFun e24 k)

/-- loop.example/g01402/laws.szTold -/
def F179 (k : Nat) (a0 : D8) (a1 : Int) : Option (Int) :=
  ((F34 k a0.2 a1).bind fun r1 => (bif (decide (r1 < (0 : Int))) then some (-1 : Int) else some r1))
def S179 (k : Nat) : CSpec := { params := [U8, (.int .i64)], res := [((.int .i64), false)], fresh := true, sem := fun x => F179 k x.1 x.2.1 }
theorem e179 : (fun k => evFn ((T (fun _ _ => ⟨[], [], [], false⟩) k).cx [(34, S34 k)]) 5 Tryz.f179 (S179 0).params (S179 0).res true) = fun k => (S179 k).sem := by kernel_rfl
theorem ok179 {G : World → Prop} (hG : Lasts G) (k : Nat) : (S179 k).ok Tryz.prog G 179 := fn_ok (T_ok (fun _ _ => ⟨[], [], [], false⟩) k) hG (calls := [(34, S34 k)]) ⟨ok34 hG k, trivial⟩ 5 rfl (S179 k) (congrFun e179 k)

/-- loop.example/g01402/laws.szToldS -/
def F157 (k : Nat) (a0 : List D8) (a1 : Int) : Option (Int) :=
  (bif (decide ((wrap64 (a1 - (a0.length : Int))) < (0 : Int))) then some (-1 : Int) else (iter (σ := Int × Int × Unit) (fun rec5 x4 => (bif (decide (x4.2.1 < (a0.length : Int))) then (bif (decide (0 ≤ x4.2.1 ∧ x4.2.1 < (a0.length : Int))) then ((F179 k (a0.getD x4.2.1.toNat Z8) x4.1).bind fun r6 => (bif (decide (r6 < (0 : Int))) then some (-1 : Int) else (rec5 (r6, (wrap64 (x4.2.1 + (1 : Int))), ())))) else none) else some x4.1)) k ((wrap64 (a1 - (a0.length : Int))), (0 : Int), ())))
def S157 (k : Nat) : CSpec := { params := [(.slice U8), (.int .i64)], res := [((.int .i64), false)], fresh := true, sem := fun x => F157 k x.1 x.2.1 }
theorem e157 : (fun k => evFn ((T (fun _ _ => ⟨[1, 5], [], [], false⟩) k).cx [(179, S179 k)]) 5 Tryz.f157 (S157 0).params (S157 0).res true) = fun k => (S157 k).sem := by kernel_rfl
theorem ok157 {G : World → Prop} (hG : Lasts G) (k : Nat) : (S157 k).ok Tryz.prog G 157 := fn_ok (T_ok (fun _ _ => ⟨[1, 5], [], [], false⟩) k) hG (calls := [(179, S179 k)]) ⟨ok179 hG k, trivial⟩ 5 rfl (S157 k) (congrFun e157 k)

/-- loop.example/g01402/laws.szConn -/
def F124 (k : Nat) (a0 : D9) (a1 : Int) : Option (Int) :=
  (bif (decide ((wrap64 (a1 - (a0.2.1.size : Int))) < (0 : Int))) then some (-1 : Int) else ((F24 k a0.2.2.2.1 (wrap64 (a1 - (a0.2.1.size : Int)))).bind fun r1 => (bif (decide (r1 < (0 : Int))) then some (-1 : Int) else ((F24 k a0.2.2.2.2.1 r1).bind fun r2 => (bif (decide (r2 < (0 : Int))) then some (-1 : Int) else ((F8 k a0.2.2.2.2.2.1 r2).bind fun r3 => (bif (decide (r3 < (0 : Int))) then some (-1 : Int) else ((F34 k a0.2.2.2.2.2.2.2.2.2.2.2.2.1 r3).bind fun r4 => (bif (decide (r4 < (0 : Int))) then some (-1 : Int) else ((F157 k a0.2.2.2.2.2.2.2.2.2.2.2.2.2 r4).bind fun r5 => (bif (decide (r5 < (0 : Int))) then some (-1 : Int) else some r5)))))))))))
def S124 (k : Nat) : CSpec := { params := [U9, (.int .i64)], res := [((.int .i64), false)], fresh := true, sem := fun x => F124 k x.1 x.2.1 }
theorem e124 : (fun k => evFn ((T (fun _ _ => ⟨[], [], [], false⟩) k).cx [(8, S8 k), (24, S24 k), (34, S34 k), (157, S157 k)]) 5 Tryz.f124 (S124 0).params (S124 0).res true) = fun k => (S124 k).sem := by kernel_rfl
theorem ok124 {G : World → Prop} (hG : Lasts G) (k : Nat) : (S124 k).ok Tryz.prog G 124 := fn_ok (T_ok (fun _ _ => ⟨[], [], [], false⟩) k) hG (calls := [(8, S8 k), (24, S24 k), (34, S34 k), (157, S157 k)]) ⟨ok8 hG k, ok24 hG k, ok34 hG k, ok157 hG k, trivial⟩ 5 rfl (S124 k) (congrFun e124 k)

/-- loop.example/g01402/laws.szConnS -/
def F64 (k : Nat) (a0 : List D9) (a1 : Int) : Option (Int) :=
  (bif (decide ((wrap64 (a1 - (a0.length : Int))) < (0 : Int))) then some (-1 : Int) else (iter (σ := Int × Int × Unit) (fun rec5 x4 => (bif (decide (x4.2.1 < (a0.length : Int))) then (bif (decide (0 ≤ x4.2.1 ∧ x4.2.1 < (a0.length : Int))) then ((F124 k (a0.getD x4.2.1.toNat Z9) x4.1).bind fun r6 => (bif (decide (r6 < (0 : Int))) then some (-1 : Int) else (rec5 (r6, (wrap64 (x4.2.1 + (1 : Int))), ())))) else none) else some x4.1)) k ((wrap64 (a1 - (a0.length : Int))), (0 : Int), ())))
def S64 (k : Nat) : CSpec := { params := [(.slice U9), (.int .i64)], res := [((.int .i64), false)], fresh := true, sem := fun x => F64 k x.1 x.2.1 }
theorem e64 : (fun k => evFn ((T (fun _ _ => ⟨[1, 5], [], [], false⟩) k).cx [(124, S124 k)]) 5 Tryz.f64 (S64 0).params (S64 0).res true) = fun k => (S64 k).sem := by kernel_rfl
theorem ok64 {G : World → Prop} (hG : Lasts G) (k : Nat) : (S64 k).ok Tryz.prog G 64 := fn_ok (T_ok (fun _ _ => ⟨[1, 5], [], [], false⟩) k) hG (calls := [(124, S124 k)]) ⟨ok124 hG k, trivial⟩ 5 rfl (S64 k) (congrFun e64 k)

/-- loop.example/g01402/laws.szFlight -/
def F125 (k : Nat) (a0 : D10) (a1 : Int) : Option (Int) :=
  (bif (decide ((wrap64 (a1 - (a0.1.size : Int))) < (0 : Int))) then some (-1 : Int) else ((F24 k a0.2.2.2.2.2.1 (wrap64 (a1 - (a0.1.size : Int)))).bind fun r1 => (bif (decide (r1 < (0 : Int))) then some (-1 : Int) else ((F34 k a0.2.2.2.2.2.2.1 r1).bind fun r2 => (bif (decide (r2 < (0 : Int))) then some (-1 : Int) else some r2)))))
def S125 (k : Nat) : CSpec := { params := [U10, (.int .i64)], res := [((.int .i64), false)], fresh := true, sem := fun x => F125 k x.1 x.2.1 }
theorem e125 : (fun k => evFn ((T (fun _ _ => ⟨[], [], [], false⟩) k).cx [(24, S24 k), (34, S34 k)]) 5 Tryz.f125 (S125 0).params (S125 0).res true) = fun k => (S125 k).sem := by kernel_rfl
theorem ok125 {G : World → Prop} (hG : Lasts G) (k : Nat) : (S125 k).ok Tryz.prog G 125 := fn_ok (T_ok (fun _ _ => ⟨[], [], [], false⟩) k) hG (calls := [(24, S24 k), (34, S34 k)]) ⟨ok24 hG k, ok34 hG k, trivial⟩ 5 rfl (S125 k) (congrFun e125 k)

/-- loop.example/g01402/laws.szFlightS -/
def F65 (k : Nat) (a0 : List D10) (a1 : Int) : Option (Int) :=
  (bif (decide ((wrap64 (a1 - (a0.length : Int))) < (0 : Int))) then some (-1 : Int) else (iter (σ := Int × Int × Unit) (fun rec5 x4 => (bif (decide (x4.2.1 < (a0.length : Int))) then (bif (decide (0 ≤ x4.2.1 ∧ x4.2.1 < (a0.length : Int))) then ((F125 k (a0.getD x4.2.1.toNat Z10) x4.1).bind fun r6 => (bif (decide (r6 < (0 : Int))) then some (-1 : Int) else (rec5 (r6, (wrap64 (x4.2.1 + (1 : Int))), ())))) else none) else some x4.1)) k ((wrap64 (a1 - (a0.length : Int))), (0 : Int), ())))
def S65 (k : Nat) : CSpec := { params := [(.slice U10), (.int .i64)], res := [((.int .i64), false)], fresh := true, sem := fun x => F65 k x.1 x.2.1 }
theorem e65 : (fun k => evFn ((T (fun _ _ => ⟨[1, 5], [], [], false⟩) k).cx [(125, S125 k)]) 5 Tryz.f65 (S65 0).params (S65 0).res true) = fun k => (S65 k).sem := by kernel_rfl
theorem ok65 {G : World → Prop} (hG : Lasts G) (k : Nat) : (S65 k).ok Tryz.prog G 65 := fn_ok (T_ok (fun _ _ => ⟨[1, 5], [], [], false⟩) k) hG (calls := [(125, S125 k)]) ⟨ok125 hG k, trivial⟩ 5 rfl (S65 k) (congrFun e65 k)

/-- loop.example/g01402/laws.szRes -/
def F158 (k : Nat) (a0 : D11) (a1 : Int) : Option (Int) :=
  (bif (decide ((wrap64 (a1 - (a0.1.size : Int))) < (0 : Int))) then some (-1 : Int) else (bif (decide ((wrap64 ((wrap64 (a1 - (a0.1.size : Int))) - (a0.2.1.size : Int))) < (0 : Int))) then some (-1 : Int) else ((F33 k a0.2.2.2.2.2.2 (wrap64 ((wrap64 (a1 - (a0.1.size : Int))) - (a0.2.1.size : Int)))).bind fun r1 => (bif (decide (r1 < (0 : Int))) then some (-1 : Int) else some r1))))
def S158 (k : Nat) : CSpec := { params := [U11, (.int .i64)], res := [((.int .i64), false)], fresh := true, sem := fun x => F158 k x.1 x.2.1 }
theorem e158 : (fun k => evFn ((T (fun _ _ => ⟨[], [], [], false⟩) k).cx [(33, S33 k)]) 5 Tryz.f158 (S158 0).params (S158 0).res true) = fun k => (S158 k).sem := by kernel_rfl
theorem ok158 {G : World → Prop} (hG : Lasts G) (k : Nat) : (S158 k).ok Tryz.prog G 158 := fn_ok (T_ok (fun _ _ => ⟨[], [], [], false⟩) k) hG (calls := [(33, S33 k)]) ⟨ok33 hG k, trivial⟩ 5 rfl (S158 k) (congrFun e158 k)

/-- loop.example/g01402/laws.szResS -/
def F126 (k : Nat) (a0 : List D11) (a1 : Int) : Option (Int) :=
  (bif (decide ((wrap64 (a1 - (a0.length : Int))) < (0 : Int))) then some (-1 : Int) else (iter (σ := Int × Int × Unit) (fun rec5 x4 => (bif (decide (x4.2.1 < (a0.length : Int))) then (bif (decide (0 ≤ x4.2.1 ∧ x4.2.1 < (a0.length : Int))) then ((F158 k (a0.getD x4.2.1.toNat Z11) x4.1).bind fun r6 => (bif (decide (r6 < (0 : Int))) then some (-1 : Int) else (rec5 (r6, (wrap64 (x4.2.1 + (1 : Int))), ())))) else none) else some x4.1)) k ((wrap64 (a1 - (a0.length : Int))), (0 : Int), ())))
def S126 (k : Nat) : CSpec := { params := [(.slice U11), (.int .i64)], res := [((.int .i64), false)], fresh := true, sem := fun x => F126 k x.1 x.2.1 }
theorem e126 : (fun k => evFn ((T (fun _ _ => ⟨[1, 5], [], [], false⟩) k).cx [(158, S158 k)]) 5 Tryz.f126 (S126 0).params (S126 0).res true) = fun k => (S126 k).sem := by kernel_rfl
theorem ok126 {G : World → Prop} (hG : Lasts G) (k : Nat) : (S126 k).ok Tryz.prog G 126 := fn_ok (T_ok (fun _ _ => ⟨[1, 5], [], [], false⟩) k) hG (calls := [(158, S158 k)]) ⟨ok158 hG k, trivial⟩ 5 rfl (S126 k) (congrFun e126 k)

/-- loop.example/g01402/laws.szOrigin -/
def F66 (k : Nat) (a0 : D12) (a1 : Int) : Option (Int) :=
  ((F126 k a0 a1).bind fun r1 => (bif (decide (r1 < (0 : Int))) then some (-1 : Int) else some r1))
def S66 (k : Nat) : CSpec := { params := [U12, (.int .i64)], res := [((.int .i64), false)], fresh := true, sem := fun x => F66 k x.1 x.2.1 }
theorem e66 : (fun k => evFn ((T (fun _ _ => ⟨[], [], [], false⟩) k).cx [(126, S126 k)]) 5 Tryz.f66 (S66 0).params (S66 0).res true) = fun k => (S66 k).sem := by kernel_rfl
theorem ok66 {G : World → Prop} (hG : Lasts G) (k : Nat) : (S66 k).ok Tryz.prog G 66 := fn_ok (T_ok (fun _ _ => ⟨[], [], [], false⟩) k) hG (calls := [(126, S126 k)]) ⟨ok126 hG k, trivial⟩ 5 rfl (S66 k) (congrFun e66 k)

/-- loop.example/g01402/laws.szEvent -/
def F127 (k : Nat) (a0 : D13) (a1 : Int) : Option (Int) :=
  (bif (decide ((wrap64 (a1 - (a0.2.2.2.1.size : Int))) < (0 : Int))) then some (-1 : Int) else some (wrap64 (a1 - (a0.2.2.2.1.size : Int))))
def S127 (k : Nat) : CSpec := { params := [U13, (.int .i64)], res := [((.int .i64), false)], fresh := true, sem := fun x => F127 k x.1 x.2.1 }
theorem e127 : (fun k => evFn ((T (fun _ _ => ⟨[], [], [], false⟩) k).cx []) 5 Tryz.f127 (S127 0).params (S127 0).res true) = fun k => (S127 k).sem := by kernel_rfl
theorem ok127 {G : World → Prop} (hG : Lasts G) (k : Nat) : (S127 k).ok Tryz.prog G 127 := fn_ok (T_ok (fun _ _ => ⟨[], [], [], false⟩) k) hG (calls := []) trivial 5 rfl (S127 k) (congrFun e127 k)

/-- loop.example/g01402/laws.szEventS -/
def F67 (k : Nat) (a0 : List D13) (a1 : Int) : Option (Int) :=
  (bif (decide ((wrap64 (a1 - (a0.length : Int))) < (0 : Int))) then some (-1 : Int) else (iter (σ := Int × Int × Unit) (fun rec5 x4 => (bif (decide (x4.2.1 < (a0.length : Int))) then (bif (decide (0 ≤ x4.2.1 ∧ x4.2.1 < (a0.length : Int))) then ((F127 k (a0.getD x4.2.1.toNat Z13) x4.1).bind fun r6 => (bif (decide (r6 < (0 : Int))) then some (-1 : Int) else (rec5 (r6, (wrap64 (x4.2.1 + (1 : Int))), ())))) else none) else some x4.1)) k ((wrap64 (a1 - (a0.length : Int))), (0 : Int), ())))
def S67 (k : Nat) : CSpec := { params := [(.slice U13), (.int .i64)], res := [((.int .i64), false)], fresh := true, sem := fun x => F67 k x.1 x.2.1 }
theorem e67 : (fun k => evFn ((T (fun _ _ => ⟨[1, 5], [], [], false⟩) k).cx [(127, S127 k)]) 5 Tryz.f67 (S67 0).params (S67 0).res true) = fun k => (S67 k).sem := by kernel_rfl
theorem ok67 {G : World → Prop} (hG : Lasts G) (k : Nat) : (S67 k).ok Tryz.prog G 67 := fn_ok (T_ok (fun _ _ => ⟨[1, 5], [], [], false⟩) k) hG (calls := [(127, S127 k)]) ⟨ok127 hG k, trivial⟩ 5 rfl (S67 k) (congrFun e67 k)

/-- loop.example/g01402/laws.szWorld -/
def F23 (k : Nat) (a0 : D14) (a1 : Int) : Option (Int) :=
  ((F64 k a0.2.2.1 a1).bind fun r1 => (bif (decide (r1 < (0 : Int))) then some (-1 : Int) else ((F18 k a0.2.2.2.1 r1).bind fun r2 => (bif (decide (r2 < (0 : Int))) then some (-1 : Int) else ((F65 k a0.2.2.2.2.1 r2).bind fun r3 => (bif (decide (r3 < (0 : Int))) then some (-1 : Int) else ((F66 k a0.2.2.2.2.2.1 r3).bind fun r4 => (bif (decide (r4 < (0 : Int))) then some (-1 : Int) else ((F67 k a0.2.2.2.2.2.2 r4).bind fun r5 => (bif (decide (r5 < (0 : Int))) then some (-1 : Int) else some r5))))))))))
def S23 (k : Nat) : CSpec := { params := [U14, (.int .i64)], res := [((.int .i64), false)], fresh := true, sem := fun x => F23 k x.1 x.2.1 }
theorem e23 : (fun k => evFn ((T (fun _ _ => ⟨[], [], [], false⟩) k).cx [(18, S18 k), (64, S64 k), (65, S65 k), (66, S66 k), (67, S67 k)]) 5 Tryz.f23 (S23 0).params (S23 0).res true) = fun k => (S23 k).sem := by kernel_rfl
theorem ok23 {G : World → Prop} (hG : Lasts G) (k : Nat) : (S23 k).ok Tryz.prog G 23 := fn_ok (T_ok (fun _ _ => ⟨[], [], [], false⟩) k) hG (calls := [(18, S18 k), (64, S64 k), (65, S65 k), (66, S66 k), (67, S67 k)]) ⟨ok18 hG k, ok64 hG k, ok65 hG k, ok66 hG k, ok67 hG k, trivial⟩ 5 rfl (S23 k) (congrFun e23 k)

/-- loop.example/g01402/laws.toRequest -/
def F27 (k : Nat) (a0 : D7) : Option (D7) :=
  ((F39 k a0.2.2.1).bind fun r1 => some (a0.1, a0.2.1, r1, a0.2.2.2))
def S27 (k : Nat) : CSpec := { params := [U7], res := [(U7, false)], fresh := true, sem := fun x => F27 k x.1 }
theorem e27 : (fun k => evFn ((T (fun _ _ => ⟨[], [], [], false⟩) k).cx [(39, S39 k)]) 5 Tryz.f27 (S27 0).params (S27 0).res true) = fun k => (S27 k).sem := by kernel_rfl
theorem ok27 {G : World → Prop} (hG : Lasts G) (k : Nat) : (S27 k).ok Tryz.prog G 27 := fn_ok (T_ok (fun _ _ => ⟨[], [], [], false⟩) k) hG (calls := [(39, S39 k)]) ⟨ok39 hG k, trivial⟩ 5 rfl (S27 k) (congrFun e27 k)

/-- loop.example/g01402/laws.toTold -/
def F183 (k : Nat) (a0 : D8) : Option (D8) :=
  ((F40 k a0.2).bind fun r1 => some (a0.1, r1))
def S183 (k : Nat) : CSpec := { params := [U8], res := [(U8, true)], fresh := true, sem := fun x => F183 k x.1 }
theorem e183 : (fun k => evFn ((T (fun _ _ => ⟨[], [], [], false⟩) k).cx [(40, S40 k)]) 5 Tryz.f183 (S183 0).params (S183 0).res true) = fun k => (S183 k).sem := by kernel_rfl
theorem ok183 {G : World → Prop} (hG : Lasts G) (k : Nat) : (S183 k).ok Tryz.prog G 183 := fn_ok (T_ok (fun _ _ => ⟨[], [], [], false⟩) k) hG (calls := [(40, S40 k)]) ⟨ok40 hG k, trivial⟩ 5 rfl (S183 k) (congrFun e183 k)

/-- loop.example/g01402/laws.toToldS -/
def F160 (k : Nat) (a0 : List D8) : Option ((List D8)) :=
  (bif (decide (0 ≤ (a0.length : Int) ∧ (a0.length : Int) = (a0.length : Int) ∧ (a0.length : Int) < (most : Int))) then (iter (σ := Int × List D8 × Unit) (fun rec5 x4 => (bif (decide (x4.1 < (a0.length : Int))) then (bif (decide (0 ≤ x4.1 ∧ x4.1 < (a0.length : Int))) then ((F183 k (a0.getD x4.1.toNat Z8)).bind fun r6 => (bif (decide (0 ≤ x4.1 ∧ x4.1 < (x4.2.1.length : Int))) then (rec5 ((wrap64 (x4.1 + (1 : Int))), (x4.2.1.set x4.1.toNat r6), ())) else none)) else none) else some x4.2.1)) k ((0 : Int), (List.replicate (a0.length : Int).toNat Z8), ())) else none)
def S160 (k : Nat) : CSpec := { params := [(.slice U8)], res := [((.slice U8), true)], fresh := true, sem := fun x => F160 k x.1 }
theorem e160 : (fun k => evFn ((T (fun _ _ => ⟨[4], [1], [], false⟩) k).cx [(183, S183 k)]) 5 Tryz.f160 (S160 0).params (S160 0).res true) = fun k => (S160 k).sem := by kernel_rfl
theorem ok160 {G : World → Prop} (hG : Lasts G) (k : Nat) : (S160 k).ok Tryz.prog G 160 := fn_ok (T_ok (fun _ _ => ⟨[4], [1], [], false⟩) k) hG (calls := [(183, S183 k)]) ⟨ok183 hG k, trivial⟩ 5 rfl (S160 k) (congrFun e160 k)

/-- loop.example/g01402/laws.toConn -/
def F130 (k : Nat) (a0 : D9) : Option (D9) :=
  ((F27 k a0.2.2.2.1).bind fun r1 => ((F27 k a0.2.2.2.2.1).bind fun r2 => ((F10 k a0.2.2.2.2.2.1).bind fun r3 => ((F40 k a0.2.2.2.2.2.2.2.2.2.2.2.2.1).bind fun r4 => ((F160 k a0.2.2.2.2.2.2.2.2.2.2.2.2.2).bind fun r5 => some (a0.1, a0.2.1, a0.2.2.1, r1, r2, r3, a0.2.2.2.2.2.2.1, a0.2.2.2.2.2.2.2.1, a0.2.2.2.2.2.2.2.2.1, a0.2.2.2.2.2.2.2.2.2.1, a0.2.2.2.2.2.2.2.2.2.2.1, a0.2.2.2.2.2.2.2.2.2.2.2.1, r4, r5))))))
def S130 (k : Nat) : CSpec := { params := [U9], res := [(U9, false)], fresh := true, sem := fun x => F130 k x.1 }
theorem e130 : (fun k => evFn ((T (fun _ _ => ⟨[], [], [], false⟩) k).cx [(10, S10 k), (27, S27 k), (40, S40 k), (160, S160 k)]) 5 Tryz.f130 (S130 0).params (S130 0).res true) = fun k => (S130 k).sem := by kernel_rfl
theorem ok130 {G : World → Prop} (hG : Lasts G) (k : Nat) : (S130 k).ok Tryz.prog G 130 := fn_ok (T_ok (fun _ _ => ⟨[], [], [], false⟩) k) hG (calls := [(10, S10 k), (27, S27 k), (40, S40 k), (160, S160 k)]) ⟨ok10 hG k, ok27 hG k, ok40 hG k, ok160 hG k, trivial⟩ 5 rfl (S130 k) (congrFun e130 k)

/-- loop.example/g01402/laws.toConnS -/
def F70 (k : Nat) (a0 : List D9) : Option ((List D9)) :=
  (bif (decide (0 ≤ (a0.length : Int) ∧ (a0.length : Int) = (a0.length : Int) ∧ (a0.length : Int) < (most : Int))) then (iter (σ := Int × List D9 × Unit) (fun rec5 x4 => (bif (decide (x4.1 < (a0.length : Int))) then (bif (decide (0 ≤ x4.1 ∧ x4.1 < (a0.length : Int))) then ((F130 k (a0.getD x4.1.toNat Z9)).bind fun r6 => (bif (decide (0 ≤ x4.1 ∧ x4.1 < (x4.2.1.length : Int))) then (rec5 ((wrap64 (x4.1 + (1 : Int))), (x4.2.1.set x4.1.toNat r6), ())) else none)) else none) else some x4.2.1)) k ((0 : Int), (List.replicate (a0.length : Int).toNat Z9), ())) else none)
def S70 (k : Nat) : CSpec := { params := [(.slice U9)], res := [((.slice U9), true)], fresh := true, sem := fun x => F70 k x.1 }
theorem e70 : (fun k => evFn ((T (fun _ _ => ⟨[4], [1], [], false⟩) k).cx [(130, S130 k)]) 5 Tryz.f70 (S70 0).params (S70 0).res true) = fun k => (S70 k).sem := by kernel_rfl
theorem ok70 {G : World → Prop} (hG : Lasts G) (k : Nat) : (S70 k).ok Tryz.prog G 70 := fn_ok (T_ok (fun _ _ => ⟨[4], [1], [], false⟩) k) hG (calls := [(130, S130 k)]) ⟨ok130 hG k, trivial⟩ 5 rfl (S70 k) (congrFun e70 k)

/-- loop.example/g01402/laws.toFlight -/
def F131 (k : Nat) (a0 : D10) : Option (D10) :=
  ((F27 k a0.2.2.2.2.2.1).bind fun r1 => ((F40 k a0.2.2.2.2.2.2.1).bind fun r2 => some (a0.1, a0.2.1, a0.2.2.1, a0.2.2.2.1, a0.2.2.2.2.1, r1, r2, a0.2.2.2.2.2.2.2.1, a0.2.2.2.2.2.2.2.2)))
def S131 (k : Nat) : CSpec := { params := [U10], res := [(U10, false)], fresh := true, sem := fun x => F131 k x.1 }
theorem e131 : (fun k => evFn ((T (fun _ _ => ⟨[], [], [], false⟩) k).cx [(27, S27 k), (40, S40 k)]) 5 Tryz.f131 (S131 0).params (S131 0).res true) = fun k => (S131 k).sem := by kernel_rfl
theorem ok131 {G : World → Prop} (hG : Lasts G) (k : Nat) : (S131 k).ok Tryz.prog G 131 := fn_ok (T_ok (fun _ _ => ⟨[], [], [], false⟩) k) hG (calls := [(27, S27 k), (40, S40 k)]) ⟨ok27 hG k, ok40 hG k, trivial⟩ 5 rfl (S131 k) (congrFun e131 k)

/-- loop.example/g01402/laws.toFlightS -/
def F71 (k : Nat) (a0 : List D10) : Option ((List D10)) :=
  (bif (decide (0 ≤ (a0.length : Int) ∧ (a0.length : Int) = (a0.length : Int) ∧ (a0.length : Int) < (most : Int))) then (iter (σ := Int × List D10 × Unit) (fun rec5 x4 => (bif (decide (x4.1 < (a0.length : Int))) then (bif (decide (0 ≤ x4.1 ∧ x4.1 < (a0.length : Int))) then ((F131 k (a0.getD x4.1.toNat Z10)).bind fun r6 => (bif (decide (0 ≤ x4.1 ∧ x4.1 < (x4.2.1.length : Int))) then (rec5 ((wrap64 (x4.1 + (1 : Int))), (x4.2.1.set x4.1.toNat r6), ())) else none)) else none) else some x4.2.1)) k ((0 : Int), (List.replicate (a0.length : Int).toNat Z10), ())) else none)
def S71 (k : Nat) : CSpec := { params := [(.slice U10)], res := [((.slice U10), true)], fresh := true, sem := fun x => F71 k x.1 }
theorem e71 : (fun k => evFn ((T (fun _ _ => ⟨[4], [1], [], false⟩) k).cx [(131, S131 k)]) 5 Tryz.f71 (S71 0).params (S71 0).res true) = fun k => (S71 k).sem := by kernel_rfl
theorem ok71 {G : World → Prop} (hG : Lasts G) (k : Nat) : (S71 k).ok Tryz.prog G 71 := fn_ok (T_ok (fun _ _ => ⟨[4], [1], [], false⟩) k) hG (calls := [(131, S131 k)]) ⟨ok131 hG k, trivial⟩ 5 rfl (S71 k) (congrFun e71 k)

/-- loop.example/g01402/laws.toRes -/
def F161 (k : Nat) (a0 : D11) : Option (D11) :=
  ((F39 k a0.2.2.2.2.2.2).bind fun r1 => some (a0.1, a0.2.1, a0.2.2.1, a0.2.2.2.1, a0.2.2.2.2.1, a0.2.2.2.2.2.1, r1))
def S161 (k : Nat) : CSpec := { params := [U11], res := [(U11, true)], fresh := true, sem := fun x => F161 k x.1 }
theorem e161 : (fun k => evFn ((T (fun _ _ => ⟨[], [], [], false⟩) k).cx [(39, S39 k)]) 5 Tryz.f161 (S161 0).params (S161 0).res true) = fun k => (S161 k).sem := by kernel_rfl
theorem ok161 {G : World → Prop} (hG : Lasts G) (k : Nat) : (S161 k).ok Tryz.prog G 161 := fn_ok (T_ok (fun _ _ => ⟨[], [], [], false⟩) k) hG (calls := [(39, S39 k)]) ⟨ok39 hG k, trivial⟩ 5 rfl (S161 k) (congrFun e161 k)

/-- loop.example/g01402/laws.toResS -/
def F132 (k : Nat) (a0 : List D11) : Option ((List D11)) :=
  (bif (decide (0 ≤ (a0.length : Int) ∧ (a0.length : Int) = (a0.length : Int) ∧ (a0.length : Int) < (most : Int))) then (iter (σ := Int × List D11 × Unit) (fun rec5 x4 => (bif (decide (x4.1 < (a0.length : Int))) then (bif (decide (0 ≤ x4.1 ∧ x4.1 < (a0.length : Int))) then ((F161 k (a0.getD x4.1.toNat Z11)).bind fun r6 => (bif (decide (0 ≤ x4.1 ∧ x4.1 < (x4.2.1.length : Int))) then (rec5 ((wrap64 (x4.1 + (1 : Int))), (x4.2.1.set x4.1.toNat r6), ())) else none)) else none) else some x4.2.1)) k ((0 : Int), (List.replicate (a0.length : Int).toNat Z11), ())) else none)
def S132 (k : Nat) : CSpec := { params := [(.slice U11)], res := [((.slice U11), true)], fresh := true, sem := fun x => F132 k x.1 }
theorem e132 : (fun k => evFn ((T (fun _ _ => ⟨[4], [1], [], false⟩) k).cx [(161, S161 k)]) 5 Tryz.f132 (S132 0).params (S132 0).res true) = fun k => (S132 k).sem := by kernel_rfl
theorem ok132 {G : World → Prop} (hG : Lasts G) (k : Nat) : (S132 k).ok Tryz.prog G 132 := fn_ok (T_ok (fun _ _ => ⟨[4], [1], [], false⟩) k) hG (calls := [(161, S161 k)]) ⟨ok161 hG k, trivial⟩ 5 rfl (S132 k) (congrFun e132 k)

/-- loop.example/g01402/laws.toOrigin -/
def F72 (k : Nat) (a0 : D12) : Option (D12) :=
  ((F132 k a0).bind fun r1 => some r1)
def S72 (k : Nat) : CSpec := { params := [U12], res := [(U12, true)], fresh := true, sem := fun x => F72 k x.1 }
theorem e72 : (fun k => evFn ((T (fun _ _ => ⟨[], [], [], false⟩) k).cx [(132, S132 k)]) 5 Tryz.f72 (S72 0).params (S72 0).res true) = fun k => (S72 k).sem := by kernel_rfl
theorem ok72 {G : World → Prop} (hG : Lasts G) (k : Nat) : (S72 k).ok Tryz.prog G 72 := fn_ok (T_ok (fun _ _ => ⟨[], [], [], false⟩) k) hG (calls := [(132, S132 k)]) ⟨ok132 hG k, trivial⟩ 5 rfl (S72 k) (congrFun e72 k)

/-- loop.example/g01402/laws.toEvent -/
def F133 (k : Nat) (a0 : D13) : Option (D13) :=
  some a0
def S133 (k : Nat) : CSpec := { params := [U13], res := [(U13, false)], fresh := true, sem := fun x => F133 k x.1 }
theorem e133 : (fun k => evFn ((T (fun _ _ => ⟨[], [], [], false⟩) k).cx []) 5 Tryz.f133 (S133 0).params (S133 0).res true) = fun k => (S133 k).sem := by kernel_rfl
theorem ok133 {G : World → Prop} (hG : Lasts G) (k : Nat) : (S133 k).ok Tryz.prog G 133 := fn_ok (T_ok (fun _ _ => ⟨[], [], [], false⟩) k) hG (calls := []) trivial 5 rfl (S133 k) (congrFun e133 k)

/-- loop.example/g01402/laws.toEventS -/
def F73 (k : Nat) (a0 : List D13) : Option ((List D13)) :=
  (bif (decide (0 ≤ (a0.length : Int) ∧ (a0.length : Int) = (a0.length : Int) ∧ (a0.length : Int) < (most : Int))) then (iter (σ := Int × List D13 × Unit) (fun rec5 x4 => (bif (decide (x4.1 < (a0.length : Int))) then (bif (decide (0 ≤ x4.1 ∧ x4.1 < (a0.length : Int))) then ((F133 k (a0.getD x4.1.toNat Z13)).bind fun r6 => (bif (decide (0 ≤ x4.1 ∧ x4.1 < (x4.2.1.length : Int))) then (rec5 ((wrap64 (x4.1 + (1 : Int))), (x4.2.1.set x4.1.toNat r6), ())) else none)) else none) else some x4.2.1)) k ((0 : Int), (List.replicate (a0.length : Int).toNat Z13), ())) else none)
def S73 (k : Nat) : CSpec := { params := [(.slice U13)], res := [((.slice U13), true)], fresh := true, sem := fun x => F73 k x.1 }
theorem e73 : (fun k => evFn ((T (fun _ _ => ⟨[4], [1], [], false⟩) k).cx [(133, S133 k)]) 5 Tryz.f73 (S73 0).params (S73 0).res true) = fun k => (S73 k).sem := by kernel_rfl
theorem ok73 {G : World → Prop} (hG : Lasts G) (k : Nat) : (S73 k).ok Tryz.prog G 73 := fn_ok (T_ok (fun _ _ => ⟨[4], [1], [], false⟩) k) hG (calls := [(133, S133 k)]) ⟨ok133 hG k, trivial⟩ 5 rfl (S73 k) (congrFun e73 k)

/-- loop.example/g01402/laws.toWorld -/
def F26 (k : Nat) (a0 : D14) : Option (D14) :=
  ((F70 k a0.2.2.1).bind fun r1 => ((F20 k a0.2.2.2.1).bind fun r2 => ((F71 k a0.2.2.2.2.1).bind fun r3 => ((F72 k a0.2.2.2.2.2.1).bind fun r4 => ((F73 k a0.2.2.2.2.2.2).bind fun r5 => some (a0.1, a0.2.1, r1, r2, r3, r4, r5))))))
def S26 (k : Nat) : CSpec := { params := [U14], res := [(U14, false)], fresh := true, sem := fun x => F26 k x.1 }
theorem e26 : (fun k => evFn ((T (fun _ _ => ⟨[], [], [], false⟩) k).cx [(20, S20 k), (70, S70 k), (71, S71 k), (72, S72 k), (73, S73 k)]) 5 Tryz.f26 (S26 0).params (S26 0).res true) = fun k => (S26 k).sem := by kernel_rfl
theorem ok26 {G : World → Prop} (hG : Lasts G) (k : Nat) : (S26 k).ok Tryz.prog G 26 := fn_ok (T_ok (fun _ _ => ⟨[], [], [], false⟩) k) hG (calls := [(20, S20 k), (70, S70 k), (71, S71 k), (72, S72 k), (73, S73 k)]) ⟨ok20 hG k, ok70 hG k, ok71 hG k, ok72 hG k, ok73 hG k, trivial⟩ 5 rfl (S26 k) (congrFun e26 k)

/-- loop.example/g01402/spec.SplitList -/
def F180 (k : Nat) (a0 : ByteArray) : Option ((List ByteArray)) :=
  (iter (σ := Int × Bool × Int × List ByteArray × Unit) (fun rec22 x21 => (bif (decide (x21.2.2.1 ≤ (a0.size : Int))) then (bif (decide (x21.2.2.1 < (a0.size : Int))) then (bif (decide (0 ≤ x21.2.2.1 ∧ x21.2.2.1 < (a0.size : Int))) then (bif (decide ((bt a0 x21.2.2.1) = (34 : Int))) then (bif (decide (x21.2.2.1 < (a0.size : Int))) then (bif (!x21.2.1) then (bif (decide (0 ≤ x21.2.2.1 ∧ x21.2.2.1 < (a0.size : Int))) then (bif (decide ((bt a0 x21.2.2.1) = (92 : Int))) then (rec22 (x21.1, (!x21.2.1), (wrap64 ((wrap64 (x21.2.2.1 + (1 : Int))) + (1 : Int))), x21.2.2.2.1, ())) else (bif (decide ((a0.size : Int) ≤ x21.2.2.1)) then (bif (decide (0 ≤ x21.1 ∧ x21.1 ≤ (if (a0.size : Int) < x21.2.2.1 then (a0.size : Int) else x21.2.2.1) ∧ (if (a0.size : Int) < x21.2.2.1 then (a0.size : Int) else x21.2.2.1) ≤ (a0.size : Int))) then ((F198 k (a0.extract x21.1.toNat (if (a0.size : Int) < x21.2.2.1 then (a0.size : Int) else x21.2.2.1).toNat)).bind fun r23 => (bif (!decide (r23 = (ByteArray.mk #[]))) then (bif (decide (x21.2.2.2.1.length + ([r23] : List ByteArray).length < most)) then (rec22 ((wrap64 (x21.2.2.1 + (1 : Int))), (!x21.2.1), (wrap64 (x21.2.2.1 + (1 : Int))), (x21.2.2.2.1 ++ ([r23] : List ByteArray)), ())) else none) else (rec22 ((wrap64 (x21.2.2.1 + (1 : Int))), (!x21.2.1), (wrap64 (x21.2.2.1 + (1 : Int))), x21.2.2.2.1, ())))) else none) else (bif (decide (0 ≤ x21.2.2.1 ∧ x21.2.2.1 < (a0.size : Int))) then (bif (decide ((bt a0 x21.2.2.1) = (44 : Int))) then (bif (!(!x21.2.1)) then (bif (decide (0 ≤ x21.1 ∧ x21.1 ≤ (if (a0.size : Int) < x21.2.2.1 then (a0.size : Int) else x21.2.2.1) ∧ (if (a0.size : Int) < x21.2.2.1 then (a0.size : Int) else x21.2.2.1) ≤ (a0.size : Int))) then ((F198 k (a0.extract x21.1.toNat (if (a0.size : Int) < x21.2.2.1 then (a0.size : Int) else x21.2.2.1).toNat)).bind fun r24 => (bif (!decide (r24 = (ByteArray.mk #[]))) then (bif (decide (x21.2.2.2.1.length + ([r24] : List ByteArray).length < most)) then (rec22 ((wrap64 (x21.2.2.1 + (1 : Int))), (!x21.2.1), (wrap64 (x21.2.2.1 + (1 : Int))), (x21.2.2.2.1 ++ ([r24] : List ByteArray)), ())) else none) else (rec22 ((wrap64 (x21.2.2.1 + (1 : Int))), (!x21.2.1), (wrap64 (x21.2.2.1 + (1 : Int))), x21.2.2.2.1, ())))) else none) else (rec22 (x21.1, (!x21.2.1), (wrap64 (x21.2.2.1 + (1 : Int))), x21.2.2.2.1, ()))) else (rec22 (x21.1, (!x21.2.1), (wrap64 (x21.2.2.1 + (1 : Int))), x21.2.2.2.1, ()))) else none))) else none) else (bif (decide ((a0.size : Int) ≤ x21.2.2.1)) then (bif (decide (0 ≤ x21.1 ∧ x21.1 ≤ (if (a0.size : Int) < x21.2.2.1 then (a0.size : Int) else x21.2.2.1) ∧ (if (a0.size : Int) < x21.2.2.1 then (a0.size : Int) else x21.2.2.1) ≤ (a0.size : Int))) then ((F198 k (a0.extract x21.1.toNat (if (a0.size : Int) < x21.2.2.1 then (a0.size : Int) else x21.2.2.1).toNat)).bind fun r25 => (bif (!decide (r25 = (ByteArray.mk #[]))) then (bif (decide (x21.2.2.2.1.length + ([r25] : List ByteArray).length < most)) then (rec22 ((wrap64 (x21.2.2.1 + (1 : Int))), (!x21.2.1), (wrap64 (x21.2.2.1 + (1 : Int))), (x21.2.2.2.1 ++ ([r25] : List ByteArray)), ())) else none) else (rec22 ((wrap64 (x21.2.2.1 + (1 : Int))), (!x21.2.1), (wrap64 (x21.2.2.1 + (1 : Int))), x21.2.2.2.1, ())))) else none) else (bif (decide (0 ≤ x21.2.2.1 ∧ x21.2.2.1 < (a0.size : Int))) then (bif (decide ((bt a0 x21.2.2.1) = (44 : Int))) then (bif (!(!x21.2.1)) then (bif (decide (0 ≤ x21.1 ∧ x21.1 ≤ (if (a0.size : Int) < x21.2.2.1 then (a0.size : Int) else x21.2.2.1) ∧ (if (a0.size : Int) < x21.2.2.1 then (a0.size : Int) else x21.2.2.1) ≤ (a0.size : Int))) then ((F198 k (a0.extract x21.1.toNat (if (a0.size : Int) < x21.2.2.1 then (a0.size : Int) else x21.2.2.1).toNat)).bind fun r26 => (bif (!decide (r26 = (ByteArray.mk #[]))) then (bif (decide (x21.2.2.2.1.length + ([r26] : List ByteArray).length < most)) then (rec22 ((wrap64 (x21.2.2.1 + (1 : Int))), (!x21.2.1), (wrap64 (x21.2.2.1 + (1 : Int))), (x21.2.2.2.1 ++ ([r26] : List ByteArray)), ())) else none) else (rec22 ((wrap64 (x21.2.2.1 + (1 : Int))), (!x21.2.1), (wrap64 (x21.2.2.1 + (1 : Int))), x21.2.2.2.1, ())))) else none) else (rec22 (x21.1, (!x21.2.1), (wrap64 (x21.2.2.1 + (1 : Int))), x21.2.2.2.1, ()))) else (rec22 (x21.1, (!x21.2.1), (wrap64 (x21.2.2.1 + (1 : Int))), x21.2.2.2.1, ()))) else none))) else (bif (decide ((a0.size : Int) ≤ x21.2.2.1)) then (bif (decide (0 ≤ x21.1 ∧ x21.1 ≤ (if (a0.size : Int) < x21.2.2.1 then (a0.size : Int) else x21.2.2.1) ∧ (if (a0.size : Int) < x21.2.2.1 then (a0.size : Int) else x21.2.2.1) ≤ (a0.size : Int))) then ((F198 k (a0.extract x21.1.toNat (if (a0.size : Int) < x21.2.2.1 then (a0.size : Int) else x21.2.2.1).toNat)).bind fun r27 => (bif (!decide (r27 = (ByteArray.mk #[]))) then (bif (decide (x21.2.2.2.1.length + ([r27] : List ByteArray).length < most)) then (rec22 ((wrap64 (x21.2.2.1 + (1 : Int))), (!x21.2.1), (wrap64 (x21.2.2.1 + (1 : Int))), (x21.2.2.2.1 ++ ([r27] : List ByteArray)), ())) else none) else (rec22 ((wrap64 (x21.2.2.1 + (1 : Int))), (!x21.2.1), (wrap64 (x21.2.2.1 + (1 : Int))), x21.2.2.2.1, ())))) else none) else (bif (decide (0 ≤ x21.2.2.1 ∧ x21.2.2.1 < (a0.size : Int))) then (bif (decide ((bt a0 x21.2.2.1) = (44 : Int))) then (bif (!(!x21.2.1)) then (bif (decide (0 ≤ x21.1 ∧ x21.1 ≤ (if (a0.size : Int) < x21.2.2.1 then (a0.size : Int) else x21.2.2.1) ∧ (if (a0.size : Int) < x21.2.2.1 then (a0.size : Int) else x21.2.2.1) ≤ (a0.size : Int))) then ((F198 k (a0.extract x21.1.toNat (if (a0.size : Int) < x21.2.2.1 then (a0.size : Int) else x21.2.2.1).toNat)).bind fun r28 => (bif (!decide (r28 = (ByteArray.mk #[]))) then (bif (decide (x21.2.2.2.1.length + ([r28] : List ByteArray).length < most)) then (rec22 ((wrap64 (x21.2.2.1 + (1 : Int))), (!x21.2.1), (wrap64 (x21.2.2.1 + (1 : Int))), (x21.2.2.2.1 ++ ([r28] : List ByteArray)), ())) else none) else (rec22 ((wrap64 (x21.2.2.1 + (1 : Int))), (!x21.2.1), (wrap64 (x21.2.2.1 + (1 : Int))), x21.2.2.2.1, ())))) else none) else (rec22 (x21.1, (!x21.2.1), (wrap64 (x21.2.2.1 + (1 : Int))), x21.2.2.2.1, ()))) else (rec22 (x21.1, (!x21.2.1), (wrap64 (x21.2.2.1 + (1 : Int))), x21.2.2.2.1, ()))) else none))) else (bif (decide (x21.2.2.1 < (a0.size : Int))) then (bif x21.2.1 then (bif (decide (0 ≤ x21.2.2.1 ∧ x21.2.2.1 < (a0.size : Int))) then (bif (decide ((bt a0 x21.2.2.1) = (92 : Int))) then (rec22 (x21.1, x21.2.1, (wrap64 ((wrap64 (x21.2.2.1 + (1 : Int))) + (1 : Int))), x21.2.2.2.1, ())) else (bif (decide ((a0.size : Int) ≤ x21.2.2.1)) then (bif (decide (0 ≤ x21.1 ∧ x21.1 ≤ (if (a0.size : Int) < x21.2.2.1 then (a0.size : Int) else x21.2.2.1) ∧ (if (a0.size : Int) < x21.2.2.1 then (a0.size : Int) else x21.2.2.1) ≤ (a0.size : Int))) then ((F198 k (a0.extract x21.1.toNat (if (a0.size : Int) < x21.2.2.1 then (a0.size : Int) else x21.2.2.1).toNat)).bind fun r29 => (bif (!decide (r29 = (ByteArray.mk #[]))) then (bif (decide (x21.2.2.2.1.length + ([r29] : List ByteArray).length < most)) then (rec22 ((wrap64 (x21.2.2.1 + (1 : Int))), x21.2.1, (wrap64 (x21.2.2.1 + (1 : Int))), (x21.2.2.2.1 ++ ([r29] : List ByteArray)), ())) else none) else (rec22 ((wrap64 (x21.2.2.1 + (1 : Int))), x21.2.1, (wrap64 (x21.2.2.1 + (1 : Int))), x21.2.2.2.1, ())))) else none) else (bif (decide (0 ≤ x21.2.2.1 ∧ x21.2.2.1 < (a0.size : Int))) then (bif (decide ((bt a0 x21.2.2.1) = (44 : Int))) then (bif (!x21.2.1) then (bif (decide (0 ≤ x21.1 ∧ x21.1 ≤ (if (a0.size : Int) < x21.2.2.1 then (a0.size : Int) else x21.2.2.1) ∧ (if (a0.size : Int) < x21.2.2.1 then (a0.size : Int) else x21.2.2.1) ≤ (a0.size : Int))) then ((F198 k (a0.extract x21.1.toNat (if (a0.size : Int) < x21.2.2.1 then (a0.size : Int) else x21.2.2.1).toNat)).bind fun r30 => (bif (!decide (r30 = (ByteArray.mk #[]))) then (bif (decide (x21.2.2.2.1.length + ([r30] : List ByteArray).length < most)) then (rec22 ((wrap64 (x21.2.2.1 + (1 : Int))), x21.2.1, (wrap64 (x21.2.2.1 + (1 : Int))), (x21.2.2.2.1 ++ ([r30] : List ByteArray)), ())) else none) else (rec22 ((wrap64 (x21.2.2.1 + (1 : Int))), x21.2.1, (wrap64 (x21.2.2.1 + (1 : Int))), x21.2.2.2.1, ())))) else none) else (rec22 (x21.1, x21.2.1, (wrap64 (x21.2.2.1 + (1 : Int))), x21.2.2.2.1, ()))) else (rec22 (x21.1, x21.2.1, (wrap64 (x21.2.2.1 + (1 : Int))), x21.2.2.2.1, ()))) else none))) else none) else (bif (decide ((a0.size : Int) ≤ x21.2.2.1)) then (bif (decide (0 ≤ x21.1 ∧ x21.1 ≤ (if (a0.size : Int) < x21.2.2.1 then (a0.size : Int) else x21.2.2.1) ∧ (if (a0.size : Int) < x21.2.2.1 then (a0.size : Int) else x21.2.2.1) ≤ (a0.size : Int))) then ((F198 k (a0.extract x21.1.toNat (if (a0.size : Int) < x21.2.2.1 then (a0.size : Int) else x21.2.2.1).toNat)).bind fun r31 => (bif (!decide (r31 = (ByteArray.mk #[]))) then (bif (decide (x21.2.2.2.1.length + ([r31] : List ByteArray).length < most)) then (rec22 ((wrap64 (x21.2.2.1 + (1 : Int))), x21.2.1, (wrap64 (x21.2.2.1 + (1 : Int))), (x21.2.2.2.1 ++ ([r31] : List ByteArray)), ())) else none) else (rec22 ((wrap64 (x21.2.2.1 + (1 : Int))), x21.2.1, (wrap64 (x21.2.2.1 + (1 : Int))), x21.2.2.2.1, ())))) else none) else (bif (decide (0 ≤ x21.2.2.1 ∧ x21.2.2.1 < (a0.size : Int))) then (bif (decide ((bt a0 x21.2.2.1) = (44 : Int))) then (bif (!x21.2.1) then (bif (decide (0 ≤ x21.1 ∧ x21.1 ≤ (if (a0.size : Int) < x21.2.2.1 then (a0.size : Int) else x21.2.2.1) ∧ (if (a0.size : Int) < x21.2.2.1 then (a0.size : Int) else x21.2.2.1) ≤ (a0.size : Int))) then ((F198 k (a0.extract x21.1.toNat (if (a0.size : Int) < x21.2.2.1 then (a0.size : Int) else x21.2.2.1).toNat)).bind fun r32 => (bif (!decide (r32 = (ByteArray.mk #[]))) then (bif (decide (x21.2.2.2.1.length + ([r32] : List ByteArray).length < most)) then (rec22 ((wrap64 (x21.2.2.1 + (1 : Int))), x21.2.1, (wrap64 (x21.2.2.1 + (1 : Int))), (x21.2.2.2.1 ++ ([r32] : List ByteArray)), ())) else none) else (rec22 ((wrap64 (x21.2.2.1 + (1 : Int))), x21.2.1, (wrap64 (x21.2.2.1 + (1 : Int))), x21.2.2.2.1, ())))) else none) else (rec22 (x21.1, x21.2.1, (wrap64 (x21.2.2.1 + (1 : Int))), x21.2.2.2.1, ()))) else (rec22 (x21.1, x21.2.1, (wrap64 (x21.2.2.1 + (1 : Int))), x21.2.2.2.1, ()))) else none))) else (bif (decide ((a0.size : Int) ≤ x21.2.2.1)) then (bif (decide (0 ≤ x21.1 ∧ x21.1 ≤ (if (a0.size : Int) < x21.2.2.1 then (a0.size : Int) else x21.2.2.1) ∧ (if (a0.size : Int) < x21.2.2.1 then (a0.size : Int) else x21.2.2.1) ≤ (a0.size : Int))) then ((F198 k (a0.extract x21.1.toNat (if (a0.size : Int) < x21.2.2.1 then (a0.size : Int) else x21.2.2.1).toNat)).bind fun r33 => (bif (!decide (r33 = (ByteArray.mk #[]))) then (bif (decide (x21.2.2.2.1.length + ([r33] : List ByteArray).length < most)) then (rec22 ((wrap64 (x21.2.2.1 + (1 : Int))), x21.2.1, (wrap64 (x21.2.2.1 + (1 : Int))), (x21.2.2.2.1 ++ ([r33] : List ByteArray)), ())) else none) else (rec22 ((wrap64 (x21.2.2.1 + (1 : Int))), x21.2.1, (wrap64 (x21.2.2.1 + (1 : Int))), x21.2.2.2.1, ())))) else none) else (bif (decide (0 ≤ x21.2.2.1 ∧ x21.2.2.1 < (a0.size : Int))) then (bif (decide ((bt a0 x21.2.2.1) = (44 : Int))) then (bif (!x21.2.1) then (bif (decide (0 ≤ x21.1 ∧ x21.1 ≤ (if (a0.size : Int) < x21.2.2.1 then (a0.size : Int) else x21.2.2.1) ∧ (if (a0.size : Int) < x21.2.2.1 then (a0.size : Int) else x21.2.2.1) ≤ (a0.size : Int))) then ((F198 k (a0.extract x21.1.toNat (if (a0.size : Int) < x21.2.2.1 then (a0.size : Int) else x21.2.2.1).toNat)).bind fun r34 => (bif (!decide (r34 = (ByteArray.mk #[]))) then (bif (decide (x21.2.2.2.1.length + ([r34] : List ByteArray).length < most)) then (rec22 ((wrap64 (x21.2.2.1 + (1 : Int))), x21.2.1, (wrap64 (x21.2.2.1 + (1 : Int))), (x21.2.2.2.1 ++ ([r34] : List ByteArray)), ())) else none) else (rec22 ((wrap64 (x21.2.2.1 + (1 : Int))), x21.2.1, (wrap64 (x21.2.2.1 + (1 : Int))), x21.2.2.2.1, ())))) else none) else (rec22 (x21.1, x21.2.1, (wrap64 (x21.2.2.1 + (1 : Int))), x21.2.2.2.1, ()))) else (rec22 (x21.1, x21.2.1, (wrap64 (x21.2.2.1 + (1 : Int))), x21.2.2.2.1, ()))) else none)))) else none) else (bif (decide (x21.2.2.1 < (a0.size : Int))) then (bif x21.2.1 then (bif (decide (0 ≤ x21.2.2.1 ∧ x21.2.2.1 < (a0.size : Int))) then (bif (decide ((bt a0 x21.2.2.1) = (92 : Int))) then (rec22 (x21.1, x21.2.1, (wrap64 ((wrap64 (x21.2.2.1 + (1 : Int))) + (1 : Int))), x21.2.2.2.1, ())) else (bif (decide ((a0.size : Int) ≤ x21.2.2.1)) then (bif (decide (0 ≤ x21.1 ∧ x21.1 ≤ (if (a0.size : Int) < x21.2.2.1 then (a0.size : Int) else x21.2.2.1) ∧ (if (a0.size : Int) < x21.2.2.1 then (a0.size : Int) else x21.2.2.1) ≤ (a0.size : Int))) then ((F198 k (a0.extract x21.1.toNat (if (a0.size : Int) < x21.2.2.1 then (a0.size : Int) else x21.2.2.1).toNat)).bind fun r35 => (bif (!decide (r35 = (ByteArray.mk #[]))) then (bif (decide (x21.2.2.2.1.length + ([r35] : List ByteArray).length < most)) then (rec22 ((wrap64 (x21.2.2.1 + (1 : Int))), x21.2.1, (wrap64 (x21.2.2.1 + (1 : Int))), (x21.2.2.2.1 ++ ([r35] : List ByteArray)), ())) else none) else (rec22 ((wrap64 (x21.2.2.1 + (1 : Int))), x21.2.1, (wrap64 (x21.2.2.1 + (1 : Int))), x21.2.2.2.1, ())))) else none) else (bif (decide (0 ≤ x21.2.2.1 ∧ x21.2.2.1 < (a0.size : Int))) then (bif (decide ((bt a0 x21.2.2.1) = (44 : Int))) then (bif (!x21.2.1) then (bif (decide (0 ≤ x21.1 ∧ x21.1 ≤ (if (a0.size : Int) < x21.2.2.1 then (a0.size : Int) else x21.2.2.1) ∧ (if (a0.size : Int) < x21.2.2.1 then (a0.size : Int) else x21.2.2.1) ≤ (a0.size : Int))) then ((F198 k (a0.extract x21.1.toNat (if (a0.size : Int) < x21.2.2.1 then (a0.size : Int) else x21.2.2.1).toNat)).bind fun r36 => (bif (!decide (r36 = (ByteArray.mk #[]))) then (bif (decide (x21.2.2.2.1.length + ([r36] : List ByteArray).length < most)) then (rec22 ((wrap64 (x21.2.2.1 + (1 : Int))), x21.2.1, (wrap64 (x21.2.2.1 + (1 : Int))), (x21.2.2.2.1 ++ ([r36] : List ByteArray)), ())) else none) else (rec22 ((wrap64 (x21.2.2.1 + (1 : Int))), x21.2.1, (wrap64 (x21.2.2.1 + (1 : Int))), x21.2.2.2.1, ())))) else none) else (rec22 (x21.1, x21.2.1, (wrap64 (x21.2.2.1 + (1 : Int))), x21.2.2.2.1, ()))) else (rec22 (x21.1, x21.2.1, (wrap64 (x21.2.2.1 + (1 : Int))), x21.2.2.2.1, ()))) else none))) else none) else (bif (decide ((a0.size : Int) ≤ x21.2.2.1)) then (bif (decide (0 ≤ x21.1 ∧ x21.1 ≤ (if (a0.size : Int) < x21.2.2.1 then (a0.size : Int) else x21.2.2.1) ∧ (if (a0.size : Int) < x21.2.2.1 then (a0.size : Int) else x21.2.2.1) ≤ (a0.size : Int))) then ((F198 k (a0.extract x21.1.toNat (if (a0.size : Int) < x21.2.2.1 then (a0.size : Int) else x21.2.2.1).toNat)).bind fun r37 => (bif (!decide (r37 = (ByteArray.mk #[]))) then (bif (decide (x21.2.2.2.1.length + ([r37] : List ByteArray).length < most)) then (rec22 ((wrap64 (x21.2.2.1 + (1 : Int))), x21.2.1, (wrap64 (x21.2.2.1 + (1 : Int))), (x21.2.2.2.1 ++ ([r37] : List ByteArray)), ())) else none) else (rec22 ((wrap64 (x21.2.2.1 + (1 : Int))), x21.2.1, (wrap64 (x21.2.2.1 + (1 : Int))), x21.2.2.2.1, ())))) else none) else (bif (decide (0 ≤ x21.2.2.1 ∧ x21.2.2.1 < (a0.size : Int))) then (bif (decide ((bt a0 x21.2.2.1) = (44 : Int))) then (bif (!x21.2.1) then (bif (decide (0 ≤ x21.1 ∧ x21.1 ≤ (if (a0.size : Int) < x21.2.2.1 then (a0.size : Int) else x21.2.2.1) ∧ (if (a0.size : Int) < x21.2.2.1 then (a0.size : Int) else x21.2.2.1) ≤ (a0.size : Int))) then ((F198 k (a0.extract x21.1.toNat (if (a0.size : Int) < x21.2.2.1 then (a0.size : Int) else x21.2.2.1).toNat)).bind fun r38 => (bif (!decide (r38 = (ByteArray.mk #[]))) then (bif (decide (x21.2.2.2.1.length + ([r38] : List ByteArray).length < most)) then (rec22 ((wrap64 (x21.2.2.1 + (1 : Int))), x21.2.1, (wrap64 (x21.2.2.1 + (1 : Int))), (x21.2.2.2.1 ++ ([r38] : List ByteArray)), ())) else none) else (rec22 ((wrap64 (x21.2.2.1 + (1 : Int))), x21.2.1, (wrap64 (x21.2.2.1 + (1 : Int))), x21.2.2.2.1, ())))) else none) else (rec22 (x21.1, x21.2.1, (wrap64 (x21.2.2.1 + (1 : Int))), x21.2.2.2.1, ()))) else (rec22 (x21.1, x21.2.1, (wrap64 (x21.2.2.1 + (1 : Int))), x21.2.2.2.1, ()))) else none))) else (bif (decide ((a0.size : Int) ≤ x21.2.2.1)) then (bif (decide (0 ≤ x21.1 ∧ x21.1 ≤ (if (a0.size : Int) < x21.2.2.1 then (a0.size : Int) else x21.2.2.1) ∧ (if (a0.size : Int) < x21.2.2.1 then (a0.size : Int) else x21.2.2.1) ≤ (a0.size : Int))) then ((F198 k (a0.extract x21.1.toNat (if (a0.size : Int) < x21.2.2.1 then (a0.size : Int) else x21.2.2.1).toNat)).bind fun r39 => (bif (!decide (r39 = (ByteArray.mk #[]))) then (bif (decide (x21.2.2.2.1.length + ([r39] : List ByteArray).length < most)) then (rec22 ((wrap64 (x21.2.2.1 + (1 : Int))), x21.2.1, (wrap64 (x21.2.2.1 + (1 : Int))), (x21.2.2.2.1 ++ ([r39] : List ByteArray)), ())) else none) else (rec22 ((wrap64 (x21.2.2.1 + (1 : Int))), x21.2.1, (wrap64 (x21.2.2.1 + (1 : Int))), x21.2.2.2.1, ())))) else none) else (bif (decide (0 ≤ x21.2.2.1 ∧ x21.2.2.1 < (a0.size : Int))) then (bif (decide ((bt a0 x21.2.2.1) = (44 : Int))) then (bif (!x21.2.1) then (bif (decide (0 ≤ x21.1 ∧ x21.1 ≤ (if (a0.size : Int) < x21.2.2.1 then (a0.size : Int) else x21.2.2.1) ∧ (if (a0.size : Int) < x21.2.2.1 then (a0.size : Int) else x21.2.2.1) ≤ (a0.size : Int))) then ((F198 k (a0.extract x21.1.toNat (if (a0.size : Int) < x21.2.2.1 then (a0.size : Int) else x21.2.2.1).toNat)).bind fun r40 => (bif (!decide (r40 = (ByteArray.mk #[]))) then (bif (decide (x21.2.2.2.1.length + ([r40] : List ByteArray).length < most)) then (rec22 ((wrap64 (x21.2.2.1 + (1 : Int))), x21.2.1, (wrap64 (x21.2.2.1 + (1 : Int))), (x21.2.2.2.1 ++ ([r40] : List ByteArray)), ())) else none) else (rec22 ((wrap64 (x21.2.2.1 + (1 : Int))), x21.2.1, (wrap64 (x21.2.2.1 + (1 : Int))), x21.2.2.2.1, ())))) else none) else (rec22 (x21.1, x21.2.1, (wrap64 (x21.2.2.1 + (1 : Int))), x21.2.2.2.1, ()))) else (rec22 (x21.1, x21.2.1, (wrap64 (x21.2.2.1 + (1 : Int))), x21.2.2.2.1, ()))) else none)))) else (bif (decide (x21.1 < (a0.size : Int))) then (bif x21.2.1 then (bif (decide (0 ≤ x21.1 ∧ x21.1 ≤ (a0.size : Int) ∧ (a0.size : Int) ≤ (a0.size : Int))) then ((F198 k (a0.extract x21.1.toNat (a0.size : Int).toNat)).bind fun r41 => (bif (!decide (r41 = (ByteArray.mk #[]))) then (bif (decide (x21.2.2.2.1.length + ([r41] : List ByteArray).length < most)) then some (x21.2.2.2.1 ++ ([r41] : List ByteArray)) else none) else some x21.2.2.2.1)) else none) else some x21.2.2.2.1) else some x21.2.2.2.1))) k ((0 : Int), false, (0 : Int), ([] : List ByteArray), ()))
def S180 (k : Nat) : CSpec := { params := [.str], res := [((.slice .str), true)], fresh := true, sem := fun x => F180 k x.1 }
theorem e180 : (fun k => evFn ((T (fun _ _ => ⟨[3, 4, 5, 6], [], [1], false⟩) k).cx [(198, S198 k)]) 5 Tryz.f180 (S180 0).params (S180 0).res true) = fun k => (S180 k).sem := by kernel_rfl
theorem ok180 {G : World → Prop} (hG : Lasts G) (k : Nat) : (S180 k).ok Tryz.prog G 180 := fn_ok (T_ok (fun _ _ => ⟨[3, 4, 5, 6], [], [1], false⟩) k) hG (calls := [(198, S198 k)]) ⟨ok198 hG k, trivial⟩ 5 rfl (S180 k) (congrFun e180 k)

/-- loop.example/g01402/spec.l7Unquote -/
def F182 (k : Nat) (a0 : ByteArray) : Option (ByteArray) :=
  (bif (decide ((2 : Int) ≤ (a0.size : Int))) then (bif (decide (0 ≤ (0 : Int) ∧ (0 : Int) < (a0.size : Int))) then (bif (decide ((bt a0 (0 : Int)) = (34 : Int))) then (bif (decide (0 ≤ (wrap64 ((a0.size : Int) - (1 : Int))) ∧ (wrap64 ((a0.size : Int) - (1 : Int))) < (a0.size : Int))) then (bif (decide ((bt a0 (wrap64 ((a0.size : Int) - (1 : Int)))) = (34 : Int))) then (bif (decide (0 ≤ (1 : Int) ∧ (1 : Int) ≤ (wrap64 ((a0.size : Int) - (1 : Int))) ∧ (wrap64 ((a0.size : Int) - (1 : Int))) ≤ (a0.size : Int))) then some (a0.extract (1 : Int).toNat (wrap64 ((a0.size : Int) - (1 : Int))).toNat) else none) else some a0) else none) else some a0) else none) else some a0)
def S182 (k : Nat) : CSpec := { params := [.str], res := [(.str, false)], fresh := true, sem := fun x => F182 k x.1 }
theorem e182 : (fun k => evFn ((T (fun _ _ => ⟨[], [], [], false⟩) k).cx []) 5 Tryz.f182 (S182 0).params (S182 0).res true) = fun k => (S182 k).sem := by kernel_rfl
theorem ok182 {G : World → Prop} (hG : Lasts G) (k : Nat) : (S182 k).ok Tryz.prog G 182 := fn_ok (T_ok (fun _ _ => ⟨[], [], [], false⟩) k) hG (calls := []) trivial 5 rfl (S182 k) (congrFun e182 k)

/-- loop.example/g01402/spec.Directives -/
def F159 (k : Nat) (a0 : List D0) : Option ((List D0)) :=
  ((F128 k a0 (ByteArray.mk #[99, 97, 99, 104, 101, 45, 99, 111, 110, 116, 114, 111, 108])).bind fun r1 => ((F180 k r1.1).bind fun r2 => (iter (σ := Int × List D0 × Unit) (fun rec16 x15 => (bif (decide (x15.1 < (r2.length : Int))) then (bif (decide (0 ≤ x15.1 ∧ x15.1 < (r2.length : Int))) then (iter (σ := Int × Unit) (fun rec20 x19 => (bif (decide (x19.1 < ((r2.getD x15.1.toNat (ByteArray.mk #[])).size : Int))) then (bif (decide (0 ≤ x19.1 ∧ x19.1 < ((r2.getD x15.1.toNat (ByteArray.mk #[])).size : Int))) then (bif (!decide ((bt (r2.getD x15.1.toNat (ByteArray.mk #[])) x19.1) = (61 : Int))) then (rec20 ((wrap64 (x19.1 + (1 : Int))), ())) else (bif (decide (0 ≤ (0 : Int) ∧ (0 : Int) ≤ x19.1 ∧ x19.1 ≤ ((r2.getD x15.1.toNat (ByteArray.mk #[])).size : Int))) then ((F141 k ((r2.getD x15.1.toNat (ByteArray.mk #[])).extract (0 : Int).toNat x19.1.toNat)).bind fun r21 => (bif (!r21) then (rec16 ((wrap64 (x15.1 + (1 : Int))), x15.2.1, ())) else (bif (decide (0 ≤ (0 : Int) ∧ (0 : Int) ≤ x19.1 ∧ x19.1 ≤ ((r2.getD x15.1.toNat (ByteArray.mk #[])).size : Int))) then ((F181 k ((r2.getD x15.1.toNat (ByteArray.mk #[])).extract (0 : Int).toNat x19.1.toNat)).bind fun r22 => (bif (decide (x19.1 < ((r2.getD x15.1.toNat (ByteArray.mk #[])).size : Int))) then (bif (decide (0 ≤ (wrap64 (x19.1 + (1 : Int))) ∧ (wrap64 (x19.1 + (1 : Int))) ≤ ((r2.getD x15.1.toNat (ByteArray.mk #[])).size : Int) ∧ ((r2.getD x15.1.toNat (ByteArray.mk #[])).size : Int) ≤ ((r2.getD x15.1.toNat (ByteArray.mk #[])).size : Int))) then ((F182 k ((r2.getD x15.1.toNat (ByteArray.mk #[])).extract (wrap64 (x19.1 + (1 : Int))).toNat ((r2.getD x15.1.toNat (ByteArray.mk #[])).size : Int).toNat)).bind fun r23 => (bif (decide (x15.2.1.length + ([(r22, r23)] : List D0).length < most)) then (rec16 ((wrap64 (x15.1 + (1 : Int))), (x15.2.1 ++ ([(r22, r23)] : List D0)), ())) else none)) else none) else (bif (decide (x15.2.1.length + ([(r22, Z0.2)] : List D0).length < most)) then (rec16 ((wrap64 (x15.1 + (1 : Int))), (x15.2.1 ++ ([(r22, Z0.2)] : List D0)), ())) else none))) else none))) else none)) else none) else (bif (decide (0 ≤ (0 : Int) ∧ (0 : Int) ≤ x19.1 ∧ x19.1 ≤ ((r2.getD x15.1.toNat (ByteArray.mk #[])).size : Int))) then ((F141 k ((r2.getD x15.1.toNat (ByteArray.mk #[])).extract (0 : Int).toNat x19.1.toNat)).bind fun r24 => (bif (!r24) then (rec16 ((wrap64 (x15.1 + (1 : Int))), x15.2.1, ())) else (bif (decide (0 ≤ (0 : Int) ∧ (0 : Int) ≤ x19.1 ∧ x19.1 ≤ ((r2.getD x15.1.toNat (ByteArray.mk #[])).size : Int))) then ((F181 k ((r2.getD x15.1.toNat (ByteArray.mk #[])).extract (0 : Int).toNat x19.1.toNat)).bind fun r25 => (bif (decide (x19.1 < ((r2.getD x15.1.toNat (ByteArray.mk #[])).size : Int))) then (bif (decide (0 ≤ (wrap64 (x19.1 + (1 : Int))) ∧ (wrap64 (x19.1 + (1 : Int))) ≤ ((r2.getD x15.1.toNat (ByteArray.mk #[])).size : Int) ∧ ((r2.getD x15.1.toNat (ByteArray.mk #[])).size : Int) ≤ ((r2.getD x15.1.toNat (ByteArray.mk #[])).size : Int))) then ((F182 k ((r2.getD x15.1.toNat (ByteArray.mk #[])).extract (wrap64 (x19.1 + (1 : Int))).toNat ((r2.getD x15.1.toNat (ByteArray.mk #[])).size : Int).toNat)).bind fun r26 => (bif (decide (x15.2.1.length + ([(r25, r26)] : List D0).length < most)) then (rec16 ((wrap64 (x15.1 + (1 : Int))), (x15.2.1 ++ ([(r25, r26)] : List D0)), ())) else none)) else none) else (bif (decide (x15.2.1.length + ([(r25, Z0.2)] : List D0).length < most)) then (rec16 ((wrap64 (x15.1 + (1 : Int))), (x15.2.1 ++ ([(r25, Z0.2)] : List D0)), ())) else none))) else none))) else none))) k ((0 : Int), ())) else none) else some x15.2.1)) k ((0 : Int), ([] : List D0), ()))))
def S159 (k : Nat) : CSpec := { params := [(.slice U0)], res := [((.slice U0), true)], fresh := true, sem := fun x => F159 k x.1 }
theorem e159 : (fun k => evFn ((T (kp [(([], 5), ⟨[3, 7], [], [1], false⟩), (([], 9), ⟨[9], [], [], false⟩)]) k).cx [(128, S128 k), (141, S141 k), (180, S180 k), (181, S181 k), (182, S182 k)]) 5 Tryz.f159 (S159 0).params (S159 0).res true) = fun k => (S159 k).sem := by kernel_rfl
theorem ok159 {G : World → Prop} (hG : Lasts G) (k : Nat) : (S159 k).ok Tryz.prog G 159 := fn_ok (T_ok (kp [(([], 5), ⟨[3, 7], [], [1], false⟩), (([], 9), ⟨[9], [], [], false⟩)]) k) hG (calls := [(128, S128 k), (141, S141 k), (180, S180 k), (181, S181 k), (182, S182 k)]) ⟨ok128 hG k, ok141 hG k, ok180 hG k, ok181 hG k, ok182 hG k, trivial⟩ 5 rfl (S159 k) (congrFun e159 k)

/-- loop.example/g01402/spec.CcHas -/
def F129 (k : Nat) (a0 : List D0) (a1 : ByteArray) : Option (Bool) :=
  ((F159 k a0).bind fun r1 => (iter (σ := Int × Unit) (fun rec5 x4 => (bif (decide (x4.1 < (r1.length : Int))) then (bif (decide (0 ≤ x4.1 ∧ x4.1 < (r1.length : Int))) then (bif (decide ((r1.getD x4.1.toNat Z0).1 = a1)) then some true else (rec5 ((wrap64 (x4.1 + (1 : Int))), ()))) else none) else some false)) k ((0 : Int), ())))
def S129 (k : Nat) : CSpec := { params := [(.slice U0), .str], res := [(.bool, false)], fresh := true, sem := fun x => F129 k x.1 x.2.1 }
theorem e129 : (fun k => evFn ((T (fun _ _ => ⟨[6], [], [], false⟩) k).cx [(159, S159 k)]) 5 Tryz.f129 (S129 0).params (S129 0).res true) = fun k => (S129 k).sem := by kernel_rfl
theorem ok129 {G : World → Prop} (hG : Lasts G) (k : Nat) : (S129 k).ok Tryz.prog G 129 := fn_ok (T_ok (fun _ _ => ⟨[6], [], [], false⟩) k) hG (calls := [(159, S159 k)]) ⟨ok159 hG k, trivial⟩ 5 rfl (S129 k) (congrFun e129 k)

/-- loop.example/g01402/spec.l16Own -/
def F68 (k : Nat) (a0 : D7) : Option (Bool) :=
  ((F128 k a0.2.2.1 (ByteArray.mk #[97, 117, 116, 104, 111, 114, 105, 122, 97, 116, 105, 111, 110])).bind fun r1 => ((F128 k a0.2.2.1 (ByteArray.mk #[105, 102, 45, 110, 111, 110, 101, 45, 109, 97, 116, 99, 104])).bind fun r2 => ((F128 k a0.2.2.1 (ByteArray.mk #[105, 102, 45, 109, 111, 100, 105, 102, 105, 101, 100, 45, 115, 105, 110, 99, 101])).bind fun r3 => (bif (!decide (a0.1 = (ByteArray.mk #[71, 69, 84]))) then some true else (bif r1.2 then some true else (bif r2.2 then some true else (bif r3.2 then some true else ((F129 k a0.2.2.1 (ByteArray.mk #[110, 111, 45, 115, 116, 111, 114, 101])).bind fun r4 => (bif r4 then some true else ((F129 k a0.2.2.1 (ByteArray.mk #[110, 111, 45, 99, 97, 99, 104, 101])).bind fun r5 => some r5))))))))))
def S68 (k : Nat) : CSpec := { params := [U7], res := [(.bool, false)], fresh := true, sem := fun x => F68 k x.1 }
theorem e68 : (fun k => evFn ((T (fun _ _ => ⟨[], [], [], false⟩) k).cx [(128, S128 k), (129, S129 k)]) 5 Tryz.f68 (S68 0).params (S68 0).res true) = fun k => (S68 k).sem := by kernel_rfl
theorem ok68 {G : World → Prop} (hG : Lasts G) (k : Nat) : (S68 k).ok Tryz.prog G 68 := fn_ok (T_ok (fun _ _ => ⟨[], [], [], false⟩) k) hG (calls := [(128, S128 k), (129, S129 k)]) ⟨ok128 hG k, ok129 hG k, trivial⟩ 5 rfl (S68 k) (congrFun e68 k)

/-- loop.example/g01402/spec.GenOf -/
def F69 (k : Nat) (a0 : D6) (a1 : ByteArray) : Option (Int) :=
  (iter (σ := Int × Unit) (fun rec4 x3 => (bif (decide (x3.1 < (a0.2.length : Int))) then (bif (decide (0 ≤ x3.1 ∧ x3.1 < (a0.2.length : Int))) then (bif (decide ((a0.2.getD x3.1.toNat Z5).1 = a1)) then (bif (decide (0 ≤ x3.1 ∧ x3.1 < (a0.2.length : Int))) then some (a0.2.getD x3.1.toNat Z5).2 else none) else (rec4 ((wrap64 (x3.1 + (1 : Int))), ()))) else none) else some (0 : Int))) k ((0 : Int), ()))
def S69 (k : Nat) : CSpec := { params := [U6, .str], res := [((.int .i64), false)], fresh := true, sem := fun x => F69 k x.1 x.2.1 }
theorem e69 : (fun k => evFn ((T (fun _ _ => ⟨[5], [], [], false⟩) k).cx []) 5 Tryz.f69 (S69 0).params (S69 0).res true) = fun k => (S69 k).sem := by kernel_rfl
theorem ok69 {G : World → Prop} (hG : Lasts G) (k : Nat) : (S69 k).ok Tryz.prog G 69 := fn_ok (T_ok (fun _ _ => ⟨[5], [], [], false⟩) k) hG (calls := []) trivial 5 rfl (S69 k) (congrFun e69 k)

/-- loop.example/g01402/spec.Joinable -/
def F25 (k : Nat) (a0 : D14) (a1 : D7) : Option (Int) :=
  ((F68 k a1).bind fun r1 => (bif r1 then some (-1 : Int) else (iter (σ := Int × Unit) (fun rec6 x5 => (bif (decide (x5.1 < (a0.2.2.2.2.1.length : Int))) then (bif (decide (0 ≤ x5.1 ∧ x5.1 < (a0.2.2.2.2.1.length : Int))) then (bif (a0.2.2.2.2.1.getD x5.1.toNat Z10).2.1 then (bif (decide ((a0.2.2.2.2.1.getD x5.1.toNat Z10).1 = a1.2.1)) then ((F69 k a0.2.2.2.1 a1.2.1).bind fun r7 => (bif (decide ((a0.2.2.2.2.1.getD x5.1.toNat Z10).2.2.1 = r7)) then some x5.1 else (rec6 ((wrap64 (x5.1 + (1 : Int))), ())))) else (rec6 ((wrap64 (x5.1 + (1 : Int))), ()))) else (rec6 ((wrap64 (x5.1 + (1 : Int))), ()))) else none) else some (-1 : Int))) k ((0 : Int), ()))))
def S25 (k : Nat) : CSpec := { params := [U14, U7], res := [((.int .i64), false)], fresh := true, sem := fun x => F25 k x.1 x.2.1 }
theorem e25 : (fun k => evFn ((T (fun _ _ => ⟨[5], [], [], false⟩) k).cx [(68, S68 k), (69, S69 k)]) 5 Tryz.f25 (S25 0).params (S25 0).res true) = fun k => (S25 k).sem := by kernel_rfl
theorem ok25 {G : World → Prop} (hG : Lasts G) (k : Nat) : (S25 k).ok Tryz.prog G 25 := fn_ok (T_ok (fun _ _ => ⟨[5], [], [], false⟩) k) hG (calls := [(68, S68 k), (69, S69 k)]) ⟨ok68 hG k, ok69 hG k, trivial⟩ 5 rfl (S25 k) (congrFun e25 k)

/-- loop.example/g01402/impl.commas -/
def F199 (k : Nat) (a0 : ByteArray) : Option ((List Int)) :=
  (iter (σ := Bool × Int × List Int × Unit) (fun rec4 x3 => (bif (decide (x3.2.1 < (a0.size : Int))) then (bif (decide (0 ≤ x3.2.1 ∧ x3.2.1 < (a0.size : Int))) then (bif (decide ((bt a0 x3.2.1) = (34 : Int))) then (rec4 ((!x3.1), (wrap64 (x3.2.1 + (1 : Int))), x3.2.2.1, ())) else (bif x3.1 then (bif (decide (0 ≤ x3.2.1 ∧ x3.2.1 < (a0.size : Int))) then (bif (decide ((bt a0 x3.2.1) = (92 : Int))) then (rec4 (x3.1, (wrap64 ((wrap64 (x3.2.1 + (1 : Int))) + (1 : Int))), x3.2.2.1, ())) else (bif (!x3.1) then (bif (decide (0 ≤ x3.2.1 ∧ x3.2.1 < (a0.size : Int))) then (bif (decide ((bt a0 x3.2.1) = (44 : Int))) then (bif (decide (x3.2.2.1.length + ([x3.2.1] : List Int).length < most)) then (rec4 (x3.1, (wrap64 (x3.2.1 + (1 : Int))), (x3.2.2.1 ++ ([x3.2.1] : List Int)), ())) else none) else (rec4 (x3.1, (wrap64 (x3.2.1 + (1 : Int))), x3.2.2.1, ()))) else none) else (rec4 (x3.1, (wrap64 (x3.2.1 + (1 : Int))), x3.2.2.1, ())))) else none) else (bif (!x3.1) then (bif (decide (0 ≤ x3.2.1 ∧ x3.2.1 < (a0.size : Int))) then (bif (decide ((bt a0 x3.2.1) = (44 : Int))) then (bif (decide (x3.2.2.1.length + ([x3.2.1] : List Int).length < most)) then (rec4 (x3.1, (wrap64 (x3.2.1 + (1 : Int))), (x3.2.2.1 ++ ([x3.2.1] : List Int)), ())) else none) else (rec4 (x3.1, (wrap64 (x3.2.1 + (1 : Int))), x3.2.2.1, ()))) else none) else (rec4 (x3.1, (wrap64 (x3.2.1 + (1 : Int))), x3.2.2.1, ()))))) else none) else some x3.2.2.1)) k (false, (0 : Int), ([] : List Int), ()))
def S199 (k : Nat) : CSpec := { params := [.str], res := [((.slice (.int .i64)), true)], fresh := true, sem := fun x => F199 k x.1 }
theorem e199 : (fun k => evFn ((T (fun _ _ => ⟨[3, 4, 5], [], [1], false⟩) k).cx []) 5 Tryz.f199 (S199 0).params (S199 0).res true) = fun k => (S199 k).sem := by kernel_rfl
theorem ok199 {G : World → Prop} (hG : Lasts G) (k : Nat) : (S199 k).ok Tryz.prog G 199 := fn_ok (T_ok (fun _ _ => ⟨[3, 4, 5], [], [1], false⟩) k) hG (calls := []) trivial 5 rfl (S199 k) (congrFun e199 k)

/-- loop.example/g01402/impl.SplitList -/
def F185 (k : Nat) (a0 : ByteArray) : Option ((List ByteArray)) :=
  ((F199 k a0).bind fun r1 => (bif (decide (r1.length + ([(a0.size : Int)] : List Int).length < most)) then (iter (σ := Int × Int × List ByteArray × Unit) (fun rec6 x5 => (bif (decide (x5.2.1 < ((r1 ++ ([(a0.size : Int)] : List Int)).length : Int))) then (bif (decide (0 ≤ x5.2.1 ∧ x5.2.1 < ((r1 ++ ([(a0.size : Int)] : List Int)).length : Int))) then (bif (decide (0 ≤ x5.1 ∧ x5.1 ≤ ((r1 ++ ([(a0.size : Int)] : List Int)).getD x5.2.1.toNat (0 : Int)) ∧ ((r1 ++ ([(a0.size : Int)] : List Int)).getD x5.2.1.toNat (0 : Int)) ≤ (a0.size : Int))) then ((F200 k (a0.extract x5.1.toNat ((r1 ++ ([(a0.size : Int)] : List Int)).getD x5.2.1.toNat (0 : Int)).toNat)).bind fun r7 => (bif (!decide (r7 = (ByteArray.mk #[]))) then (bif (decide (x5.2.2.1.length + ([r7] : List ByteArray).length < most)) then (rec6 ((wrap64 (((r1 ++ ([(a0.size : Int)] : List Int)).getD x5.2.1.toNat (0 : Int)) + (1 : Int))), (wrap64 (x5.2.1 + (1 : Int))), (x5.2.2.1 ++ ([r7] : List ByteArray)), ())) else none) else (rec6 ((wrap64 (((r1 ++ ([(a0.size : Int)] : List Int)).getD x5.2.1.toNat (0 : Int)) + (1 : Int))), (wrap64 (x5.2.1 + (1 : Int))), x5.2.2.1, ())))) else none) else none) else some x5.2.2.1)) k ((0 : Int), (0 : Int), ([] : List ByteArray), ())) else none))
def S185 (k : Nat) : CSpec := { params := [.str], res := [((.slice .str), true)], fresh := true, sem := fun x => F185 k x.1 }
theorem e185 : (fun k => evFn ((T (fun _ _ => ⟨[3, 4, 16], [], [1], false⟩) k).cx [(199, S199 k), (200, S200 k)]) 5 Tryz.f185 (S185 0).params (S185 0).res true) = fun k => (S185 k).sem := by kernel_rfl
theorem ok185 {G : World → Prop} (hG : Lasts G) (k : Nat) : (S185 k).ok Tryz.prog G 185 := fn_ok (T_ok (fun _ _ => ⟨[3, 4, 16], [], [1], false⟩) k) hG (calls := [(199, S199 k), (200, S200 k)]) ⟨ok199 hG k, ok200 hG k, trivial⟩ 5 rfl (S185 k) (congrFun e185 k)

/-- strings.Cut -/
def S186 (k : Nat) : CSpec := { params := [.str, .str], res := [(.str, false), (.str, false), (.bool, false)], fresh := true, sem := fun x => semCut x.1 x.2.1 }
theorem ok186 {G : World → Prop} (hG : Lasts G) (hM : Maxs 0 G) (k : Nat) : (S186 k).ok Tryz.prog G 186 := ok_Cut Tryz.func186 (by kernel_rfl) (by kernel_rfl) hM Tryz.strings_Cut

/-- loop.example/g01402/impl.Directives -/
def F164 (k : Nat) (a0 : List D0) : Option ((List D0)) :=
  ((F162 k a0 (ByteArray.mk #[99, 97, 99, 104, 101, 45, 99, 111, 110, 116, 114, 111, 108])).bind fun r1 => ((F185 k r1.1).bind fun r2 => (iter (σ := Int × List D0 × Unit) (fun rec12 x11 => (bif (decide (x11.1 < (r2.length : Int))) then (bif (decide (0 ≤ x11.1 ∧ x11.1 < (r2.length : Int))) then ((semCut (r2.getD x11.1.toNat (ByteArray.mk #[])) (ByteArray.mk #[61])).bind fun r13 => ((F170 k r13.1).bind fun r14 => (bif (!r14) then (rec12 ((wrap64 (x11.1 + (1 : Int))), x11.2.1, ())) else (bif (decide ((2 : Int) ≤ (r13.2.1.size : Int))) then (bif (decide (0 ≤ (0 : Int) ∧ (0 : Int) < (r13.2.1.size : Int))) then (bif (decide ((bt r13.2.1 (0 : Int)) = (34 : Int))) then (bif (decide (0 ≤ (wrap64 ((r13.2.1.size : Int) - (1 : Int))) ∧ (wrap64 ((r13.2.1.size : Int) - (1 : Int))) < (r13.2.1.size : Int))) then (bif (decide ((bt r13.2.1 (wrap64 ((r13.2.1.size : Int) - (1 : Int)))) = (34 : Int))) then (bif (decide (0 ≤ (1 : Int) ∧ (1 : Int) ≤ (wrap64 ((r13.2.1.size : Int) - (1 : Int))) ∧ (wrap64 ((r13.2.1.size : Int) - (1 : Int))) ≤ (r13.2.1.size : Int))) then ((F187 k r13.1).bind fun r15 => (bif (decide (x11.2.1.length + ([(r15, (r13.2.1.extract (1 : Int).toNat (wrap64 ((r13.2.1.size : Int) - (1 : Int))).toNat))] : List D0).length < most)) then (rec12 ((wrap64 (x11.1 + (1 : Int))), (x11.2.1 ++ ([(r15, (r13.2.1.extract (1 : Int).toNat (wrap64 ((r13.2.1.size : Int) - (1 : Int))).toNat))] : List D0)), ())) else none)) else none) else ((F187 k r13.1).bind fun r16 => (bif (decide (x11.2.1.length + ([(r16, r13.2.1)] : List D0).length < most)) then (rec12 ((wrap64 (x11.1 + (1 : Int))), (x11.2.1 ++ ([(r16, r13.2.1)] : List D0)), ())) else none))) else none) else ((F187 k r13.1).bind fun r17 => (bif (decide (x11.2.1.length + ([(r17, r13.2.1)] : List D0).length < most)) then (rec12 ((wrap64 (x11.1 + (1 : Int))), (x11.2.1 ++ ([(r17, r13.2.1)] : List D0)), ())) else none))) else none) else ((F187 k r13.1).bind fun r18 => (bif (decide (x11.2.1.length + ([(r18, r13.2.1)] : List D0).length < most)) then (rec12 ((wrap64 (x11.1 + (1 : Int))), (x11.2.1 ++ ([(r18, r13.2.1)] : List D0)), ())) else none)))))) else none) else some x11.2.1)) k ((0 : Int), ([] : List D0), ()))))
def S164 (k : Nat) : CSpec := { params := [(.slice U0)], res := [((.slice U0), true)], fresh := true, sem := fun x => F164 k x.1 }
theorem e164 : (fun k => evFn ((T (fun _ _ => ⟨[5, 20], [], [1], false⟩) k).cx [(162, S162 k), (170, S170 k), (185, S185 k), (186, S186 k), (187, S187 k)]) 5 Tryz.f164 (S164 0).params (S164 0).res true) = fun k => (S164 k).sem := by kernel_rfl
theorem ok164 {G : World → Prop} (hG : Lasts G) (hM : Maxs 0 G) (k : Nat) : (S164 k).ok Tryz.prog G 164 := fn_ok (T_ok (fun _ _ => ⟨[5, 20], [], [1], false⟩) k) hG (calls := [(162, S162 k), (170, S170 k), (185, S185 k), (186, S186 k), (187, S187 k)]) ⟨ok162 hG k, ok170 hG k, ok185 hG k, ok186 hG hM k, ok187 hG k, trivial⟩ 5 rfl (S164 k) (congrFun e164 k)

/-- loop.example/g01402/impl.CcHas -/
def F135 (k : Nat) (a0 : List D0) (a1 : ByteArray) : Option (Bool) :=
  ((F164 k a0).bind fun r1 => (iter (σ := Int × Unit) (fun rec5 x4 => (bif (decide (x4.1 < (r1.length : Int))) then (bif (decide (0 ≤ x4.1 ∧ x4.1 < (r1.length : Int))) then (bif (decide ((r1.getD x4.1.toNat Z0).1 = a1)) then some (decide ((0 : Int) ≤ x4.1)) else (rec5 ((wrap64 (x4.1 + (1 : Int))), ()))) else none) else some (decide ((0 : Int) ≤ (-1 : Int))))) k ((0 : Int), ())))
def S135 (k : Nat) : CSpec := { params := [(.slice U0), .str], res := [(.bool, false)], fresh := true, sem := fun x => F135 k x.1 x.2.1 }
theorem e135 : (fun k => evFn ((T (fun _ _ => ⟨[8], [], [], false⟩) k).cx [(164, S164 k)]) 5 Tryz.f135 (S135 0).params (S135 0).res true) = fun k => (S135 k).sem := by kernel_rfl
theorem ok135 {G : World → Prop} (hG : Lasts G) (hM : Maxs 0 G) (k : Nat) : (S135 k).ok Tryz.prog G 135 := fn_ok (T_ok (fun _ _ => ⟨[8], [], [], false⟩) k) hG (calls := [(164, S164 k)]) ⟨ok164 hG hM k, trivial⟩ 5 rfl (S135 k) (congrFun e135 k)

/-- loop.example/g01402/impl.itsOwn -/
def F74 (k : Nat) (a0 : D7) : Option (Bool) :=
  (bif (!decide (a0.1 = (ByteArray.mk #[71, 69, 84]))) then some true else ((F134 k a0.2.2.1 (ByteArray.mk #[97, 117, 116, 104, 111, 114, 105, 122, 97, 116, 105, 111, 110])).bind fun r1 => (bif r1 then some true else ((F134 k a0.2.2.1 (ByteArray.mk #[105, 102, 45, 110, 111, 110, 101, 45, 109, 97, 116, 99, 104])).bind fun r2 => (bif r2 then some true else ((F134 k a0.2.2.1 (ByteArray.mk #[105, 102, 45, 109, 111, 100, 105, 102, 105, 101, 100, 45, 115, 105, 110, 99, 101])).bind fun r3 => (bif r3 then some true else ((F135 k a0.2.2.1 (ByteArray.mk #[110, 111, 45, 115, 116, 111, 114, 101])).bind fun r4 => (bif r4 then some true else ((F135 k a0.2.2.1 (ByteArray.mk #[110, 111, 45, 99, 97, 99, 104, 101])).bind fun r5 => some r5))))))))))
def S74 (k : Nat) : CSpec := { params := [U7], res := [(.bool, false)], fresh := true, sem := fun x => F74 k x.1 }
theorem e74 : (fun k => evFn ((T (fun _ _ => ⟨[], [], [], false⟩) k).cx [(134, S134 k), (135, S135 k)]) 5 Tryz.f74 (S74 0).params (S74 0).res true) = fun k => (S74 k).sem := by kernel_rfl
theorem ok74 {G : World → Prop} (hG : Lasts G) (hM : Maxs 0 G) (k : Nat) : (S74 k).ok Tryz.prog G 74 := fn_ok (T_ok (fun _ _ => ⟨[], [], [], false⟩) k) hG (calls := [(134, S134 k), (135, S135 k)]) ⟨ok134 hG k, ok135 hG hM k, trivial⟩ 5 rfl (S74 k) (congrFun e74 k)

/-- loop.example/g01402/impl.GenOf -/
def F77 (k : Nat) (a0 : D6) (a1 : ByteArray) : Option (Int) :=
  (iter (σ := Int × Unit) (fun rec4 x3 => (bif (decide (x3.1 < (a0.2.length : Int))) then (bif (decide (0 ≤ x3.1 ∧ x3.1 < (a0.2.length : Int))) then (bif (decide ((a0.2.getD x3.1.toNat Z5).1 = a1)) then some (a0.2.getD x3.1.toNat Z5).2 else (rec4 ((wrap64 (x3.1 + (1 : Int))), ()))) else none) else some (0 : Int))) k ((0 : Int), ()))
def S77 (k : Nat) : CSpec := { params := [U6, .str], res := [((.int .i64), false)], fresh := true, sem := fun x => F77 k x.1 x.2.1 }
theorem e77 : (fun k => evFn ((T (fun _ _ => ⟨[10], [], [], false⟩) k).cx []) 5 Tryz.f77 (S77 0).params (S77 0).res true) = fun k => (S77 k).sem := by kernel_rfl
theorem ok77 {G : World → Prop} (hG : Lasts G) (k : Nat) : (S77 k).ok Tryz.prog G 77 := fn_ok (T_ok (fun _ _ => ⟨[10], [], [], false⟩) k) hG (calls := []) trivial 5 rfl (S77 k) (congrFun e77 k)

/-- loop.example/g01402/impl.Joinable -/
def F28 (k : Nat) (a0 : D14) (a1 : D7) : Option (Int) :=
  ((F74 k a1).bind fun r1 => (bif r1 then some (-1 : Int) else (iter (σ := Int × Unit) (fun rec6 x5 => (bif (decide (x5.1 < (a0.2.2.2.2.1.length : Int))) then (bif (decide (0 ≤ x5.1 ∧ x5.1 < (a0.2.2.2.2.1.length : Int))) then (bif (a0.2.2.2.2.1.getD x5.1.toNat Z10).2.1 then (bif (decide ((a0.2.2.2.2.1.getD x5.1.toNat Z10).1 = a1.2.1)) then ((F77 k a0.2.2.2.1 a1.2.1).bind fun r7 => (bif (decide ((a0.2.2.2.2.1.getD x5.1.toNat Z10).2.2.1 = r7)) then some x5.1 else (rec6 ((wrap64 (x5.1 + (1 : Int))), ())))) else (rec6 ((wrap64 (x5.1 + (1 : Int))), ()))) else (rec6 ((wrap64 (x5.1 + (1 : Int))), ()))) else none) else some (-1 : Int))) k ((0 : Int), ()))))
def S28 (k : Nat) : CSpec := { params := [U14, U7], res := [((.int .i64), false)], fresh := true, sem := fun x => F28 k x.1 x.2.1 }
theorem e28 : (fun k => evFn ((T (fun _ _ => ⟨[8], [], [], false⟩) k).cx [(74, S74 k), (77, S77 k)]) 5 Tryz.f28 (S28 0).params (S28 0).res true) = fun k => (S28 k).sem := by kernel_rfl
theorem ok28 {G : World → Prop} (hG : Lasts G) (hM : Maxs 0 G) (k : Nat) : (S28 k).ok Tryz.prog G 28 := fn_ok (T_ok (fun _ _ => ⟨[8], [], [], false⟩) k) hG (calls := [(74, S74 k), (77, S77 k)]) ⟨ok74 hG hM k, ok77 hG k, trivial⟩ 5 rfl (S28 k) (congrFun e28 k)

/-- loop.example/g01402/laws.eqRequest -/
def F30 (k : Nat) (a0 : D7) (a1 : D7) : Option (Bool) :=
  (bif (!decide (a0.1 = a1.1)) then some false else (bif (!decide (a0.2.1 = a1.2.1)) then some false else ((F45 k a0.2.2.1 a1.2.2.1).bind fun r1 => (bif (!r1) then some false else (bif (!decide (a0.2.2.2 = a1.2.2.2)) then some false else some true)))))
def S30 (k : Nat) : CSpec := { params := [U7, U7], res := [(.bool, false)], fresh := true, sem := fun x => F30 k x.1 x.2.1 }
theorem e30 : (fun k => evFn ((T (fun _ _ => ⟨[], [], [], false⟩) k).cx [(45, S45 k)]) 5 Tryz.f30 (S30 0).params (S30 0).res true) = fun k => (S30 k).sem := by kernel_rfl
theorem ok30 {G : World → Prop} (hG : Lasts G) (k : Nat) : (S30 k).ok Tryz.prog G 30 := fn_ok (T_ok (fun _ _ => ⟨[], [], [], false⟩) k) hG (calls := [(45, S45 k)]) ⟨ok45 hG k, trivial⟩ 5 rfl (S30 k) (congrFun e30 k)

/-- loop.example/g01402/laws.eqTold -/
def F188 (k : Nat) (a0 : D8) (a1 : D8) : Option (Bool) :=
  (bif (!decide (a0.1 = a1.1)) then some false else ((F46 k a0.2 a1.2).bind fun r1 => (bif (!r1) then some false else some true)))
def S188 (k : Nat) : CSpec := { params := [U8, U8], res := [(.bool, false)], fresh := true, sem := fun x => F188 k x.1 x.2.1 }
theorem e188 : (fun k => evFn ((T (fun _ _ => ⟨[], [], [], false⟩) k).cx [(46, S46 k)]) 5 Tryz.f188 (S188 0).params (S188 0).res true) = fun k => (S188 k).sem := by kernel_rfl
theorem ok188 {G : World → Prop} (hG : Lasts G) (k : Nat) : (S188 k).ok Tryz.prog G 188 := fn_ok (T_ok (fun _ _ => ⟨[], [], [], false⟩) k) hG (calls := [(46, S46 k)]) ⟨ok46 hG k, trivial⟩ 5 rfl (S188 k) (congrFun e188 k)

/-- loop.example/g01402/laws.eqToldS -/
def F166 (k : Nat) (a0 : List D8) (a1 : List D8) : Option (Bool) :=
  (bif (!decide ((a0.length : Int) = (a1.length : Int))) then some false else (iter (σ := Int × Unit) (fun rec5 x4 => (bif (decide (x4.1 < (a0.length : Int))) then (bif (decide (0 ≤ x4.1 ∧ x4.1 < (a0.length : Int))) then (bif (decide (0 ≤ x4.1 ∧ x4.1 < (a1.length : Int))) then ((F188 k (a0.getD x4.1.toNat Z8) (a1.getD x4.1.toNat Z8)).bind fun r6 => (bif (!r6) then some false else (rec5 ((wrap64 (x4.1 + (1 : Int))), ())))) else none) else none) else some true)) k ((0 : Int), ())))
def S166 (k : Nat) : CSpec := { params := [(.slice U8), (.slice U8)], res := [(.bool, false)], fresh := true, sem := fun x => F166 k x.1 x.2.1 }
theorem e166 : (fun k => evFn ((T (fun _ _ => ⟨[5], [], [], false⟩) k).cx [(188, S188 k)]) 5 Tryz.f166 (S166 0).params (S166 0).res true) = fun k => (S166 k).sem := by kernel_rfl
theorem ok166 {G : World → Prop} (hG : Lasts G) (k : Nat) : (S166 k).ok Tryz.prog G 166 := fn_ok (T_ok (fun _ _ => ⟨[5], [], [], false⟩) k) hG (calls := [(188, S188 k)]) ⟨ok188 hG k, trivial⟩ 5 rfl (S166 k) (congrFun e166 k)

/-- loop.example/g01402/laws.eqConn -/
def F136 (k : Nat) (a0 : D9) (a1 : D9) : Option (Bool) :=
  (bif (!decide (a0.1 = a1.1)) then some false else (bif (!decide (a0.2.1 = a1.2.1)) then some false else (bif (!decide (a0.2.2.1 = a1.2.2.1)) then some false else ((F30 k a0.2.2.2.1 a1.2.2.2.1).bind fun r1 => (bif (!r1) then some false else ((F30 k a0.2.2.2.2.1 a1.2.2.2.2.1).bind fun r2 => (bif (!r2) then some false else ((F12 k a0.2.2.2.2.2.1 a1.2.2.2.2.2.1).bind fun r3 => (bif (!r3) then some false else (bif (!(a0.2.2.2.2.2.2.1 == a1.2.2.2.2.2.2.1)) then some false else (bif (!decide (a0.2.2.2.2.2.2.2.1 = a1.2.2.2.2.2.2.2.1)) then some false else (bif (!decide (a0.2.2.2.2.2.2.2.2.1 = a1.2.2.2.2.2.2.2.2.1)) then some false else (bif (!decide (a0.2.2.2.2.2.2.2.2.2.1 = a1.2.2.2.2.2.2.2.2.2.1)) then some false else (bif (!decide (a0.2.2.2.2.2.2.2.2.2.2.1 = a1.2.2.2.2.2.2.2.2.2.2.1)) then some false else (bif (!(a0.2.2.2.2.2.2.2.2.2.2.2.1 == a1.2.2.2.2.2.2.2.2.2.2.2.1)) then some false else ((F46 k a0.2.2.2.2.2.2.2.2.2.2.2.2.1 a1.2.2.2.2.2.2.2.2.2.2.2.2.1).bind fun r4 => (bif (!r4) then some false else ((F166 k a0.2.2.2.2.2.2.2.2.2.2.2.2.2 a1.2.2.2.2.2.2.2.2.2.2.2.2.2).bind fun r5 => (bif (!r5) then some false else some true)))))))))))))))))))
def S136 (k : Nat) : CSpec := { params := [U9, U9], res := [(.bool, false)], fresh := true, sem := fun x => F136 k x.1 x.2.1 }
theorem e136 : (fun k => evFn ((T (fun _ _ => ⟨[], [], [], false⟩) k).cx [(12, S12 k), (30, S30 k), (46, S46 k), (166, S166 k)]) 5 Tryz.f136 (S136 0).params (S136 0).res true) = fun k => (S136 k).sem := by kernel_rfl
theorem ok136 {G : World → Prop} (hG : Lasts G) (k : Nat) : (S136 k).ok Tryz.prog G 136 := fn_ok (T_ok (fun _ _ => ⟨[], [], [], false⟩) k) hG (calls := [(12, S12 k), (30, S30 k), (46, S46 k), (166, S166 k)]) ⟨ok12 hG k, ok30 hG k, ok46 hG k, ok166 hG k, trivial⟩ 5 rfl (S136 k) (congrFun e136 k)

/-- loop.example/g01402/laws.eqConnS -/
def F78 (k : Nat) (a0 : List D9) (a1 : List D9) : Option (Bool) :=
  (bif (!decide ((a0.length : Int) = (a1.length : Int))) then some false else (iter (σ := Int × Unit) (fun rec5 x4 => (bif (decide (x4.1 < (a0.length : Int))) then (bif (decide (0 ≤ x4.1 ∧ x4.1 < (a0.length : Int))) then (bif (decide (0 ≤ x4.1 ∧ x4.1 < (a1.length : Int))) then ((F136 k (a0.getD x4.1.toNat Z9) (a1.getD x4.1.toNat Z9)).bind fun r6 => (bif (!r6) then some false else (rec5 ((wrap64 (x4.1 + (1 : Int))), ())))) else none) else none) else some true)) k ((0 : Int), ())))
def S78 (k : Nat) : CSpec := { params := [(.slice U9), (.slice U9)], res := [(.bool, false)], fresh := true, sem := fun x => F78 k x.1 x.2.1 }
theorem e78 : (fun k => evFn ((T (fun _ _ => ⟨[5], [], [], false⟩) k).cx [(136, S136 k)]) 5 Tryz.f78 (S78 0).params (S78 0).res true) = fun k => (S78 k).sem := by kernel_rfl
theorem ok78 {G : World → Prop} (hG : Lasts G) (k : Nat) : (S78 k).ok Tryz.prog G 78 := fn_ok (T_ok (fun _ _ => ⟨[5], [], [], false⟩) k) hG (calls := [(136, S136 k)]) ⟨ok136 hG k, trivial⟩ 5 rfl (S78 k) (congrFun e78 k)

/-- loop.example/g01402/laws.eqFlight -/
def F137 (k : Nat) (a0 : D10) (a1 : D10) : Option (Bool) :=
  (bif (!decide (a0.1 = a1.1)) then some false else (bif (!(a0.2.1 == a1.2.1)) then some false else (bif (!decide (a0.2.2.1 = a1.2.2.1)) then some false else (bif (!(a0.2.2.2.1 == a1.2.2.2.1)) then some false else (bif (!(a0.2.2.2.2.1 == a1.2.2.2.2.1)) then some false else ((F30 k a0.2.2.2.2.2.1 a1.2.2.2.2.2.1).bind fun r1 => (bif (!r1) then some false else ((F46 k a0.2.2.2.2.2.2.1 a1.2.2.2.2.2.2.1).bind fun r2 => (bif (!r2) then some false else (bif (!decide (a0.2.2.2.2.2.2.2.1 = a1.2.2.2.2.2.2.2.1)) then some false else (bif (!decide (a0.2.2.2.2.2.2.2.2 = a1.2.2.2.2.2.2.2.2)) then some false else some true)))))))))))
def S137 (k : Nat) : CSpec := { params := [U10, U10], res := [(.bool, false)], fresh := true, sem := fun x => F137 k x.1 x.2.1 }
theorem e137 : (fun k => evFn ((T (fun _ _ => ⟨[], [], [], false⟩) k).cx [(30, S30 k), (46, S46 k)]) 5 Tryz.f137 (S137 0).params (S137 0).res true) = fun k => (S137 k).sem := by kernel_rfl
theorem ok137 {G : World → Prop} (hG : Lasts G) (k : Nat) : (S137 k).ok Tryz.prog G 137 := fn_ok (T_ok (fun _ _ => ⟨[], [], [], false⟩) k) hG (calls := [(30, S30 k), (46, S46 k)]) ⟨ok30 hG k, ok46 hG k, trivial⟩ 5 rfl (S137 k) (congrFun e137 k)

/-- loop.example/g01402/laws.eqFlightS -/
def F79 (k : Nat) (a0 : List D10) (a1 : List D10) : Option (Bool) :=
  (bif (!decide ((a0.length : Int) = (a1.length : Int))) then some false else (iter (σ := Int × Unit) (fun rec5 x4 => (bif (decide (x4.1 < (a0.length : Int))) then (bif (decide (0 ≤ x4.1 ∧ x4.1 < (a0.length : Int))) then (bif (decide (0 ≤ x4.1 ∧ x4.1 < (a1.length : Int))) then ((F137 k (a0.getD x4.1.toNat Z10) (a1.getD x4.1.toNat Z10)).bind fun r6 => (bif (!r6) then some false else (rec5 ((wrap64 (x4.1 + (1 : Int))), ())))) else none) else none) else some true)) k ((0 : Int), ())))
def S79 (k : Nat) : CSpec := { params := [(.slice U10), (.slice U10)], res := [(.bool, false)], fresh := true, sem := fun x => F79 k x.1 x.2.1 }
theorem e79 : (fun k => evFn ((T (fun _ _ => ⟨[5], [], [], false⟩) k).cx [(137, S137 k)]) 5 Tryz.f79 (S79 0).params (S79 0).res true) = fun k => (S79 k).sem := by kernel_rfl
theorem ok79 {G : World → Prop} (hG : Lasts G) (k : Nat) : (S79 k).ok Tryz.prog G 79 := fn_ok (T_ok (fun _ _ => ⟨[5], [], [], false⟩) k) hG (calls := [(137, S137 k)]) ⟨ok137 hG k, trivial⟩ 5 rfl (S79 k) (congrFun e79 k)

/-- loop.example/g01402/laws.eqRes -/
def F167 (k : Nat) (a0 : D11) (a1 : D11) : Option (Bool) :=
  (bif (!decide (a0.1 = a1.1)) then some false else (bif (!decide (a0.2.1 = a1.2.1)) then some false else (bif (!decide (a0.2.2.1 = a1.2.2.1)) then some false else (bif (!decide (a0.2.2.2.1 = a1.2.2.2.1)) then some false else (bif (!(a0.2.2.2.2.1 == a1.2.2.2.2.1)) then some false else (bif (!(a0.2.2.2.2.2.1 == a1.2.2.2.2.2.1)) then some false else ((F45 k a0.2.2.2.2.2.2 a1.2.2.2.2.2.2).bind fun r1 => (bif (!r1) then some false else some true))))))))
def S167 (k : Nat) : CSpec := { params := [U11, U11], res := [(.bool, false)], fresh := true, sem := fun x => F167 k x.1 x.2.1 }
theorem e167 : (fun k => evFn ((T (fun _ _ => ⟨[], [], [], false⟩) k).cx [(45, S45 k)]) 5 Tryz.f167 (S167 0).params (S167 0).res true) = fun k => (S167 k).sem := by kernel_rfl
theorem ok167 {G : World → Prop} (hG : Lasts G) (k : Nat) : (S167 k).ok Tryz.prog G 167 := fn_ok (T_ok (fun _ _ => ⟨[], [], [], false⟩) k) hG (calls := [(45, S45 k)]) ⟨ok45 hG k, trivial⟩ 5 rfl (S167 k) (congrFun e167 k)

/-- loop.example/g01402/laws.eqResS -/
def F138 (k : Nat) (a0 : List D11) (a1 : List D11) : Option (Bool) :=
  (bif (!decide ((a0.length : Int) = (a1.length : Int))) then some false else (iter (σ := Int × Unit) (fun rec5 x4 => (bif (decide (x4.1 < (a0.length : Int))) then (bif (decide (0 ≤ x4.1 ∧ x4.1 < (a0.length : Int))) then (bif (decide (0 ≤ x4.1 ∧ x4.1 < (a1.length : Int))) then ((F167 k (a0.getD x4.1.toNat Z11) (a1.getD x4.1.toNat Z11)).bind fun r6 => (bif (!r6) then some false else (rec5 ((wrap64 (x4.1 + (1 : Int))), ())))) else none) else none) else some true)) k ((0 : Int), ())))
def S138 (k : Nat) : CSpec := { params := [(.slice U11), (.slice U11)], res := [(.bool, false)], fresh := true, sem := fun x => F138 k x.1 x.2.1 }
theorem e138 : (fun k => evFn ((T (fun _ _ => ⟨[5], [], [], false⟩) k).cx [(167, S167 k)]) 5 Tryz.f138 (S138 0).params (S138 0).res true) = fun k => (S138 k).sem := by kernel_rfl
theorem ok138 {G : World → Prop} (hG : Lasts G) (k : Nat) : (S138 k).ok Tryz.prog G 138 := fn_ok (T_ok (fun _ _ => ⟨[5], [], [], false⟩) k) hG (calls := [(167, S167 k)]) ⟨ok167 hG k, trivial⟩ 5 rfl (S138 k) (congrFun e138 k)

/-- loop.example/g01402/laws.eqOrigin -/
def F80 (k : Nat) (a0 : D12) (a1 : D12) : Option (Bool) :=
  ((F138 k a0 a1).bind fun r1 => (bif (!r1) then some false else some true))
def S80 (k : Nat) : CSpec := { params := [U12, U12], res := [(.bool, false)], fresh := true, sem := fun x => F80 k x.1 x.2.1 }
theorem e80 : (fun k => evFn ((T (fun _ _ => ⟨[], [], [], false⟩) k).cx [(138, S138 k)]) 5 Tryz.f80 (S80 0).params (S80 0).res true) = fun k => (S80 k).sem := by kernel_rfl
theorem ok80 {G : World → Prop} (hG : Lasts G) (k : Nat) : (S80 k).ok Tryz.prog G 80 := fn_ok (T_ok (fun _ _ => ⟨[], [], [], false⟩) k) hG (calls := [(138, S138 k)]) ⟨ok138 hG k, trivial⟩ 5 rfl (S80 k) (congrFun e80 k)

/-- loop.example/g01402/laws.eqEvent -/
def F139 (k : Nat) (a0 : D13) (a1 : D13) : Option (Bool) :=
  (bif (!decide (a0.1 = a1.1)) then some false else (bif (!decide (a0.2.1 = a1.2.1)) then some false else (bif (!decide (a0.2.2.1 = a1.2.2.1)) then some false else (bif (!decide (a0.2.2.2.1 = a1.2.2.2.1)) then some false else (bif (!decide (a0.2.2.2.2.1 = a1.2.2.2.2.1)) then some false else (bif (!decide (a0.2.2.2.2.2 = a1.2.2.2.2.2)) then some false else some true))))))
def S139 (k : Nat) : CSpec := { params := [U13, U13], res := [(.bool, false)], fresh := true, sem := fun x => F139 k x.1 x.2.1 }
theorem e139 : (fun k => evFn ((T (fun _ _ => ⟨[], [], [], false⟩) k).cx []) 5 Tryz.f139 (S139 0).params (S139 0).res true) = fun k => (S139 k).sem := by kernel_rfl
theorem ok139 {G : World → Prop} (hG : Lasts G) (k : Nat) : (S139 k).ok Tryz.prog G 139 := fn_ok (T_ok (fun _ _ => ⟨[], [], [], false⟩) k) hG (calls := []) trivial 5 rfl (S139 k) (congrFun e139 k)

/-- loop.example/g01402/laws.eqEventS -/
def F81 (k : Nat) (a0 : List D13) (a1 : List D13) : Option (Bool) :=
  (bif (!decide ((a0.length : Int) = (a1.length : Int))) then some false else (iter (σ := Int × Unit) (fun rec5 x4 => (bif (decide (x4.1 < (a0.length : Int))) then (bif (decide (0 ≤ x4.1 ∧ x4.1 < (a0.length : Int))) then (bif (decide (0 ≤ x4.1 ∧ x4.1 < (a1.length : Int))) then ((F139 k (a0.getD x4.1.toNat Z13) (a1.getD x4.1.toNat Z13)).bind fun r6 => (bif (!r6) then some false else (rec5 ((wrap64 (x4.1 + (1 : Int))), ())))) else none) else none) else some true)) k ((0 : Int), ())))
def S81 (k : Nat) : CSpec := { params := [(.slice U13), (.slice U13)], res := [(.bool, false)], fresh := true, sem := fun x => F81 k x.1 x.2.1 }
theorem e81 : (fun k => evFn ((T (fun _ _ => ⟨[5], [], [], false⟩) k).cx [(139, S139 k)]) 5 Tryz.f81 (S81 0).params (S81 0).res true) = fun k => (S81 k).sem := by kernel_rfl
theorem ok81 {G : World → Prop} (hG : Lasts G) (k : Nat) : (S81 k).ok Tryz.prog G 81 := fn_ok (T_ok (fun _ _ => ⟨[5], [], [], false⟩) k) hG (calls := [(139, S139 k)]) ⟨ok139 hG k, trivial⟩ 5 rfl (S81 k) (congrFun e81 k)

/-- loop.example/g01402/laws.eqWorld -/
def F29 (k : Nat) (a0 : D14) (a1 : D14) : Option (Bool) :=
  (bif (!decide (a0.1 = a1.1)) then some false else (bif (!decide (a0.2.1 = a1.2.1)) then some false else ((F78 k a0.2.2.1 a1.2.2.1).bind fun r1 => (bif (!r1) then some false else ((F22 k a0.2.2.2.1 a1.2.2.2.1).bind fun r2 => (bif (!r2) then some false else ((F79 k a0.2.2.2.2.1 a1.2.2.2.2.1).bind fun r3 => (bif (!r3) then some false else ((F80 k a0.2.2.2.2.2.1 a1.2.2.2.2.2.1).bind fun r4 => (bif (!r4) then some false else ((F81 k a0.2.2.2.2.2.2 a1.2.2.2.2.2.2).bind fun r5 => (bif (!r5) then some false else some true))))))))))))
def S29 (k : Nat) : CSpec := { params := [U14, U14], res := [(.bool, false)], fresh := true, sem := fun x => F29 k x.1 x.2.1 }
theorem e29 : (fun k => evFn ((T (fun _ _ => ⟨[], [], [], false⟩) k).cx [(22, S22 k), (78, S78 k), (79, S79 k), (80, S80 k), (81, S81 k)]) 5 Tryz.f29 (S29 0).params (S29 0).res true) = fun k => (S29 k).sem := by kernel_rfl
theorem ok29 {G : World → Prop} (hG : Lasts G) (k : Nat) : (S29 k).ok Tryz.prog G 29 := fn_ok (T_ok (fun _ _ => ⟨[], [], [], false⟩) k) hG (calls := [(22, S22 k), (78, S78 k), (79, S79 k), (80, S80 k), (81, S81 k)]) ⟨ok22 hG k, ok78 hG k, ok79 hG k, ok80 hG k, ok81 hG k, trivial⟩ 5 rfl (S29 k) (congrFun e29 k)

/-- loop.example/g01402/laws.FnExactJoinable -/
def F6 (k : Nat) (a0 : D14) (a1 : D7) : Option (Bool) :=
  ((F23 k a0 (1048576 : Int)).bind fun r1 => (bif (decide (r1 < (0 : Int))) then some true else ((F24 k a1 r1).bind fun r2 => (bif (decide (r2 < (0 : Int))) then some true else ((F26 k a0).bind fun r3 => ((F27 k a1).bind fun r4 => ((F25 k r3 r4).bind fun r5 => ((F26 k a0).bind fun r6 => ((F27 k a1).bind fun r7 => ((F28 k r6 r7).bind fun r8 => (bif (!decide (r8 = r5)) then some false else ((F26 k a0).bind fun r9 => ((F29 k r6 r9).bind fun r10 => (bif (!r10) then some false else ((F27 k a1).bind fun r11 => ((F30 k r7 r11).bind fun r12 => (bif (!r12) then some false else some true)))))))))))))))))
def S6 (k : Nat) : CSpec := { params := [U14, U7], res := [(.bool, false)], fresh := true, sem := fun x => F6 k x.1 x.2.1 }
theorem e6 : (fun k => evFn ((T (fun _ _ => ⟨[], [], [], false⟩) k).cx [(23, S23 k), (24, S24 k), (25, S25 k), (26, S26 k), (27, S27 k), (28, S28 k), (29, S29 k), (30, S30 k)]) 5 Tryz.f6 (S6 0).params (S6 0).res true) = fun k => (S6 k).sem := by kernel_rfl
theorem ok6 {G : World → Prop} (hG : Lasts G) (hM : Maxs 0 G) (k : Nat) : (S6 k).ok Tryz.prog G 6 := fn_ok (T_ok (fun _ _ => ⟨[], [], [], false⟩) k) hG (calls := [(23, S23 k), (24, S24 k), (25, S25 k), (26, S26 k), (27, S27 k), (28, S28 k), (29, S29 k), (30, S30 k)]) ⟨ok23 hG k, ok24 hG k, ok25 hG k, ok26 hG k, ok27 hG k, ok28 hG hM k, ok29 hG k, ok30 hG k, trivial⟩ 5 rfl (S6 k) (congrFun e6 k)

/-- loop.example/g01402/spec.OriginOk -/
def F82 (k : Nat) (a0 : D12) : Option (Bool) :=
  (iter (σ := Int × Unit) (fun rec8 x7 => (bif (decide (x7.1 < (a0.length : Int))) then (bif (decide (0 ≤ x7.1 ∧ x7.1 < (a0.length : Int))) then ((F91 k (a0.getD x7.1.toNat Z11).1).bind fun r9 => (bif (!r9) then some false else (bif (decide ((60 : Int) < ((a0.getD x7.1.toNat Z11).2.1.size : Int))) then some false else ((F83 k (a0.getD x7.1.toNat Z11).2.2.1 (1 : Int) (100000 : Int)).bind fun r10 => (bif (!r10) then some false else ((F83 k (a0.getD x7.1.toNat Z11).2.2.2.1 (0 : Int) (2000000000 : Int)).bind fun r11 => (bif (!r11) then some false else ((F140 k (a0.getD x7.1.toNat Z11).2.2.2.2.2.2).bind fun r12 => (bif (!r12) then some false else (bif (decide ((6 : Int) < ((a0.getD x7.1.toNat Z11).2.2.2.2.2.2.length : Int))) then some false else (bif (decide ((0 : Int) < x7.1)) then (bif (decide (0 ≤ (wrap64 (x7.1 - (1 : Int))) ∧ (wrap64 (x7.1 - (1 : Int))) < (a0.length : Int))) then (bif (lessText (a0.getD x7.1.toNat Z11).1 (a0.getD (wrap64 (x7.1 - (1 : Int))).toNat Z11).1 || decide ((a0.getD x7.1.toNat Z11).1 = (a0.getD (wrap64 (x7.1 - (1 : Int))).toNat Z11).1)) then some false else (rec8 ((wrap64 (x7.1 + (1 : Int))), ()))) else none) else (rec8 ((wrap64 (x7.1 + (1 : Int))), ()))))))))))))) else none) else some (decide ((a0.length : Int) ≤ (8 : Int))))) k ((0 : Int), ()))
def S82 (k : Nat) : CSpec := { params := [U12], res := [(.bool, false)], fresh := true, sem := fun x => F82 k x.1 }
theorem e82 : (fun k => evFn ((T (fun _ _ => ⟨[3], [], [], false⟩) k).cx [(83, S83 k), (91, S91 k), (140, S140 k)]) 5 Tryz.f82 (S82 0).params (S82 0).res true) = fun k => (S82 k).sem := by kernel_rfl
theorem ok82 {G : World → Prop} (hG : Lasts G) (k : Nat) : (S82 k).ok Tryz.prog G 82 := fn_ok (T_ok (fun _ _ => ⟨[3], [], [], false⟩) k) hG (calls := [(83, S83 k), (91, S91 k), (140, S140 k)]) ⟨ok83 hG k, ok91 hG k, ok140 hG k, trivial⟩ 5 rfl (S82 k) (congrFun e82 k)

/-- loop.example/g01402/spec.RequestOk -/
def F84 (k : Nat) (a0 : D7) : Option (Bool) :=
  ((F141 k a0.1).bind fun r1 => (bif r1 then (bif (decide ((a0.1.size : Int) ≤ (10 : Int))) then ((F91 k a0.2.1).bind fun r2 => (bif r2 then ((F140 k a0.2.2.1).bind fun r3 => (bif r3 then some (decide ((a0.2.2.2.size : Int) ≤ (60 : Int))) else some false)) else some false)) else some false) else some false))
def S84 (k : Nat) : CSpec := { params := [U7], res := [(.bool, false)], fresh := true, sem := fun x => F84 k x.1 }
theorem e84 : (fun k => evFn ((T (fun _ _ => ⟨[], [], [], false⟩) k).cx [(91, S91 k), (140, S140 k), (141, S141 k)]) 5 Tryz.f84 (S84 0).params (S84 0).res true) = fun k => (S84 k).sem := by kernel_rfl
theorem ok84 {G : World → Prop} (hG : Lasts G) (k : Nat) : (S84 k).ok Tryz.prog G 84 := fn_ok (T_ok (fun _ _ => ⟨[], [], [], false⟩) k) hG (calls := [(91, S91 k), (140, S140 k), (141, S141 k)]) ⟨ok91 hG k, ok140 hG k, ok141 hG k, trivial⟩ 5 rfl (S84 k) (congrFun e84 k)

/-- loop.example/g01402/spec.WorldOk -/
def F31 (k : Nat) (a0 : D14) : Option (Bool) :=
  ((F57 k a0.2.2.2.1).bind fun r1 => (bif (!r1) then some false else ((F82 k a0.2.2.2.2.2.1).bind fun r2 => (bif (!r2) then some false else ((F83 k a0.1 (0 : Int) (2000000000 : Int)).bind fun r3 => (bif (!r3) then some false else (bif (decide ((4 : Int) < (a0.2.2.1.length : Int))) then some false else (bif (decide (a0.2.1 < (0 : Int))) then some false else (iter (σ := Int × Unit) (fun rec11 x10 => (bif (decide (x10.1 < (a0.2.2.1.length : Int))) then (bif (decide (0 ≤ x10.1 ∧ x10.1 < (a0.2.2.1.length : Int))) then ((F83 k (a0.2.2.1.getD x10.1.toNat Z9).1 (0 : Int) (7 : Int)).bind fun r12 => (bif (!r12) then some false else ((F83 k (a0.2.2.1.getD x10.1.toNat Z9).2.2.2.2.2.2.2.1 (-1 : Int) (wrap64 ((a0.2.2.2.2.1.length : Int) - (1 : Int)))).bind fun r13 => (bif (!r13) then some false else (bif (decide ((a0.2.2.1.getD x10.1.toNat Z9).1 = (5 : Int))) then (bif (decide ((a0.2.2.1.getD x10.1.toNat Z9).2.2.2.2.2.2.2.1 < (0 : Int))) then some false else (bif (decide ((1500 : Int) < ((a0.2.2.1.getD x10.1.toNat Z9).2.1.size : Int))) then some false else (bif (decide ((1 : Int) ≤ (a0.2.2.1.getD x10.1.toNat Z9).1)) then (bif (decide ((a0.2.2.1.getD x10.1.toNat Z9).1 ≤ (6 : Int))) then ((F84 k (a0.2.2.1.getD x10.1.toNat Z9).2.2.2.1).bind fun r14 => (bif (!r14) then some false else (rec11 ((wrap64 (x10.1 + (1 : Int))), ())))) else (rec11 ((wrap64 (x10.1 + (1 : Int))), ()))) else (rec11 ((wrap64 (x10.1 + (1 : Int))), ()))))) else (bif (decide ((1500 : Int) < ((a0.2.2.1.getD x10.1.toNat Z9).2.1.size : Int))) then some false else (bif (decide ((1 : Int) ≤ (a0.2.2.1.getD x10.1.toNat Z9).1)) then (bif (decide ((a0.2.2.1.getD x10.1.toNat Z9).1 ≤ (6 : Int))) then ((F84 k (a0.2.2.1.getD x10.1.toNat Z9).2.2.2.1).bind fun r15 => (bif (!r15) then some false else (rec11 ((wrap64 (x10.1 + (1 : Int))), ())))) else (rec11 ((wrap64 (x10.1 + (1 : Int))), ()))) else (rec11 ((wrap64 (x10.1 + (1 : Int))), ()))))))))) else none) else some true)) k ((0 : Int), ()))))))))))
def S31 (k : Nat) : CSpec := { params := [U14], res := [(.bool, false)], fresh := true, sem := fun x => F31 k x.1 }
theorem e31 : (fun k => evFn ((T (fun _ _ => ⟨[3], [], [], false⟩) k).cx [(57, S57 k), (82, S82 k), (83, S83 k), (84, S84 k)]) 5 Tryz.f31 (S31 0).params (S31 0).res true) = fun k => (S31 k).sem := by kernel_rfl
theorem ok31 {G : World → Prop} (hG : Lasts G) (k : Nat) : (S31 k).ok Tryz.prog G 31 := fn_ok (T_ok (fun _ _ => ⟨[3], [], [], false⟩) k) hG (calls := [(57, S57 k), (82, S82 k), (83, S83 k), (84, S84 k)]) ⟨ok57 hG k, ok82 hG k, ok83 hG k, ok84 hG k, trivial⟩ 5 rfl (S31 k) (congrFun e31 k)

/-- loop.example/g01402/impl.OriginOk -/
def F85 (k : Nat) (a0 : D12) : Option (Bool) :=
  (iter (σ := Int × Unit) (fun rec11 x10 => (bif (decide (x10.1 < (a0.length : Int))) then (bif (decide (0 ≤ x10.1 ∧ x10.1 < (a0.length : Int))) then ((F97 k (a0.getD x10.1.toNat Z11).1).bind fun r12 => (bif (!r12) then some false else (bif (decide ((0 : Int) < x10.1)) then (bif (decide (0 ≤ (wrap64 (x10.1 - (1 : Int))) ∧ (wrap64 (x10.1 - (1 : Int))) < (a0.length : Int))) then (bif (!lessText (a0.getD (wrap64 (x10.1 - (1 : Int))).toNat Z11).1 (a0.getD x10.1.toNat Z11).1) then some false else (bif (decide ((60 : Int) < ((a0.getD x10.1.toNat Z11).2.1.size : Int))) then some false else ((F86 k (a0.getD x10.1.toNat Z11).2.2.1 (1 : Int) (100000 : Int)).bind fun r13 => (bif (!r13) then some false else ((F86 k (a0.getD x10.1.toNat Z11).2.2.2.1 (0 : Int) (2000000000 : Int)).bind fun r14 => (bif (!r14) then some false else (bif (decide ((6 : Int) < ((a0.getD x10.1.toNat Z11).2.2.2.2.2.2.length : Int))) then some false else ((F142 k (a0.getD x10.1.toNat Z11).2.2.2.2.2.2).bind fun r15 => (bif (!r15) then some false else (rec11 ((wrap64 (x10.1 + (1 : Int))), ()))))))))))) else none) else (bif (decide ((60 : Int) < ((a0.getD x10.1.toNat Z11).2.1.size : Int))) then some false else ((F86 k (a0.getD x10.1.toNat Z11).2.2.1 (1 : Int) (100000 : Int)).bind fun r16 => (bif (!r16) then some false else ((F86 k (a0.getD x10.1.toNat Z11).2.2.2.1 (0 : Int) (2000000000 : Int)).bind fun r17 => (bif (!r17) then some false else (bif (decide ((6 : Int) < ((a0.getD x10.1.toNat Z11).2.2.2.2.2.2.length : Int))) then some false else ((F142 k (a0.getD x10.1.toNat Z11).2.2.2.2.2.2).bind fun r18 => (bif (!r18) then some false else (rec11 ((wrap64 (x10.1 + (1 : Int))), ()))))))))))))) else none) else some (decide ((a0.length : Int) ≤ (8 : Int))))) k ((0 : Int), ()))
def S85 (k : Nat) : CSpec := { params := [U12], res := [(.bool, false)], fresh := true, sem := fun x => F85 k x.1 }
theorem e85 : (fun k => evFn ((T (fun _ _ => ⟨[8], [], [], false⟩) k).cx [(86, S86 k), (97, S97 k), (142, S142 k)]) 5 Tryz.f85 (S85 0).params (S85 0).res true) = fun k => (S85 k).sem := by kernel_rfl
theorem ok85 {G : World → Prop} (hG : Lasts G) (k : Nat) : (S85 k).ok Tryz.prog G 85 := fn_ok (T_ok (fun _ _ => ⟨[8], [], [], false⟩) k) hG (calls := [(86, S86 k), (97, S97 k), (142, S142 k)]) ⟨ok86 hG k, ok97 hG k, ok142 hG k, trivial⟩ 5 rfl (S85 k) (congrFun e85 k)

/-- loop.example/g01402/impl.RequestOk -/
def F144 (k : Nat) (a0 : D7) : Option (Bool) :=
  ((F170 k a0.1).bind fun r1 => (bif r1 then (bif (decide ((a0.1.size : Int) ≤ (10 : Int))) then ((F97 k a0.2.1).bind fun r2 => (bif r2 then ((F142 k a0.2.2.1).bind fun r3 => (bif r3 then some (decide ((a0.2.2.2.size : Int) ≤ (60 : Int))) else some false)) else some false)) else some false) else some false))
def S144 (k : Nat) : CSpec := { params := [U7], res := [(.bool, false)], fresh := true, sem := fun x => F144 k x.1 }
theorem e144 : (fun k => evFn ((T (fun _ _ => ⟨[], [], [], false⟩) k).cx [(97, S97 k), (142, S142 k), (170, S170 k)]) 5 Tryz.f144 (S144 0).params (S144 0).res true) = fun k => (S144 k).sem := by kernel_rfl
theorem ok144 {G : World → Prop} (hG : Lasts G) (k : Nat) : (S144 k).ok Tryz.prog G 144 := fn_ok (T_ok (fun _ _ => ⟨[], [], [], false⟩) k) hG (calls := [(97, S97 k), (142, S142 k), (170, S170 k)]) ⟨ok97 hG k, ok142 hG k, ok170 hG k, trivial⟩ 5 rfl (S144 k) (congrFun e144 k)

/-- loop.example/g01402/impl.connOk -/
def F89 (k : Nat) (a0 : D9) (a1 : Int) : Option (Bool) :=
  ((F86 k a0.1 (0 : Int) (7 : Int)).bind fun r1 => (bif (!r1) then some false else (bif (decide ((1500 : Int) < (a0.2.1.size : Int))) then some false else ((F86 k a0.1 (1 : Int) (6 : Int)).bind fun r2 => (bif r2 then ((F144 k a0.2.2.2.1).bind fun r3 => (bif (!r3) then some false else ((F86 k a0.2.2.2.2.2.2.2.1 (0 : Int) (wrap64 (a1 - (1 : Int)))).bind fun r4 => (bif r4 then some true else (bif (decide (a0.2.2.2.2.2.2.2.1 = (-1 : Int))) then some (!decide (a0.1 = (5 : Int))) else some false))))) else ((F86 k a0.2.2.2.2.2.2.2.1 (0 : Int) (wrap64 (a1 - (1 : Int)))).bind fun r5 => (bif r5 then some true else (bif (decide (a0.2.2.2.2.2.2.2.1 = (-1 : Int))) then some (!decide (a0.1 = (5 : Int))) else some false))))))))
def S89 (k : Nat) : CSpec := { params := [U9, (.int .i64)], res := [(.bool, false)], fresh := true, sem := fun x => F89 k x.1 x.2.1 }
theorem e89 : (fun k => evFn ((T (fun _ _ => ⟨[], [], [], false⟩) k).cx [(86, S86 k), (144, S144 k)]) 5 Tryz.f89 (S89 0).params (S89 0).res true) = fun k => (S89 k).sem := by kernel_rfl
theorem ok89 {G : World → Prop} (hG : Lasts G) (k : Nat) : (S89 k).ok Tryz.prog G 89 := fn_ok (T_ok (fun _ _ => ⟨[], [], [], false⟩) k) hG (calls := [(86, S86 k), (144, S144 k)]) ⟨ok86 hG k, ok144 hG k, trivial⟩ 5 rfl (S89 k) (congrFun e89 k)

/-- loop.example/g01402/impl.WorldOk -/
def F32 (k : Nat) (a0 : D14) : Option (Bool) :=
  ((F60 k a0.2.2.2.1).bind fun r1 => (bif (!r1) then some false else ((F85 k a0.2.2.2.2.2.1).bind fun r2 => (bif (!r2) then some false else ((F86 k a0.1 (0 : Int) (2000000000 : Int)).bind fun r3 => (bif (!r3) then some false else (bif (decide ((4 : Int) < (a0.2.2.1.length : Int))) then some false else (bif (decide (a0.2.1 < (0 : Int))) then some false else (iter (σ := Int × Unit) (fun rec8 x7 => (bif (decide (x7.1 < (a0.2.2.1.length : Int))) then (bif (decide (0 ≤ x7.1 ∧ x7.1 < (a0.2.2.1.length : Int))) then ((F89 k (a0.2.2.1.getD x7.1.toNat Z9) (a0.2.2.2.2.1.length : Int)).bind fun r9 => (bif (!r9) then some (!(decide ((0 : Int) ≤ x7.1))) else (rec8 ((wrap64 (x7.1 + (1 : Int))), ())))) else none) else some (!(decide ((0 : Int) ≤ (-1 : Int)))))) k ((0 : Int), ()))))))))))
def S32 (k : Nat) : CSpec := { params := [U14], res := [(.bool, false)], fresh := true, sem := fun x => F32 k x.1 }
theorem e32 : (fun k => evFn ((T (fun _ _ => ⟨[8], [], [], false⟩) k).cx [(60, S60 k), (85, S85 k), (86, S86 k), (89, S89 k)]) 5 Tryz.f32 (S32 0).params (S32 0).res true) = fun k => (S32 k).sem := by kernel_rfl
theorem ok32 {G : World → Prop} (hG : Lasts G) (k : Nat) : (S32 k).ok Tryz.prog G 32 := fn_ok (T_ok (fun _ _ => ⟨[8], [], [], false⟩) k) hG (calls := [(60, S60 k), (85, S85 k), (86, S86 k), (89, S89 k)]) ⟨ok60 hG k, ok85 hG k, ok86 hG k, ok89 hG k, trivial⟩ 5 rfl (S32 k) (congrFun e32 k)

/-- loop.example/g01402/laws.FnExactWorldOk -/
def F7 (k : Nat) (a0 : D14) : Option (Bool) :=
  ((F23 k a0 (1048576 : Int)).bind fun r1 => (bif (decide (r1 < (0 : Int))) then some true else ((F26 k a0).bind fun r2 => ((F31 k r2).bind fun r3 => ((F26 k a0).bind fun r4 => ((F32 k r4).bind fun r5 => (bif (!(r5 == r3)) then some false else ((F26 k a0).bind fun r6 => ((F29 k r4 r6).bind fun r7 => (bif (!r7) then some false else some true))))))))))
def S7 (k : Nat) : CSpec := { params := [U14], res := [(.bool, false)], fresh := true, sem := fun x => F7 k x.1 }
theorem e7 : (fun k => evFn ((T (fun _ _ => ⟨[], [], [], false⟩) k).cx [(23, S23 k), (26, S26 k), (29, S29 k), (31, S31 k), (32, S32 k)]) 5 Tryz.f7 (S7 0).params (S7 0).res true) = fun k => (S7 k).sem := by kernel_rfl
theorem ok7 {G : World → Prop} (hG : Lasts G) (k : Nat) : (S7 k).ok Tryz.prog G 7 := fn_ok (T_ok (fun _ _ => ⟨[], [], [], false⟩) k) hG (calls := [(23, S23 k), (26, S26 k), (29, S29 k), (31, S31 k), (32, S32 k)]) ⟨ok23 hG k, ok26 hG k, ok29 hG k, ok31 hG k, ok32 hG k, trivial⟩ 5 rfl (S7 k) (congrFun e7 k)
end Go.Proofs.YtcaknaddeblecaaGreatDoor.Fns
